/-
  Package offset and its reference: Table, walked.
-/
import Derived.Test.YtjijhpflkkicaaaOW4
import Derived.Test.YtjijhpflkkicaaaSl
set_option linter.unusedVariables false
set_option linter.unusedSimpArgs false
namespace Go.Mem
open Go Go.RowKit
theorem Sep.tabRow {w0 w : World} {L : List Thing} {b : Nat} {E : TypeId} {k : IntKind} {Z : List Int} (h : Sep w0 w L) (i : Nat) (hi : L[i]? = some (tabT k b E Z)) (o n cap : Nat) (ho : o + n ≤ Z.length) (hn : n ≤ maxLen) :
    Rd k w (.slice (some ⟨b, o, none⟩) n cap) ((Z.drop o).take n) := by
  have hlen : ((Z.drop o).take n).length = n := by rw [List.length_take, List.length_drop]; omega
  refine ⟨_, cap, by rw [hlen], by rw [hlen]; exact hn, by simp, fun _ => ⟨b, o, rfl, lt_of (h.cells i hi), fun j hj => ?_⟩⟩
  rw [hlen] at hj
  rw [(h.tabAt i hi (o + j) (by omega)).1]
  congr 2
  simp only [List.getD_eq_getElem?_getD, List.getElem?_take, List.getElem?_drop, if_pos hj]
end Go.Mem
namespace Go.OffP
open Go Go.Mem Go.MoneyP Go.BuildP
def owesRow (n : Nat) (O : List Du) (a : Nat) : List Int := (List.range n).map (owesS O a)
def tableM (n : Nat) (O : List Du) : List (List Int) := (List.range n).map (owesRow n O)
theorem owesRow_len (n : Nat) (O : List Du) (a : Nat) : (owesRow n O a).length = n := by simp [owesRow]
theorem row_tab {n a : Nat} {O : List Du} (ha : a < 16) (hn : n ≤ 16) (h : ∀ d ∈ O, MayD d) : ((tabL O).drop (a * 16)).take n = owesRow n O a := by
  have hl := tabL_len O
  refine List.ext_getElem (by rw [List.length_take, List.length_drop, owesRow_len]; omega) fun j h1 h2 => ?_
  have hj : j < n := by rw [owesRow_len] at h2; exact h2
  have := tabL_at ha (show j < 16 by omega) h
  rw [List.getD_eq_getElem?_getD, List.getElem?_eq_getElem (by omega)] at this
  rw [List.getElem_take, List.getElem_drop]
  simpa [owesRow] using this
/-- The reference's row. -/
def stepR (a : Nat) (Z : List Int) (d : Du) : List Int := if d.f = (a : Int) ∧ d.h = false then Z.set d.t.toNat (Z.getD d.t.toNat 0 + d.x) else Z
def rowR (n a : Nat) (l : List Du) : List Int := l.foldl (stepR a) (List.replicate n 0)
theorem stepR_len (a : Nat) (Z : List Int) (d : Du) : (stepR a Z d).length = Z.length := by unfold stepR; split <;> simp
theorem rowF_len (a : Nat) : ∀ (l : List Du) (Z : List Int), (l.foldl (stepR a) Z).length = Z.length
  | [], _ => rfl
  | d :: l, Z => by rw [List.foldl_cons, rowF_len a l, stepR_len]
theorem rowR_len (n a : Nat) (l : List Du) : (rowR n a l).length = n := by unfold rowR; rw [rowF_len]; simp
theorem rowR_take {n a : Nat} {l : List Du} {i : Nat} (h : i < l.length) : rowR n a (l.take (i + 1)) = stepR a (rowR n a (l.take i)) l[i] := by
  unfold rowR; rw [List.take_succ_eq_append_getElem h, List.foldl_append]; rfl
theorem rowF_at {n a j : Nat} (hj : j < n) : ∀ (l : List Du) (Z : List Int), Z.length = n → (∀ d ∈ l, MayD d ∧ d.t < n) → (l.foldl (stepR a) Z).getD j 0 = Z.getD j 0 + owesS (openL l) a j
  | [], Z, _, _ => by simp [openL, owesS]
  | d :: l, Z, hZ, h => by
    obtain ⟨hm, ht⟩ := h d List.mem_cons_self
    have h3 := hm.t0
    rw [List.foldl_cons, rowF_at hj l _ (by rw [stepR_len]; exact hZ) fun x hx => h x (List.mem_cons_of_mem _ hx)]
    unfold openL owesS stepR
    rw [List.filter_cons]
    by_cases hh : d.h = true
    · rw [if_neg (by rw [hh]; simp), if_neg (by rw [hh]; simp)]
    · have hh : d.h = false := by simpa using hh
      rw [if_pos (c := (!d.h) = true) (by rw [hh]; rfl), List.filter_cons]
      by_cases q : d.f = (a : Int)
      · rw [if_pos ⟨q, hh⟩, getD_set _ _ _ _ (by omega)]
        by_cases q2 : d.t = (j : Int)
        · rw [if_pos (by omega), if_pos (decide_eq_true ⟨q, q2⟩), List.map_cons, List.sum_cons, show d.t.toNat = j by omega]; omega
        · rw [if_neg (by omega), if_neg (by simp; intro _; exact q2)]
      · rw [if_neg (fun e => q e.1), if_neg (by simp; intro e; exact absurd e q)]
theorem rowR_is {n a : Nat} {l : List Du} (h : ∀ d ∈ l, MayD d ∧ d.t < n) : rowR n a l = owesRow n (openL l) a := by
  refine List.ext_getElem (by rw [rowR_len, owesRow_len]) fun j h1 h2 => ?_
  have hj : j < n := by rw [owesRow_len] at h2; exact h2
  have := rowF_at (a := a) hj l (List.replicate n 0) (by simp) h
  rw [List.getD_eq_getElem?_getD, List.getD_eq_getElem?_getD, List.getElem?_replicate, if_pos hj] at this
  have e : (rowR n a l)[j]? = some (rowR n a l)[j] := List.getElem?_eq_getElem h1
  unfold rowR at e ⊢
  rw [e] at this
  simpa [owesRow] using this
theorem rowR_bound {n : Nat} {l : List Du} (hg : GoodN n l) (a i k : Nat) : 0 ≤ (rowR n a (l.take i)).getD k 0 ∧ (rowR n a (l.take i)).getD k 0 ≤ 4503599627370496 := by
  have hmem : ∀ d ∈ l.take i, d ∈ l := fun d hd => List.mem_of_mem_take hd
  rcases Nat.lt_or_ge k n with hk | hk
  · rw [rowR_is fun d hd => ⟨hg.may d (hmem d hd), (hg.inn d (hmem d hd)).2⟩]
    have e : (owesRow n (openL (l.take i)) a).getD k 0 = owesS (openL (l.take i)) a k := by
      rw [List.getD_eq_getElem?_getD]; unfold owesRow; simp [hk]
    rw [e]
    obtain ⟨h1, h2⟩ := owes_bound (openL (l.take i)) (fun d hd => (hg.may d (hmem d (open_mem hd))).x0) a k
    have h3 := sum_open (l.take i) fun d hd => (hg.may d (hmem d hd)).x0
    have h4 := (sumX_le (l := l) (fun d hd => (hg.may d hd).x0) i).2
    have h5 := hg.sum
    omega
  · rw [List.getD_eq_getElem?_getD, List.getElem?_eq_none (by rw [rowR_len]; exact hk)]
    simp
end Go.OffP
namespace Go.Proofs.Ytjijhpflkkicaaa
open Go Go.RowKit Go.Mem Go.MoneyP Go.NetP Go.BuildP Go.OffP Go.Shelf
theorem Try.infoRowo : (Try.prog.info? 23).map (fun i => (i.zero, i.size, i.bytes)) = some (some (.slice none 0 0), 1, 24) := by kernel_rfl
theorem slice_head (W : World) (a : Addr) (N : Nat) (h : N ≤ 16) : (Instr.sliceAt 63 (.pointer (some a)) none (some (.int .i64 N)) none).run Try.prog W = .ok (.slice (some a) N 16) W := by
  obtain ⟨i0, hi0, hz0, hz1, hz2⟩ := info_parts Try.infoI64o
  have hAL : Try.prog.arrayLen 63 = 16 := by kernel_rfl
  have hEL : Try.prog.elem 63 = 2 := by kernel_rfl
  rw [run_sliceAt_array_h W 63 a (by kernel_rfl) .i64 N (by omega) (by rw [hAL]; omega)]
  simp [slicedAt, hAL, hEL, sizeOf, typeInfo, hi0, hz1, Addr.add]
/-- What Table answers. -/
def TableD (n : Int) (l : List Du) (w : World) (en : Ending) (w' : World) : Prop :=
  (netsE n l ≠ 0 ∧ en = .returned (.tuple #[.slice none 0 0, .int .i64 (netsE n l)]) ∧ Below w.heap.size w w') ∨
  (netsE n l = 0 ∧ ∃ v, en = .returned (.tuple #[v, .int .i64 0]) ∧ GridP 23 2 w w' v (tableM n.toNat (openL l)))
set_option maxRecDepth 100000 in
set_option maxHeartbeats 4000000 in
theorem table_any (n : Int) (l : List Du) (vl : Value) (w : World) (h : RdG duR w vl l) :
    Calls Try.prog 8 #[.int .i64 n, vl] w fun en w' => TableD n l w en w' := by
  obtain ⟨i0, hi0, hz0, hz1, hz2⟩ := info_parts Try.infoI64o
  obtain ⟨j0, hj0, hy0, hy1, hy2⟩ := info_parts Try.infoRowo
  have HOF := Lib.hid (of_any n l vl w h)
  go_enter Try.func8, Try.ntmps8
  go_wp2_with fail
  refine HOF.out.mono ?_
  clear HOF
  rintro en w1 (⟨hne, rfl, hb⟩ | ⟨he, rfl, hb⟩)
  · have hs := (Sep.start w).belowStep hb
    clear hb
    have HNE := Lib.hid hne
    have d0 : (netsE n l != 0) = true := by simpa using hne
    obtain ⟨EE, hEE⟩ : ∃ EE, EE = netsE n l := ⟨_, rfl⟩
    rw [← hEE] at d0 ⊢
    have HEE := Lib.hid hEE
    clear hne hEE
    replace hs := hs.newCells Try.zeroCells65 65
    obtain ⟨B6, hB⟩ : ∃ B6, B6 = w1.heap.size := ⟨_, rfl⟩
    rw [← hB] at hs
    have HB := Lib.hid hB
    clear hB
    go_wp2_with (refine wpList_store_mid rfl 65 (.tmp 6) (.tmp 14) rfl B6 0 (tabV .i64 zero256).toArray (by rw [HB.out]; rfl) rfl ?hta ?hia (tabV_one _ _) (Stop.out ?nxa))
    case hta =>
      have := there_of (hs.cells 0 rfl)
      rw [Try.zeros65] at this ⊢
      simp only [List.size_toArray, tabV_len, zero_len, zero_len] at this ⊢
      exact this
    case hia => rw [Try.size65]; simp only [List.size_toArray, tabV_len, zero_len]
    refine Stop.mk ?_
    rw [Try.zeros65, ← HB.out]
    rw [Try.zeros65] at hs
    clear HB
    generalize World.alloc w1 _ = W1 at hs ⊢
    have hs2 := hs.tabStore (Z := zero256) 0 rfl (by simp only [zero_len, zero_len])
    (try simp only [List.set_cons_zero] at hs2)
    clear hs
    generalize World.setCells W1 _ _ _ = W2 at hs2 ⊢
    have hs := hs2
    clear hs2
    go_wp2_with fail
    (repeat rw [Exit.noGoto_ret])
    go_ret2
    exact .inl ⟨HNE.out, by rw [HEE.out]; rfl, hs.below⟩
  · have HE := Lib.hid he
    obtain ⟨N, rfl, hgood⟩ := netsE_good he
    have hs := (Sep.start w).belowStep hb
    have hN16 := hgood.n16
    have HMAY := Lib.hid (show ∀ d ∈ openL l, MayD d from fun d hd => hgood.may d (open_mem hd))
    clear he hgood hb
    obtain ⟨O, hO⟩ : ∃ O, O = openL l := ⟨_, rfl⟩
    obtain ⟨Z, hZ⟩ : ∃ Z, Z = tabL (openL l) := ⟨_, rfl⟩
    rw [← hZ]
    have HZL := Lib.hid (show Z.length = 256 by rw [hZ]; exact tabL_len _)
    have HROW := Lib.hid (show ∀ a, a < 16 → (Z.drop (a * 16)).take N = owesRow N (openL l) a from fun a ha => by rw [hZ]; exact row_tab ha hN16 HMAY.out)
    have HO := Lib.hid hO
    rw [← hO] at HROW
    clear hO hZ
    replace hs := hs.newCells Try.zeroCells65 65
    obtain ⟨B6, hB⟩ : ∃ B6, B6 = w1.heap.size := ⟨_, rfl⟩
    rw [← hB] at hs
    have HB := Lib.hid hB
    clear hB
    go_wp2_with (refine wpList_store_mid rfl 65 (.tmp 6) (.tmp 14) rfl B6 0 (tabV .i64 Z).toArray (by rw [HB.out]; rfl) rfl ?htb ?hib (tabV_one _ _) (Stop.out ?nxb))
    case htb =>
      have := there_of (hs.cells 0 rfl)
      rw [Try.zeros65] at this ⊢
      simp only [List.size_toArray, tabV_len, zero_len, HZL.out] at this ⊢
      exact this
    case hib => rw [Try.size65]; simp only [List.size_toArray, tabV_len, HZL.out]
    refine Stop.mk ?_
    rw [Try.zeros65, ← HB.out]
    rw [Try.zeros65] at hs
    clear HB
    generalize World.alloc w1 _ = W1 at hs ⊢
    have hs2 := hs.tabStore (Z := Z) 0 rfl (by simp only [zero_len, HZL.out])
    (try simp only [List.set_cons_zero] at hs2)
    clear hs
    generalize World.setCells W1 _ _ _ = W2 at hs2 ⊢
    have hs := hs2
    clear hs2
    go_wp2_with (at_make; refine wpList_makeSl rfl (.tmp 19) (.tmp 19) 25 rfl 23 j0 24 Try.underlying25 hj0 hy0 hy1 hy2 N .i64 .i64 rfl rfl hs ?m1 ?m2 ?m3)
    case m1 => unfold maxLen; omega
    case m2 => omega
    case m3 =>
      intro w3 g hs3
      clear hs
      go_wp2_with fail
      refine wp_loopM [none, none, none, none, none, none, none, none, none, some 9, none, none, none, none, none, none, none, none, none, none, none, none, none, some 23, some 24, some 25, some 26, some 27, some 28, some 29, some 30, some 31, some 32, some 33, some 34, some 35, some 36, some 37, some 38, none] (fun (r : Nat) (f : Nat → Value) (wr : World) => (fun (v : Value) => ∃ (i : Nat) (G : List (Sl × List Int)), v = .int .i64 i ∧ i ≤ N ∧ r = N - i ∧ Hid (G.length = i ∧ G.map (·.2) = (List.range i).map (owesRow N O)) ∧ Sep w wr ([recT slR 23 (.slice (some ⟨g, 0, none⟩) N N) (G.map (·.1) ++ List.replicate (N - i) ⟨none, 0, 0⟩), tabT .i64 B6 65 Z] ++ gridL .i64 2 G)) (f 23)) (N) (by kernel_rfl) ?atStart1 ?round1
      case' atStart1 => (try dsimp only [nthV])
      case' round1 =>
        intro gk f wr l hl hrel J1 K1 hJ1 hK1
        (try simp only [mask] at hl)
        generalize f 23 = u23 at hl hrel
        subst hl
        (try dsimp only at hrel)
      case atStart1 => exact ⟨0, [], rfl, Nat.zero_le _, rfl, Lib.hid ⟨rfl, rfl⟩, hs3⟩
      case round1 =>
        clear hs3
        obtain ⟨i, G, rfl, hi, rfl, HG, hs⟩ := hrel
        by_cases hlt : i < N
        · have hiI : (i : Int) < N := by omega
          have hSL := fun W => slice_head W ⟨B6, i * 16, none⟩ N hN16
          have hGl := HG.out.1
          have HOL := Lib.hid (show (G.map (·.1) ++ List.replicate (N - i) (⟨none, 0, 0⟩ : Sl)).length = N by rw [List.length_append, List.length_map, List.length_replicate]; omega)
          have HOI := Lib.hid (show (G.map (·.1) ++ List.replicate (N - i) (⟨none, 0, 0⟩ : Sl))[i]? = some ⟨none, 0, 0⟩ by
            rw [List.getElem?_append_right (by rw [List.length_map]; omega), List.getElem?_replicate, if_pos (by rw [List.length_map]; omega)])
          have HSET := Lib.hid (fun s : Sl => (show (G.map (·.1) ++ List.replicate (N - i) (⟨none, 0, 0⟩ : Sl)).set i s = (G.map (·.1) ++ [s]) ++ List.replicate (N - (i + 1)) ⟨none, 0, 0⟩ by
            rw [List.set_append_right _ _ (by rw [List.length_map]; omega), List.length_map, hGl, Nat.sub_self, show N - i = N - (i + 1) + 1 by omega, List.replicate_succ, List.set_cons_zero, List.append_assoc]; rfl))
          obtain ⟨OL, hOL⟩ : ∃ OL, OL = G.map (·.1) ++ List.replicate (N - i) (⟨none, 0, 0⟩ : Sl) := ⟨_, rfl⟩
          rw [← hOL] at hs HOL HOI HSET
          clear hOL hGl
          have hiO : i < OL.length := by rw [HOL.out]; exact hlt
          obtain ⟨g', cg', eg, _, hcR, hfr⟩ := (hs.recs 0 rfl).get i hiO
          injection eg with eg q1 q2
          injection eg with eg
          injection eg with eg
          subst eg
          have r0 := hcR i hiO 0 (by decide)
          have e0 : OL[i] = ⟨none, 0, 0⟩ := by have := HOI.out; rw [List.getElem?_eq_getElem hiO] at this; exact Option.some.inj this
          rw [e0] at r0
          simp only [slR, List.getElem?_cons_zero, Nat.mul_one, Nat.add_zero] at r0
          clear q1 q2
          have hRD := hs.drew.tabRow 1 rfl (i * 16) N 16 (by rw [HZL.out]; omega) (by unfold maxLen; omega)
          rw [HROW.out i (by omega)] at hRD
          have HRD := Lib.hid hRD
          have HIL := Lib.hid (owesRow_len N O i)
          have hsn := (hs.drew.nilInts .i64 2)
          clear hcR e0 hRD
          go_wp2_with fail
          refine Mix.region [1, 1, 0, 0, 0, 0, 0, 0, 0, 0, 2, 0, 2] (fun _ => True) (by kernel_rfl) (by kernel_rfl) trivial ?_
          simp only [List.zip_cons_cons, List.zip_nil_right]
          iterate 2 (refine Mix.step1 fun K hK => ?_; go_simp; (try (go_bits; try go_simp)); first | ((with_reducible refine hK _ _ ?_); clear hK K) | ((try (simp only [IntWalk.iteOmega]; try go_simp)); (try go_bits); (with_reducible refine hK _ _ ?_); clear hK K))
          iterate 8 (refine Mix.step0 fun K hK => ?_; go_simp; (try (go_bits; try go_simp)); first | ((with_reducible refine hK _ _ ?_); clear hK K) | ((try (simp only [IntWalk.iteOmega]; try go_simp)); (try go_bits); (with_reducible refine hK _ _ ?_); clear hK K))
          refine Mix.step2n (by first | rfl | simp [Region.wanted, yielded]) fun K hK => ?_
          refine wpList_appRd rfl (.tmp 31) (.tmp 35) 23 rfl 2 i0 _ 8 Try.underlying23 hi0 hz0 hz1 hz2 rfl _ [] .i64 _ (owesRow N O i) hsn 0 rfl HRD.out rfl rfl (by rw [HIL.out]; simp [maxLen]; omega) (by rw [HIL.out]; simp; omega) ?_
          intro v' w5 hs2
          (try simp only [List.set_cons_zero, List.nil_append] at hs2)
          obtain ⟨ah, ch, rfl⟩ := (hs2.rdInts 0 rfl).shape
          rw [HIL.out] at hs2 ⊢
          clear hs hsn HRD r0 hfr
          have hs := hs2
          clear hs2
          obtain ⟨g', cg', eg, _, hcR, hfr⟩ := (hs.recs 1 rfl).get i hiO
          injection eg with eg q1 q2
          injection eg with eg
          injection eg with eg
          subst eg
          clear q1 q2
          have r0 := hcR i hiO 0 (by decide)
          have e0 : OL[i] = ⟨none, 0, 0⟩ := by have := HOI.out; rw [List.getElem?_eq_getElem hiO] at this; exact Option.some.inj this
          rw [e0] at r0
          simp only [slR, List.getElem?_cons_zero, Nat.mul_one, Nat.add_zero] at r0
          clear hcR e0
          go_wp2_with fail
          refine Mix.post_mk (C := (fun _ => True)) trivial (hK _ _ ?_)
          clear hK K
          iterate 1 (refine Mix.step0 fun K hK => ?_; go_simp; (try (go_bits; try go_simp)); first | ((with_reducible refine hK _ _ ?_); clear hK K) | ((try (simp only [IntWalk.iteOmega]; try go_simp)); (try go_bits); (with_reducible refine hK _ _ ?_); clear hK K))
          refine Mix.step2n (by first | rfl | simp [Region.wanted, yielded]) fun K hK => ?_
          go_wp2_with fail
          refine Mix.post_mk (C := (fun _ => True)) trivial (hK _ _ ?_)
          clear hK K
          refine Mix.done ?_
          have hs2 := hs.setRow (R := slR) 1 rfl i hiO 0 (by decide) ⟨ah, N, ch⟩ (.slice ah N ch) rfl
          rw [show i * slR.m + 0 = i from by show i * 1 + 0 = i; omega] at hs2
          simp only [List.cons_append, List.nil_append, List.set_cons_zero, List.set_cons_succ] at hs2
          rw [HSET.out] at hs2
          clear hs r0 hfr
          have hs := hs2
          clear hs2
          go_wp2_with fail
          refine Round.intro (N - (i + 1)) ?measure2 (by kernel_rfl) (hJ1 _ _ _ ?rel2)
          case' rel2 => (try dsimp only [nthV])
          case measure2 => omega
          case rel2 =>
            refine ⟨i + 1, G ++ [(⟨ah, N, ch⟩, owesRow N O i)], by go_num, hlt, rfl, Lib.hid ⟨by rw [List.length_append, HG.out.1]; rfl, ?_⟩, ?_⟩
            · rw [List.map_append, HG.out.2, List.range_succ, List.map_append]; rfl
            · rw [List.map_append]
              exact Sep.gridAdd (s := ⟨ah, N, ch⟩) hs
        · obtain rfl : N = i := by omega
          go_wp2_with fail
          (repeat rw [Exit.noGoto_ret])
          go_ret2
          refine .inr ⟨HE.out, _, rfl, G, ?_, ?_⟩
          · rw [HG.out.2, Int.toNat_natCast, HO.out]; rfl
          · have h2 := hs.omit 1
            rw [Nat.sub_self, List.replicate_zero, List.append_nil] at h2
            exact h2
end Go.Proofs.Ytjijhpflkkicaaa
