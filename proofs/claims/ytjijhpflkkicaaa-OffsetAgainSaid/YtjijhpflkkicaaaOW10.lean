/-
  Package offset: Left, walked.
-/
import Derived.Test.YtjijhpflkkicaaaOW9
import Derived.Test.YtjijhpflkkicaaaOPlain4
set_option linter.unusedVariables false
set_option linter.unusedSimpArgs false
namespace Go.Mem
open Go Go.RowKit
theorem Rd.drop1 {k : IntKind} {w : World} {b o n c : Nat} {zs : List Int} (h : Rd k w (.slice (some ⟨b, o, none⟩) n c) zs) (a : Option Addr) (ha : 1 < zs.length → a = some ⟨b, o + 1, none⟩) (hn : a ≠ none) (m c' : Nat) (hm : m = n - 1) (h0 : 0 < zs.length) : Rd k w (.slice a m c') (zs.drop 1) := by
  obtain ⟨a0, c0, e, hl, _, hc⟩ := h
  injection e with e1 e2 e3
  obtain ⟨b', o', e4, hb, hcell⟩ := hc h0
  rw [e4] at e1
  injection e1 with e1
  injection e1 with e5 e6
  subst e5
  subst e6
  refine ⟨a, c', by rw [List.length_drop, hm, e2], by rw [List.length_drop]; omega, fun q => absurd q hn, fun hq => ?_⟩
  rw [List.length_drop] at hq
  refine ⟨b, o + 1, ha (by omega), hb, fun j hj => ?_⟩
  rw [List.length_drop] at hj
  rw [show o + 1 + j = o + (1 + j) by omega, hcell (1 + j) (by omega)]
  congr 2
  rw [List.getD_eq_getElem?_getD, List.getD_eq_getElem?_getD, List.getElem?_drop]
end Go.Mem
namespace Go.Proofs.Ytjijhpflkkicaaa
open Go Go.RowKit Go.Mem Go.MoneyP Go.NetP Go.BuildP Go.OffP Go.Shelf
/-- What Left answers. -/
def LeftD (l : List Du) (ps : List Int) (w : World) (en : Ending) (w' : World) : Prop :=
  (leftE l ps ≠ 0 ∧ en = .returned (.tuple #[.slice none 0 0, .int .i64 (leftE l ps)]) ∧ Below w.heap.size w w') ∨
  (leftE l ps = 0 ∧ ∃ v, en = .returned (.tuple #[v, .int .i64 0]) ∧ Sep w w' [recT duR 44 v (leftL l ps)])
set_option maxRecDepth 100000 in
set_option maxHeartbeats 4000000 in
theorem oleft_any (l : List Du) (ps : List Int) (vl vp : Value) (w : World) (h : RdG duR w vl l) (h' : Rd .i64 w vp ps) (hcap : ∀ a n c, vp = .slice a n c → n ≤ c) (hl1 : l.length ≤ 1000) (hwf : ∀ d ∈ l, d.x ≤ 9223372036854775807) :
    Calls Try.prog 14 #[vl, vp] w fun en w' => LeftD l ps w en w' := by
  obtain ⟨i0, hi0, hz0, hz1, hz2⟩ := info_parts Try.infoDu
  obtain ⟨al, cl, rfl⟩ := h.shape
  obtain ⟨ap, cp, rfl⟩ := h'.shape
  have hpc := hcap _ _ _ rfl
  have hpl := h'.le'
  clear hcap
  have HWF := Lib.hid hwf
  clear hwf
  have hol := open_le l
  go_enter Try.func14, Try.ntmps14
  go_wp2_with fail
  refine (openo_any l _ _ h (by omega)).mono ?_
  rintro en w1 ⟨u, rfl, k1⟩
  obtain ⟨au, cu, rfl⟩ := (k1.rdRecs 0 rfl).shape
  have hs := (Sep.start w).belowStep k1.below
  clear k1
  by_cases hlen : (openL l).length = ps.length
  rotate_left
  · have H0 := Lib.hid (show leftE l ps = 1 by unfold leftE; rw [if_pos hlen])
    have d0 : (((openL l).length : Int) != (ps.length : Int)) = true := by simpa using fun e : ((openL l).length : Int) = ps.length => hlen (by omega)
    go_wp2_with fail
    (repeat rw [Exit.noGoto_ret])
    go_ret2
    exact .inl ⟨by rw [H0.out]; decide, by rw [H0.out]; rfl, hs.below⟩
  have HLEN := Lib.hid hlen
  rw [hlen]
  have hps : ps.length ≤ 1000 := by omega
  clear hlen hol
  go_wp2_with fail
  refine wp_loopM [none, none, none, none, some 4, some 5, none, some 7, none, none, none, none, none, none, none, none, none, none, none, some 19, some 20, some 21, some 22, some 23, some 24, some 25, none, none, none, none, none, none, none, none, none, none, none, none, none, none, none, none, none, none, none, none, none, none, none, none, none, none, none, none, none, none, none, none, none, none, none, none, none] (fun (r : Nat) (f : Nat → Value) (wr : World) => (fun (v : Value) => ∃ i : Nat, v = .int .i64 i ∧ i ≤ ps.length ∧ r = ps.length - i ∧ Hid (∀ x ∈ ps.take i, ¬ x < 0) ∧ wr = w1) (f 19)) (ps.length) (by kernel_rfl) ?atStart1 ?round1
  case' atStart1 => (try dsimp only [nthV])
  case' round1 =>
    intro gk f wr l hl hrel J1 K1 hJ1 hK1
    (try simp only [mask] at hl)
    generalize f 19 = u19 at hl hrel
    subst hl
    (try dsimp only at hrel)
  case atStart1 => exact ⟨0, rfl, Nat.zero_le _, rfl, Lib.hid (by simp), rfl⟩
  case round1 =>
    obtain ⟨i, rfl, hi, rfl, HN, rfl⟩ := hrel
    by_cases hlt : i < ps.length
    · have hiI : (i : Int) < ps.length := by omega
      obtain ⟨b1, o1, e1, _, hc1⟩ := (hs.rd h').at i hlt
      subst e1
      obtain ⟨X, hX⟩ : ∃ X, X = ps.getD i 0 := ⟨_, rfl⟩
      rw [← hX] at hc1
      by_cases hneg : X < 0
      · have H0 := Lib.hid (show leftE l ps = 1 by
          unfold leftE
          rw [if_neg (by rw [HLEN.out]; simp), if_pos]
          exact List.any_eq_true.2 ⟨X, by rw [hX]; exact getD_mem hlt, decide_eq_true hneg⟩)
        clear hX
        go_wp2_with fail
        (repeat rw [Exit.noGoto_ret])
        go_ret2
        exact .inl ⟨by rw [H0.out]; decide, by rw [H0.out]; rfl, hs.below⟩
      · have HN2 := Lib.hid (show ∀ x ∈ ps.take (i + 1), ¬ x < 0 by
          rw [take_snoc hlt]
          intro y hy
          rcases List.mem_append.1 hy with q | q
          · exact HN.out y q
          · rw [List.mem_singleton.1 q, ← hX]; exact hneg)
        clear hX
        go_wp2_with fail
        refine Round.intro (ps.length - (i + 1)) ?measure2 (by kernel_rfl) (hJ1 _ _ _ ?rel2)
        case' rel2 => (try dsimp only [nthV])
        case measure2 => omega
        case rel2 => exact ⟨i + 1, by go_num, hlt, rfl, HN2, rfl⟩
    · obtain rfl : i = ps.length := by omega
      have hnn := HN.out
      rw [List.take_length] at hnn
      have HNN := Lib.hid (show ∀ k, 0 ≤ ps.getD k 0 from fun k => by
        rcases Nat.lt_or_ge k ps.length with q | q
        · have := hnn _ (getD_mem q); omega
        · rw [List.getD_eq_getElem?_getD, List.getElem?_eq_none q]; exact Int.le_refl _)
      have HANY := Lib.hid (show ps.any (fun p => decide (p < 0)) = false from List.any_eq_false.2 fun x hx => by have := hnn x hx; simp; omega)
      have HE := Lib.hid (show leftE l ps = if okO l ps l.length = true then 0 else 12 by unfold leftE; rw [if_neg (by rw [HLEN.out]; simp), if_neg (by rw [HANY.out]; decide)])
      clear hnn HN hlt hi
      go_wp2_with fail
      refine wp_loopM [none, some 1, none, none, some 4, some 5, none, none, some 8, none, some 10, none, none, none, none, none, none, none, none, none, none, none, none, none, none, none, none, none, some 28, some 29, some 30, some 31, some 32, some 33, some 34, some 35, some 36, some 37, some 38, some 39, some 40, some 41, some 42, some 43, some 44, some 45, some 46, some 47, some 48, some 49, some 50, some 51, some 52, some 53, some 54, some 55, some 56, some 57, some 58, some 59, some 60, some 61, none] (fun (r : Nat) (f : Nat → Value) (wr : World) => (fun (v vo vq : Value) => ∃ (i : Nat) (ao : Option Addr) (co : Nat) (aq : Option Addr) (cq : Nat), v = .int .i64 i ∧ vo = .slice ao (leftO l ps i).length co ∧ vq = .slice aq (ps.length - posO l i) cq ∧ ps.length - posO l i ≤ cq ∧ i ≤ l.length ∧ r = l.length - i ∧ Hid (okO l ps i = true ∧ Rd .i64 w (.slice aq (ps.length - posO l i) cq) (ps.drop (posO l i))) ∧ Sep w wr [recT duR 44 (.slice ao (leftO l ps i).length co) (leftO l ps i)]) (f 28) (f 8) (f 1)) (l.length) (by kernel_rfl) ?atStart3 ?round3
      case' atStart3 => (try dsimp only [nthV])
      case' round3 =>
        intro gk f wr l hl hrel J2 K2 hJ2 hK2
        (try simp only [mask] at hl)
        generalize f 28 = u28 at hl hrel
        generalize f 8 = u8 at hl hrel
        generalize f 1 = u1 at hl hrel
        subst hl
        (try dsimp only at hrel)
      case atStart3 => exact ⟨0, none, 0, ap, cp, rfl, rfl, rfl, hpc, Nat.zero_le _, rfl, Lib.hid ⟨rfl, h'⟩, hs.nilRecs duR _⟩
      case round3 =>
        clear hs
        obtain ⟨i, ao, co, aq, cq, rfl, rfl, rfl, hcq, hi, rfl, HI, hs⟩ := hrel
        have hol := leftO_len l ps i
        by_cases hlt : i < l.length
        · have hiI : (i : Int) < l.length := by omega
          have HOK := HI.out.1
          have HRD := Lib.hid HI.out.2
          clear HI
          have HPS := Lib.hid (posO_succ hlt)
          have HPL := Lib.hid (fun hh => posO_lt hlt hh)
          have hge : l.getD i default = l[i] := by simp [hlt]
          have HLS := Lib.hid (leftO_succ l ps i)
          have HOS := Lib.hid (okO_succ l ps i)
          rw [hge] at HLS HOS
          obtain ⟨b1, o1, e1, _, hc1⟩ := (hs.rdG h).at i hlt
          subst e1
          have hxx := HWF.out _ (List.getElem_mem hlt)
          obtain ⟨x, hx⟩ : ∃ x, x = l[i] := ⟨_, rfl⟩
          rw [← hx] at hc1 HPS HPL HLS HOS hxx
          clear hx hge
          obtain ⟨id, f, t, x, we, u, hh⟩ := x
          have x0 := hc1 0 (by decide)
          have x1 := hc1 1 (by decide)
          have x2 := hc1 2 (by decide)
          have x3 := hc1 3 (by decide)
          have x4 := hc1 4 (by decide)
          have x5 := hc1 5 (by decide)
          have x6 := hc1 6 (by decide)
          simp only [duR, Nat.add_zero, List.getElem?_cons_zero, List.getElem?_cons_succ] at x0 x1 x2 x3 x4 x5 x6
          clear hc1
          dsimp only at HPS HPL hxx
          obtain ⟨P, hP⟩ : ∃ P, P = posO l i := ⟨_, rfl⟩
          rw [← hP] at HPS HPL HLS HOS HRD hcq ⊢
          clear hP
          have hxb := (hs.rdG h).le'
          go_upto_region 13 with fail
          replace hs := hs.newCells #[.int .u64 id, .int .i64 f, .int .i64 t, .int .i64 x, .int .i64 we, .int .i64 u, .bool hh] 44
          obtain ⟨B, hB⟩ : ∃ B, B = wr.heap.size := ⟨_, rfl⟩
          rw [← hB] at hs ⊢
          clear hB x0 x1 x2 x3 x4 x5 x6
          generalize World.alloc wr _ = W1 at hs ⊢
          have x0 := cell_of (hs.cells 0 rfl) 0
          have x1 := cell_of (hs.cells 0 rfl) 1
          have x2 := cell_of (hs.cells 0 rfl) 2
          have x3 := cell_of (hs.cells 0 rfl) 3
          have x4 := cell_of (hs.cells 0 rfl) 4
          have x5 := cell_of (hs.cells 0 rfl) 5
          have x6 := cell_of (hs.cells 0 rfl) 6
          have xf := fun j => frozen_of (hs.cells 0 rfl) j
          simp only [List.getElem?_toArray, List.getElem?_cons_zero, List.getElem?_cons_succ] at x0 x1 x2 x3 x4 x5 x6
          cases hh
          rotate_left
          · have HOK2 := Lib.hid (show okO l ps (i + 1) = true by rw [HOS.out, HOK]; rfl)
            have HL2 := Lib.hid (show leftO l ps (i + 1) = leftO l ps i ++ [⟨id, f, t, x, we, u, true⟩] by rw [HLS.out]; rfl)
            have HP2 := Lib.hid (show posO l (i + 1) = P by rw [HPS.out]; simp)
            clear HLS HOS HPL HPS HOK
            go_wp2_with (at_builtin; refine wpList_appRec duR rfl (.tmp 57) (.tmp 59) 22 rfl 44 i0 _ 56 Try.underlying22 hi0 hz0 hz1 hz2 rfl _ _ ⟨id, f, t, x, we, u, true⟩ hs 1 rfl _ rfl rfl rfl ?c3true ?c4true ?growtrue)
            case c3true => unfold maxLen; omega
            case c4true => omega
            case' growtrue =>
              intro v' w5 hs2 hv
              obtain ⟨g2, k2, rfl⟩ := hv.out
              rw [← HL2.out] at hs2
              have hLL : (leftO l ps i).length + 1 = (leftO l ps (i + 1)).length := by rw [HL2.out, List.length_append]; rfl
              rw [hLL] at hs2 ⊢
              replace hs2 := hs2.tail
              clear hs hv x0 x1 x2 x3 x4 x5 x6 xf hLL
              go_wp2_with fail
            refine Round.intro (l.length - (i + 1)) ?measure4 (by kernel_rfl) (hJ2 _ _ _ ?rel4)
            case' rel4 => (try dsimp only [nthV])
            case measure4 => omega
            case rel4 => exact ⟨i + 1, _, _, aq, cq, by go_num, rfl, by rw [HP2.out], by rw [HP2.out]; exact hcq, hlt, rfl, Lib.hid ⟨HOK2.out, by rw [HP2.out]; exact HRD.out⟩, hs2⟩
          · have hPl := HPL.out rfl
            rw [HLEN.out] at hPl
            have hP1 : posO l (i + 1) = P + 1 := by rw [HPS.out]; simp
            have hm0 : 0 < (ps.drop P).length := by rw [List.length_drop]; omega
            obtain ⟨bq, oq, eq, _, y0⟩ := (hs.rd HRD.out).at 0 hm0
            subst eq
            rw [drop_getD, Nat.add_zero] at y0
            have hp0 := HNN.out P
            obtain ⟨pp, hpp⟩ : ∃ pp, pp = ps.getD P 0 := ⟨_, rfl⟩
            rw [← hpp] at y0 hp0 HLS HOS
            have HP1 := Lib.hid hP1
            have HPPV := Lib.hid hpp
            clear hpp HPS HPL hP1
            obtain ⟨m, hm⟩ : ∃ m, m = ps.length - P := ⟨_, rfl⟩
            have HM := Lib.hid hm
            have hm1 : 0 < m := by omega
            have hm1I : (0 : Int) < m := by omega
            rw [← hm] at hcq HRD ⊢
            by_cases hgt : x < pp
            · have H0 := Lib.hid (show leftE l ps = 12 by
                rw [HE.out, if_neg]
                rw [okO_stop (i := i + 1) (by rw [HOS.out]; simp [okD]; intro _; omega) l.length hlt]
                decide)
              clear HLS HOS hm
              go_wp2_with fail
              refine Mix.region [0, 0, 0, 0, 0, 0] (fun _ => True) (by kernel_rfl) (by kernel_rfl) trivial ?_
              simp only [List.zip_cons_cons, List.zip_nil_right]
              iterate 6 (refine Mix.step0 fun K hK => ?_; go_simp; (try (go_bits; try go_simp)); first | ((with_reducible refine hK _ _ ?_); clear hK K) | ((try (simp only [IntWalk.iteOmega]; try go_simp)); (try go_bits); (with_reducible refine hK _ _ ?_); clear hK K))
              refine Mix.done ?_
              replace hs := hs.drew
              go_wp2_with fail
              (repeat rw [Exit.noGoto_ret])
              go_ret2
              exact .inl ⟨by rw [H0.out]; decide, by rw [H0.out]; rfl, hs.below⟩
            · have HOK2 := Lib.hid (show okO l ps (i + 1) = true by rw [HOS.out, HOK]; simp [okD]; omega)
              clear HOS HOK hm
              go_wp2_with fail
              refine Mix.region [0, 0, 0, 0, 0, 0] (fun _ => True) (by kernel_rfl) (by kernel_rfl) trivial ?_
              simp only [List.zip_cons_cons, List.zip_nil_right]
              iterate 6 (refine Mix.step0 fun K hK => ?_; go_simp; (try (go_bits; try go_simp)); first | ((with_reducible refine hK _ _ ?_); clear hK K) | ((try (simp only [IntWalk.iteOmega]; try go_simp)); (try go_bits); (with_reducible refine hK _ _ ?_); clear hK K))
              refine Mix.done ?_
              replace hs := hs.drew
              clear x0 x1 x2 x3 x4 x5 x6 xf y0
              go_upto_region 16 with fail
              generalize World.drew W1 = W2 at hs ⊢
              have x0 := cell_of (hs.cells 0 rfl) 0
              have x1 := cell_of (hs.cells 0 rfl) 1
              have x2 := cell_of (hs.cells 0 rfl) 2
              have x3 := cell_of (hs.cells 0 rfl) 3
              have x4 := cell_of (hs.cells 0 rfl) 4
              have x5 := cell_of (hs.cells 0 rfl) 5
              have x6 := cell_of (hs.cells 0 rfl) 6
              have xf := fun j => frozen_of (hs.cells 0 rfl) j
              simp only [List.getElem?_toArray, List.getElem?_cons_zero, List.getElem?_cons_succ] at x0 x1 x2 x3 x4 x5 x6
              obtain ⟨_, _, eq, _, y0⟩ := (hs.rd HRD.out).at 0 hm0
              injection eq with eq
              injection eq with q1 q2
              subst q1
              subst q2
              rw [drop_getD, Nat.add_zero, ← HPPV.out] at y0
              refine Mix.region [0, 0, 0, 0, 0, 0, 0, 2] (fun _ => True) (by kernel_rfl) (by kernel_rfl) trivial ?_
              simp only [List.zip_cons_cons, List.zip_nil_right]
              iterate 7 (refine Mix.step0 fun K hK => ?_; go_simp; (try (go_bits; try go_simp)); first | ((with_reducible refine hK _ _ ?_); clear hK K) | ((try (simp only [IntWalk.iteOmega]; try go_simp)); (try go_bits); (with_reducible refine hK _ _ ?_); clear hK K))
              refine Mix.step2n (by first | rfl | simp [Region.wanted, yielded]) fun K hK => ?_
              go_wp2_with fail
              refine Mix.post_mk (C := (fun _ => True)) trivial (hK _ _ ?_)
              clear hK K
              refine Mix.done ?_
              have hs2 := (hs.setC 0 rfl 3 (.int .i64 (x - pp)) #[.int .u64 id, .int .i64 f, .int .i64 t, .int .i64 (x - pp), .int .i64 we, .int .i64 u, .bool false] rfl).drew
              (try simp only [List.set_cons_zero] at hs2)
              clear hs x0 x1 x2 x3 x4 x5 x6 xf y0
              go_upto_region 17 with fail
              generalize World.drew _ = W3 at hs2 ⊢
              have hs := hs2
              clear hs2
              have x0 := cell_of (hs.cells 0 rfl) 0
              have x1 := cell_of (hs.cells 0 rfl) 1
              have x2 := cell_of (hs.cells 0 rfl) 2
              have x3 := cell_of (hs.cells 0 rfl) 3
              have x4 := cell_of (hs.cells 0 rfl) 4
              have x5 := cell_of (hs.cells 0 rfl) 5
              have x6 := cell_of (hs.cells 0 rfl) 6
              have xf := fun j => frozen_of (hs.cells 0 rfl) j
              simp only [List.getElem?_toArray, List.getElem?_cons_zero, List.getElem?_cons_succ] at x0 x1 x2 x3 x4 x5 x6
              by_cases hc1 : cq = 1
              · subst hc1
                have HR2 := Lib.hid (HRD.out.drop1 (some ⟨bq, oq, none⟩) (fun q => by rw [List.length_drop] at q; have := HM.out; omega) (by simp) (m - 1) (1 - 1) rfl hm0)
                rw [List.drop_drop] at HR2
                have hml : m - 1 = ps.length - posO l (i + 1) := by rw [HP1.out, HM.out]; omega
                rw [hml, ← HP1.out] at HR2
                have hcle : ps.length - posO l (i + 1) ≤ (1) - 1 := by omega
                have HML := Lib.hid hml
                have HCL := Lib.hid hcle
                clear hml hcle
                by_cases hpos : 0 < x - pp
                · have HL2 := Lib.hid (show leftO l ps (i + 1) = leftO l ps i ++ [⟨id, f, t, x - pp, we, u, false⟩] by rw [HLS.out]; unfold leftD; rw [if_neg (by simp), if_pos hpos]; rfl)
                  clear HLS
                  go_wp2_with (at_builtin; refine wpList_appRec duR rfl (.tmp 57) (.tmp 59) 22 rfl 44 i0 _ 56 Try.underlying22 hi0 hz0 hz1 hz2 rfl _ _ ⟨id, f, t, x - pp, we, u, false⟩ hs 1 rfl _ rfl rfl rfl ?c5a ?c6a ?grow2a)
                  case c5a => unfold maxLen; omega
                  case c6a => omega
                  case' grow2a =>
                    intro v' w5 hs2 hv
                    obtain ⟨g2, k2, rfl⟩ := hv.out
                    rw [← HL2.out] at hs2
                    have hLL : (leftO l ps i).length + 1 = (leftO l ps (i + 1)).length := by rw [HL2.out, List.length_append]; rfl
                    rw [hLL] at hs2 ⊢
                    replace hs2 := hs2.tail
                    clear hs hv x0 x1 x2 x3 x4 x5 x6 xf hLL
                    go_wp2_with fail
                  refine Round.intro (l.length - (i + 1)) ?measure5 (by kernel_rfl) (hJ2 _ _ _ ?rel5)
                  case' rel5 => (try dsimp only [nthV])
                  case measure5 => omega
                  case rel5 => exact ⟨i + 1, _, _, _, _, by go_num, rfl, by first | rw [HML.out] | (have := HML.out; congr 1; omega), HCL.out, hlt, rfl, Lib.hid ⟨HOK2.out, HR2.out⟩, hs2⟩
                · have HL2 := Lib.hid (show leftO l ps (i + 1) = leftO l ps i by rw [HLS.out]; unfold leftD; rw [if_neg (by simp), if_neg hpos, List.append_nil])
                  clear HLS
                  go_wp2_with fail
                  refine Round.intro (l.length - (i + 1)) ?measure6 (by kernel_rfl) (hJ2 _ _ _ ?rel6)
                  case' rel6 => (try dsimp only [nthV])
                  case measure6 => omega
                  case rel6 => exact ⟨i + 1, ao, co, _, _, by go_num, by rw [HL2.out], by first | rw [HML.out] | (have := HML.out; congr 1; omega), HCL.out, hlt, rfl, Lib.hid ⟨HOK2.out, HR2.out⟩, by rw [HL2.out]; exact hs.tail⟩
              · have hcN : ¬ cq = 1 := hc1
                have HR2 := Lib.hid (HRD.out.drop1 (some ⟨bq, oq + 1, none⟩) (fun _ => rfl) (by simp) (m - 1) (cq - 1) rfl hm0)
                rw [List.drop_drop] at HR2
                have hml : m - 1 = ps.length - posO l (i + 1) := by rw [HP1.out, HM.out]; omega
                rw [hml, ← HP1.out] at HR2
                have hcle : ps.length - posO l (i + 1) ≤ (cq) - 1 := by omega
                have HML := Lib.hid hml
                have HCL := Lib.hid hcle
                clear hml hcle
                by_cases hpos : 0 < x - pp
                · have HL2 := Lib.hid (show leftO l ps (i + 1) = leftO l ps i ++ [⟨id, f, t, x - pp, we, u, false⟩] by rw [HLS.out]; unfold leftD; rw [if_neg (by simp), if_pos hpos]; rfl)
                  clear HLS
                  go_wp2_with (at_builtin; refine wpList_appRec duR rfl (.tmp 57) (.tmp 59) 22 rfl 44 i0 _ 56 Try.underlying22 hi0 hz0 hz1 hz2 rfl _ _ ⟨id, f, t, x - pp, we, u, false⟩ hs 1 rfl _ rfl rfl rfl ?c5b ?c6b ?grow2b)
                  case c5b => unfold maxLen; omega
                  case c6b => omega
                  case' grow2b =>
                    intro v' w5 hs2 hv
                    obtain ⟨g2, k2, rfl⟩ := hv.out
                    rw [← HL2.out] at hs2
                    have hLL : (leftO l ps i).length + 1 = (leftO l ps (i + 1)).length := by rw [HL2.out, List.length_append]; rfl
                    rw [hLL] at hs2 ⊢
                    replace hs2 := hs2.tail
                    clear hs hv x0 x1 x2 x3 x4 x5 x6 xf hLL
                    go_wp2_with fail
                  refine Round.intro (l.length - (i + 1)) ?measure7 (by kernel_rfl) (hJ2 _ _ _ ?rel7)
                  case' rel7 => (try dsimp only [nthV])
                  case measure7 => omega
                  case rel7 => exact ⟨i + 1, _, _, _, _, by go_num, rfl, by first | rw [HML.out] | (have := HML.out; congr 1; omega), HCL.out, hlt, rfl, Lib.hid ⟨HOK2.out, HR2.out⟩, hs2⟩
                · have HL2 := Lib.hid (show leftO l ps (i + 1) = leftO l ps i by rw [HLS.out]; unfold leftD; rw [if_neg (by simp), if_neg hpos, List.append_nil])
                  clear HLS
                  go_wp2_with fail
                  refine Round.intro (l.length - (i + 1)) ?measure8 (by kernel_rfl) (hJ2 _ _ _ ?rel8)
                  case' rel8 => (try dsimp only [nthV])
                  case measure8 => omega
                  case rel8 => exact ⟨i + 1, ao, co, _, _, by go_num, by rw [HL2.out], by first | rw [HML.out] | (have := HML.out; congr 1; omega), HCL.out, hlt, rfl, Lib.hid ⟨HOK2.out, HR2.out⟩, by rw [HL2.out]; exact hs.tail⟩
        · obtain rfl : i = l.length := by omega
          have H0 := Lib.hid (show leftE l ps = 0 by rw [HE.out, if_pos HI.out.1])
          go_wp2_with fail
          (repeat rw [Exit.noGoto_ret])
          go_ret2
          exact .inr ⟨H0.out, _, rfl, hs⟩
end Go.Proofs.Ytjijhpflkkicaaa
