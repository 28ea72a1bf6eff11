/-
 Tables: offset.of, Table, the reference; equal tables. Walked.
-/
import Derived.Test.YtjijhpflkkicaaaOA
import Derived.Test.YtjijhpflkkicaaaTab
import Derived.Test.YtjijhpflkkicaaaLC
import Derived.Test.YtjijhpflkkicaaaSl
set_option linter.unusedVariables false
set_option linter.unusedSimpArgs false
namespace Go.OffP
open Go Go.Mem Go.MoneyP Go.BuildP
/-- The table of dues: 16 rows of 16. -/
def stepTb (Z : List Int) (d : Du) : List Int := Z.set (d.f.toNat * 16 + d.t.toNat) (Z.getD (d.f.toNat * 16 + d.t.toNat) 0 + d.x)
def zero256 : List Int := List.replicate 256 0
theorem zero_len : zero256.length = 256 := by unfold zero256; rw [List.length_replicate]
def tabL (O : List Du) : List Int := O.foldl stepTb zero256
theorem tab_len : ∀ (O : List Du) (Z : List Int), (O.foldl stepTb Z).length = Z.length
 | [], _ => rfl
 | d :: O, Z => by rw [List.foldl_cons, tab_len O]; simp [stepTb]
theorem tabL_len (O : List Du) : (tabL O).length = 256 := by unfold tabL; rw [tab_len, zero_len]
theorem tabL_take {O : List Du} {i : Nat} (h : i < O.length) : tabL (O.take (i + 1)) = stepTb (tabL (O.take i)) O[i] := by
 unfold tabL; rw [List.take_succ_eq_append_getElem h, List.foldl_append]; rfl
/-- Who owes whom how much. -/
def owesS (O : List Du) (a b : Nat) : Int := ((O.filter fun d => decide (d.f = (a : Int) ∧ d.t = (b : Int))).map (·.x)).sum
theorem tab_at {a b : Nat} (ha : a < 16) (hb : b < 16) : ∀ (O : List Du) (Z : List Int), Z.length = 256 → (∀ d ∈ O, MayD d) → (O.foldl stepTb Z).getD (a * 16 + b) 0 = Z.getD (a * 16 + b) 0 + owesS O a b
 | [], Z, _, _ => by simp [owesS]
 | d :: O, Z, hZ, h => by
  have hm := h d List.mem_cons_self
  have h1 := hm.f0
  have h2 := hm.f1
  have h3 := hm.t0
  have h4 := hm.t1
  rw [List.foldl_cons, tab_at ha hb O _ (by unfold stepTb; rw [List.length_set]; exact hZ) (fun x hx => h x (List.mem_cons_of_mem _ hx))]
  unfold stepTb owesS
  rw [getD_set _ _ _ _ (by omega), List.filter_cons]
  by_cases q : d.f = (a : Int) ∧ d.t = (b : Int)
  ·rw [if_pos (by omega), if_pos (decide_eq_true q), List.map_cons, List.sum_cons, show d.f.toNat * 16 + d.t.toNat = a * 16 + b by omega]; omega
  ·rw [if_neg (by omega), if_neg (by simpa using q)]
theorem tabL_at {O : List Du} {a b : Nat} (ha : a < 16) (hb : b < 16) (h : ∀ d ∈ O, MayD d) : (tabL O).getD (a * 16 + b) 0 = owesS O a b := by
 unfold tabL
 rw [tab_at ha hb O _ zero_len h]
 unfold zero256
 rw [List.getD_eq_getElem?_getD, List.getElem?_replicate, if_pos (by omega), Option.getD_some, Int.zero_add]
theorem open_mem {l : List Du} {d : Du} (h : d ∈ openL l) : d ∈ l := (List.mem_filter.1 h).1
theorem owes_bound : ∀ O : List Du, (∀ d ∈ O, 1 ≤ d.x) → ∀ a b, 0 ≤ owesS O a b ∧ owesS O a b ≤ sumX O
 | [], _, a, b => by simp [owesS, sumX]
 | d :: O, h, a, b => by
  obtain ⟨i1, i2⟩ := owes_bound O (fun x hx => h x (List.mem_cons_of_mem _ hx)) a b
  have hd := h d List.mem_cons_self
  unfold owesS at i1 i2 ⊢
  unfold sumX at i2 ⊢
  rw [List.filter_cons, List.map_cons, List.sum_cons]
  split
  ·rw [List.map_cons, List.sum_cons]; omega
  ·omega
theorem sum_open : ∀ l : List Du, (∀ d ∈ l, 1 ≤ d.x) → sumX (openL l) ≤ sumX l
 | [], _ => by simp [openL, sumX]
 | d :: l, h => by
  have ih := sum_open l fun x hx => h x (List.mem_cons_of_mem _ hx)
  have hd := h d List.mem_cons_self
  unfold openL sumX at ih ⊢
  rw [List.filter_cons, List.map_cons, List.sum_cons]
  split
  ·rw [List.map_cons, List.sum_cons]; omega
  ·omega
theorem tab_bound {n : Nat} {l : List Du} (h : GoodN n l) (i k : Nat) : 0 ≤ (tabL ((openL l).take i)).getD k 0 ∧ (tabL ((openL l).take i)).getD k 0 ≤ 4503599627370496 := by
 have hmem : ∀ d ∈ (openL l).take i, d ∈ l := fun d hd => open_mem (List.mem_of_mem_take hd)
 rcases Nat.lt_or_ge k 256 with hk | hk
 ·have e : k = (k / 16) * 16 + k % 16 := by omega
  rw [e, tabL_at (by omega) (by omega) fun d hd => h.may d (hmem d hd)]
  obtain ⟨h1, h2⟩ := owes_bound _ (fun d hd => (h.may d (hmem d hd)).x0) (k / 16) (k % 16)
  have h3 := (sumX_le (l := openL l) (fun d hd => (h.may d (open_mem hd)).x0) i).2
  have h4 := sum_open l fun d hd => (h.may d hd).x0
  have h5 := h.sum
  omega
 ·rw [List.getD_eq_getElem?_getD, List.getElem?_eq_none (by rw [tabL_len]; exact hk)]
  simp
end Go.OffP
namespace Go.Proofs.Ytjijhpflkkicaaa
open Go Go.RowKit Go.Mem Go.MoneyP Go.NetP Go.BuildP Go.OffP Go.Shelf
set_option maxHeartbeats 2000000 in
theorem openo_any (l : List Du) (v : Value) (w : World) (h : RdG duR w v l) (hsm : l.length ≤ 1000) :
  Calls Try.prog 30 #[v] w fun en w' => ∃ u, en = .returned u ∧ Sep w w' [recT duR 44 u (openL l)] := by
 obtain ⟨i0, hi0, hz0, hz1, hz2⟩ := info_parts Try.infoDu
 obtain ⟨a, c, rfl⟩ := h.shape
 go_enter Try.func30, Try.ntmps30
 go_wp2_with fail
 refine wp_loopM [none, none, none, some 3, none, some 5, none, none, some 8, some 9, some 10, some 11, some 12, some 13, some 14, some 15, some 16, some 17, some 18, some 19, none] (fun (r : Nat) (f : Nat → Value) (wr : World) => (fun (vo v : Value) => ∃ (i : Nat), v = .int .i64 i ∧ i ≤ l.length ∧ r = l.length - i ∧ Sep w wr [recT duR 44 vo (openL (l.take i))]) (f 3) (f 8)) (l.length) (by kernel_rfl) ?atStart1 ?round1
 case' atStart1 => (try dsimp only [nthV])
 case' round1 =>
  intro gk f wr l hl hrel J1 K1 hJ1 hK1
  (try simp only [mask] at hl)
  generalize f 3 = u3 at hl hrel
  generalize f 8 = u8 at hl hrel
  subst hl
  (try dsimp only at hrel)
 case atStart1 => exact ⟨0, rfl, Nat.zero_le _, rfl, (Sep.start w).nilRecs duR _⟩
 case round1 =>
  obtain ⟨i, rfl, hi, rfl, hs⟩ := hrel
  by_cases hlt : i < l.length
  ·obtain ⟨b1, o1, e1, hb1, hc1⟩ := (hs.rdG h).at i hlt
   subst e1
   have HO := Lib.hid (open_step hlt)
   have hol := open_le (l.take i)
   rw [List.length_take, Nat.min_eq_left hi] at hol
   generalize l[i] = x at hc1 HO
   obtain ⟨id, f, t, x, we, u, hh⟩ := x
   have hiI : (i : Int) < l.length := by omega
   have x0 := hc1 0 (by decide)
   have x1 := hc1 1 (by decide)
   have x2 := hc1 2 (by decide)
   have x3 := hc1 3 (by decide)
   have x4 := hc1 4 (by decide)
   have x5 := hc1 5 (by decide)
   have x6 := hc1 6 (by decide)
   simp only [duR, Nat.add_zero, List.getElem?_cons_zero, List.getElem?_cons_succ] at x0 x1 x2 x3 x4 x5 x6
   clear hc1
   cases hh
   ·have HO2 := Lib.hid (show openL (l.take (i + 1)) = openL (l.take i) ++ [⟨id, f, t, x, we, u, false⟩] by rw [HO.out]; rfl)
    clear HO
    generalize openL (l.take i) = ys at hs hol HO2
    go_upto_region 5 with fail
    replace hs := hs.newCells #[.int .u64 id, .int .i64 f, .int .i64 t, .int .i64 x, .int .i64 we, .int .i64 u, .bool false] 44
    obtain ⟨B, hB⟩ : ∃ B, B = wr.heap.size := ⟨_, rfl⟩
    rw [← hB] at hs ⊢
    clear hB x0 x1 x2 x3 x4 x5 x6
    generalize World.alloc wr _ = W1 at hs ⊢
    have x0 := cell_of (hs.cells 0 rfl) 0
    have x1 := cell_of (hs.cells 0 rfl) 1
    have x2 := cell_of (hs.cells 0 rfl) 2
    have x3 := cell_of (hs.cells 0 rfl) 3
    have x4 := cell_of (hs.cells 0 rfl) 4
    have x5 := cell_of (hs.cells 0 rfl) 5
    have x6 := cell_of (hs.cells 0 rfl) 6
    simp only [List.getElem?_toArray, List.getElem?_cons_zero, List.getElem?_cons_succ] at x0 x1 x2 x3 x4 x5 x6
    go_wp2_with (at_builtin; refine wpList_appRec duR rfl (.tmp 15) (.tmp 17) 22 rfl 44 i0 _ 56 Try.underlying22 hi0 hz0 hz1 hz2 rfl _ ys ⟨id, f, t, x, we, u, false⟩ hs 1 rfl _ rfl rfl rfl ?c3 ?c4 ?grow)
    case c3 => unfold maxLen; omega
    case c4 => omega
    case grow =>
     intro v' w5 hs5 hsh
     obtain ⟨g, cap, rfl⟩ := hsh.out
     clear hs hsh x0 x1 x2 x3 x4 x5 x6
     go_wp2_with fail
     refine Round.intro (l.length - (i + 1)) ?measure2 (by kernel_rfl) (hJ1 _ _ _ ?rel2)
     case' rel2 => (try dsimp only [nthV])
     case measure2 => omega
     case rel2 => exact ⟨i + 1, by go_num, hlt, rfl, by rw [HO2.out]; exact hs5.tail⟩
   ·have HO2 := Lib.hid (show openL (l.take (i + 1)) = openL (l.take i) by rw [HO.out]; exact List.append_nil _)
    clear HO
    go_upto_region 5 with fail
    replace hs := hs.newCells #[.int .u64 id, .int .i64 f, .int .i64 t, .int .i64 x, .int .i64 we, .int .i64 u, .bool true] 44
    obtain ⟨B, hB⟩ : ∃ B, B = wr.heap.size := ⟨_, rfl⟩
    rw [← hB] at hs ⊢
    clear hB x0 x1 x2 x3 x4 x5 x6
    generalize World.alloc wr _ = W1 at hs ⊢
    have x0 := cell_of (hs.cells 0 rfl) 0
    have x1 := cell_of (hs.cells 0 rfl) 1
    have x2 := cell_of (hs.cells 0 rfl) 2
    have x3 := cell_of (hs.cells 0 rfl) 3
    have x4 := cell_of (hs.cells 0 rfl) 4
    have x5 := cell_of (hs.cells 0 rfl) 5
    have x6 := cell_of (hs.cells 0 rfl) 6
    simp only [List.getElem?_toArray, List.getElem?_cons_zero, List.getElem?_cons_succ] at x0 x1 x2 x3 x4 x5 x6
    go_wp2_with fail
    refine Round.intro (l.length - (i + 1)) ?measure3 (by kernel_rfl) (hJ1 _ _ _ ?rel3)
    case' rel3 => (try dsimp only [nthV])
    case measure3 => omega
    case rel3 => exact ⟨i + 1, by go_num, hlt, rfl, by rw [HO2.out]; exact hs.tail⟩
  ·obtain rfl : i = l.length := by omega
   rw [List.take_length] at hs
   go_wp2_with fail
   go_ret
   exact ⟨_, rfl, hs⟩
theorem Try.zeros65 : Try.zeroCells65 = (tabV .i64 zero256).toArray := by kernel_rfl
theorem Try.size65 : (Try.prog.info? 65).map (·.size) = some 256 := by kernel_rfl
/-- What 'of' answers. -/
def OfD (n : Int) (l : List Du) (w : World) (en : Ending) (w' : World) : Prop :=
 (netsE n l ≠ 0 ∧ en = .returned (.tuple #[.agg (tabV .i64 zero256).toArray, .int .i64 (netsE n l)]) ∧ Below w.heap.size w w') ∨
 (netsE n l = 0 ∧ en = .returned (.tuple #[.agg (tabV .i64 (tabL (openL l))).toArray, .int .i64 0]) ∧ Below w.heap.size w w')
set_option maxRecDepth 100000 in
theorem res_of (B : Nat) (Z : List Int) (hZ : Z.length = 256) (e : Int) (a : Act) (w : World) (h4 : a.tmps[4]? = some (.pointer (some ⟨B, 0, none⟩))) (h5 : a.tmps[5]? = some (.int .i64 e)) (hb : w.heap[B]? = some (.cells (tabV .i64 Z).toArray 65 (0, 0))) :
  (results Try.f27 a.tmps).run Try.prog w = .ok (.tuple #[.agg (tabV .i64 Z).toArray, .int .i64 e]) w := by
 have h0 := run_loadVar_mid (P := Try.prog) w B 0 65 (tabV .i64 Z) _ (range_of hb) Try.underlying65 rfl (by rw [Try.size65, tabV_len, hZ])
 obtain ⟨V, hV⟩ : ∃ V, V = Value.agg (tabV .i64 Z).toArray := ⟨_, rfl⟩
 rw [← hV] at h0 ⊢
 clear hV hb hZ
 have e4 : a.tmps.getD 4 undef = .pointer (some ⟨B, 0, none⟩) := by rw [Array.getD_eq_getD_getElem?, h4]; rfl
 have e5 : a.tmps.getD 5 undef = .int .i64 e := by rw [Array.getD_eq_getD_getElem?, h5]; rfl
 have ea : (asAddr (.pointer (some ⟨B, 0, none⟩))).run Try.prog w = .ok ⟨B, 0, none⟩ w := rfl
 unfold results
 rw [Try.results27]
 simp [h4, h5, ea, h0]
set_option maxRecDepth 100000 in
set_option maxHeartbeats 4000000 in
theorem of_any (n : Int) (l : List Du) (vl : Value) (w : World) (h : RdG duR w vl l) :
  Calls Try.prog 27 #[.int .i64 n, vl] w fun en w' => OfD n l w en w' := by
 have hs := (Sep.start w).newCells (tabV .i64 zero256).toArray 65
 obtain ⟨B0, hB⟩ : ∃ B0, B0 = w.heap.size := ⟨_, rfl⟩
 rw [← hB] at hs
 rw [← Try.zeros65] at hs
 go_enter Try.func27, Try.ntmps27
 go_upto_region 1 with fail
 rw [← hB]
 clear hB
 rw [Try.zeros65] at hs ⊢
 generalize World.alloc w _ = W0 at hs ⊢
 go_wp2_with fail
 refine (nets_any n l vl _ (hs.rdG h)).mono ?_
 rintro en w1 (⟨hne, rfl, hb⟩ | ⟨he, v, rfl, k1⟩)
 ·replace hs := hs.belowStep hb
  clear hb
  have HNE := Lib.hid hne
  have d0 : (netsE n l != 0) = true := by simpa using hne
  obtain ⟨EE, hEE⟩ : ∃ EE, EE = netsE n l := ⟨_, rfl⟩
  rw [← hEE] at d0 ⊢
  have HEE := Lib.hid hEE
  clear hne hEE
  go_wp2_with (first | (refine wpList_load_mid rfl 65 (.tmp 4) rfl B0 0 rfl (tabV .i64 zero256) _ (range_of (hs.cells 0 rfl)) Try.underlying65 rfl (by rw [Try.size65, tabV_len, zero_len]) ?_) | (refine wpList_store_mid rfl 65 (.tmp 4) (.tmp 18) rfl B0 0 (tabV .i64 zero256).toArray rfl rfl (there_of (hs.cells 0 rfl)) (by rw [Try.size65]; simp only [List.size_toArray, tabV_len, zero_len]) (tabV_one _ _) ?_))
  have hs2 := hs.tabStore (Z := zero256) 0 rfl rfl
  have hb2 := hs2.cells 0 rfl
  refine bodyPost_ret (res_of B0 zero256 zero_len EE _ _ rfl rfl hb2) rfl (.inl ⟨HNE.out, by rw [HEE.out], hs2.below⟩)
 ·have HE := Lib.hid he
  obtain ⟨N, rfl, hgood⟩ := netsE_good he
  have HG := Lib.hid hgood
  have hl64 := hgood.len
  clear he hgood
  replace hs := hs.belowStep k1.below
  clear k1
  go_wp2_with fail
  refine (openo_any l vl _ (hs.rdG h) (by omega)).mono ?_
  rintro en w2 ⟨u, rfl, k2⟩
  replace hs := hs.join k2
  clear k2
  simp only [List.cons_append, List.nil_append] at hs
  obtain ⟨O, hO⟩ : ∃ O, O = openL l := ⟨_, rfl⟩
  rw [← hO] at hs
  obtain ⟨au, cu, rfl⟩ := (hs.rdRecs 0 rfl).shape
  have HO := Lib.hid hO
  have HMAY := Lib.hid (show ∀ d ∈ O, MayD d from fun d hd => HG.out.may d (open_mem (by rw [← hO]; exact hd)))
  have HOL := Lib.hid (show O.length ≤ 64 by rw [hO]; have := open_le l; omega)
  have HBD := Lib.hid (show ∀ i k, 0 ≤ (tabL (O.take i)).getD k 0 ∧ (tabL (O.take i)).getD k 0 ≤ 4503599627370496 by rw [hO]; exact tab_bound HG.out)
  clear hO
  have hol := HOL.out
  go_wp2_with fail
  refine wp_loopM [none, none, none, none, none, none, none, none, none, some 9, none, none, none, none, none, none, none, none, none, none, none, none, none, some 23, some 24, some 25, some 26, some 27, some 28, some 29, some 30, some 31, some 32, some 33, some 34, some 35, some 36, some 37, some 38, some 39, none] (fun (r : Nat) (f : Nat → Value) (wr : World) => (fun (v : Value) => ∃ (i : Nat) (Z : List Int), v = .int .i64 i ∧ i ≤ O.length ∧ r = O.length - i ∧ Hid (Z = tabL (O.take i)) ∧ Sep w wr [tabT .i64 B0 65 Z, recT duR 44 (.slice au O.length cu) O]) (f 23)) (O.length) (by kernel_rfl) ?atStart4 ?round4
  case' atStart4 => (try dsimp only [nthV])
  case' round4 =>
   intro gk f wr l hl hrel J1 K1 hJ1 hK1
   (try simp only [mask] at hl)
   generalize f 23 = u23 at hl hrel
   subst hl
   (try dsimp only at hrel)
  case atStart4 => exact ⟨0, zero256, rfl, Nat.zero_le _, rfl, Lib.hid rfl, hs.perm (List.Perm.swap _ _ _)⟩
  case round4 =>
   clear hs
   obtain ⟨i, Z, rfl, hi, rfl, HZ, hs⟩ := hrel
   have HZL := Lib.hid (show Z.length = 256 by rw [HZ.out]; exact tabL_len _)
   by_cases hlt : i < O.length
   ·have hiI : (i : Int) < O.length := by omega
    obtain ⟨b1, o1, e1, _, hc1⟩ := (hs.rdRecs 1 rfl).at i hlt
    subst e1
    have hm := HMAY.out _ (List.getElem_mem hlt)
    have HST := Lib.hid (tabL_take hlt)
    have HBZ := Lib.hid (show ∀ k, 0 ≤ Z.getD k 0 ∧ Z.getD k 0 ≤ 4503599627370496 by rw [HZ.out]; exact HBD.out i)
    obtain ⟨x, hx⟩ : ∃ x, x = O[i] := ⟨_, rfl⟩
    rw [← hx] at hc1 hm HST
    clear hx
    obtain ⟨id, f, t, x, we, u, hh⟩ := x
    have x0 := hc1 0 (by decide)
    have x1 := hc1 1 (by decide)
    have x2 := hc1 2 (by decide)
    have x3 := hc1 3 (by decide)
    have x4 := hc1 4 (by decide)
    have x5 := hc1 5 (by decide)
    have x6 := hc1 6 (by decide)
    simp only [duR, Nat.add_zero, List.getElem?_cons_zero, List.getElem?_cons_succ] at x0 x1 x2 x3 x4 x5 x6
    clear hc1
    obtain ⟨hf0, hf1, ht0, ht1, hne, hx0, hx1, _, _, _⟩ := hm
    dsimp only at hf0 hf1 ht0 ht1 hne hx0 hx1
    obtain ⟨F, rfl⟩ : ∃ F : Nat, f = F := ⟨f.toNat, by omega⟩
    obtain ⟨T, rfl⟩ : ∃ T : Nat, t = T := ⟨t.toNat, by omega⟩
    have hF : F < 16 := by omega
    have hT : T < 16 := by omega
    have HST2 := Lib.hid (show Z.set (F * 16 + T) (Z.getD (F * 16 + T) 0 + x) = tabL (O.take (i + 1)) by
     rw [HST.out, ← HZ.out]
     unfold stepTb
     dsimp only
     rw [show ((F : Int)).toNat = F by omega, show ((T : Int)).toNat = T by omega])
    obtain ⟨z0, z1⟩ := HBZ.out (F * 16 + T)
    go_upto_region 7 with fail
    replace hs := hs.newCells #[.int .u64 id, .int .i64 F, .int .i64 T, .int .i64 x, .int .i64 we, .int .i64 u, .bool hh] 44
    obtain ⟨B, hB⟩ : ∃ B, B = wr.heap.size := ⟨_, rfl⟩
    rw [← hB] at hs ⊢
    clear hB x0 x1 x2 x3 x4 x5 x6
    generalize World.alloc wr _ = W1 at hs ⊢
    have x0 := cell_of (hs.cells 0 rfl) 0
    have x1 := cell_of (hs.cells 0 rfl) 1
    have x2 := cell_of (hs.cells 0 rfl) 2
    have x3 := cell_of (hs.cells 0 rfl) 3
    have x4 := cell_of (hs.cells 0 rfl) 4
    have x5 := cell_of (hs.cells 0 rfl) 5
    have x6 := cell_of (hs.cells 0 rfl) 6
    simp only [List.getElem?_toArray, List.getElem?_cons_zero, List.getElem?_cons_succ] at x0 x1 x2 x3 x4 x5 x6
    obtain ⟨r0, rf⟩ := hs.tabAt 1 rfl (F * 16 + T) (by rw [HZL.out]; omega)
    obtain ⟨X, hX⟩ : ∃ X, X = Z.getD (F * 16 + T) 0 := ⟨_, rfl⟩
    rw [← hX] at r0 z0 z1 HST2
    clear hX HST
    refine Mix.region [0, 0, 0, 0, 0, 0, 0, 0, 0, 0, 0, 0, 2] (fun _ => True) (by kernel_rfl) (by kernel_rfl) trivial ?_
    simp only [List.zip_cons_cons, List.zip_nil_right]
    iterate 12 (refine Mix.step0 fun K hK => ?_; go_simp; (try (go_bits; try go_simp)); first | ((with_reducible refine hK _ _ ?_); clear hK K) | ((try (simp only [IntWalk.iteOmega]; try go_simp)); (try go_bits); (with_reducible refine hK _ _ ?_); clear hK K))
    refine Mix.step2n (by first | rfl | simp [Region.wanted, yielded]) fun K hK => ?_
    go_wp2_with fail
    refine Mix.post_mk (C := (fun _ => True)) trivial (hK _ _ ?_)
    clear hK K
    refine Mix.done ?_
    have hs2 := (hs.tabSet (k := .i64) 1 rfl (F * 16 + T) (X + x)).drew
    (try simp only [List.set_cons_zero, List.set_cons_succ] at hs2)
    rw [HST2.out] at hs2
    clear hs r0 rf x0 x1 x2 x3 x4 x5 x6
    go_wp2_with fail
    refine Round.intro (O.length - (i + 1)) ?measure5 (by kernel_rfl) (hJ1 _ _ _ ?rel5)
    case' rel5 => (try dsimp only [nthV])
    case measure5 => omega
    case rel5 => exact ⟨i + 1, _, by go_num, hlt, rfl, Lib.hid rfl, hs2.tail⟩
   ·obtain rfl : i = O.length := by omega
    have hZ := HZ.out
    rw [List.take_length] at hZ
    have HZO := Lib.hid (show Z = tabL (openL l) by rw [hZ, HO.out])
    clear hZ
    go_wp2_with (first | (refine wpList_load_mid rfl 65 (.tmp 4) rfl B0 0 rfl (tabV .i64 Z) _ (range_of (hs.cells 0 rfl)) Try.underlying65 rfl (by rw [Try.size65, tabV_len, HZL.out]) ?_) | (refine wpList_store_mid rfl 65 (.tmp 4) (.tmp 40) rfl B0 0 (tabV .i64 Z).toArray rfl rfl (there_of (hs.cells 0 rfl)) (by rw [Try.size65]; simp only [List.size_toArray, tabV_len, HZL.out]) (tabV_one _ _) ?_))
    have hs2 := hs.tabStore (Z := Z) 0 rfl rfl
    have hb2 := hs2.cells 0 rfl
    (repeat rw [Exit.noGoto_ret])
    refine bodyPost_ret (res_of B0 Z HZL.out 0 _ _ rfl rfl hb2) rfl (.inr ⟨HE.out, by rw [HZO.out], hs2.below⟩)
end Go.Proofs.Ytjijhpflkkicaaa
namespace Go.Mem
open Go Go.RowKit
theorem Sep.tabRow {w0 w : World} {L : List Thing} {b : Nat} {E : TypeId} {k : IntKind} {Z : List Int} (h : Sep w0 w L) (i : Nat) (hi : L[i]? = some (tabT k b E Z)) (o n cap : Nat) (ho : o + n ≤ Z.length) (hn : n ≤ maxLen) :
  Rd k w (.slice (some ⟨b, o, none⟩) n cap) ((Z.drop o).take n) := by
 have hlen : ((Z.drop o).take n).length = n := by rw [List.length_take, List.length_drop]; omega
 refine ⟨_, cap, by rw [hlen], by rw [hlen]; exact hn, by simp, fun _ => ⟨b, o, rfl, lt_of (h.cells i hi), fun j hj => ?_⟩⟩
 rw [hlen] at hj
 rw [(h.tabAt i hi (o + j) (by omega)).1]
 congr 2
 simp only [List.getD_eq_getElem?_getD, List.getElem?_take, List.getElem?_drop, if_pos hj]
end Go.Mem
namespace Go.OffP
open Go Go.Mem Go.MoneyP Go.BuildP
def owesRow (n : Nat) (O : List Du) (a : Nat) : List Int := (List.range n).map (owesS O a)
def tableM (n : Nat) (O : List Du) : List (List Int) := (List.range n).map (owesRow n O)
theorem owesRow_len (n : Nat) (O : List Du) (a : Nat) : (owesRow n O a).length = n := by simp [owesRow]
theorem row_tab {n a : Nat} {O : List Du} (ha : a < 16) (hn : n ≤ 16) (h : ∀ d ∈ O, MayD d) : ((tabL O).drop (a * 16)).take n = owesRow n O a := by
 have hl := tabL_len O
 refine List.ext_getElem (by rw [List.length_take, List.length_drop, owesRow_len]; omega) fun j h1 h2 => ?_
 have hj : j < n := by rw [owesRow_len] at h2; exact h2
 have := tabL_at ha (show j < 16 by omega) h
 rw [List.getD_eq_getElem?_getD, List.getElem?_eq_getElem (by omega)] at this
 rw [List.getElem_take, List.getElem_drop]
 simpa [owesRow] using this
/-- The reference's row. -/
def stepR (a : Nat) (Z : List Int) (d : Du) : List Int := if d.f = (a : Int) ∧ d.h = false then Z.set d.t.toNat (Z.getD d.t.toNat 0 + d.x) else Z
def rowR (n a : Nat) (l : List Du) : List Int := l.foldl (stepR a) (List.replicate n 0)
end Go.OffP
namespace Go.Proofs.Ytjijhpflkkicaaa
open Go Go.RowKit Go.Mem Go.MoneyP Go.NetP Go.BuildP Go.OffP Go.Shelf
theorem Try.infoRowo : (Try.prog.info? 23).map (fun i => (i.zero, i.size, i.bytes)) = some (some (.slice none 0 0), 1, 24) := by kernel_rfl
theorem slice_head (W : World) (a : Addr) (N : Nat) (h : N ≤ 16) : (Instr.sliceAt 63 (.pointer (some a)) none (some (.int .i64 N)) none).run Try.prog W = .ok (.slice (some a) N 16) W := by
 obtain ⟨i0, hi0, hz0, hz1, hz2⟩ := info_parts Try.infoI64o
 have hAL : Try.prog.arrayLen 63 = 16 := by kernel_rfl
 have hEL : Try.prog.elem 63 = 2 := by kernel_rfl
 rw [run_sliceAt_array_h W 63 a (by kernel_rfl) .i64 N (by omega) (by rw [hAL]; omega)]
 simp [slicedAt, hAL, hEL, sizeOf, typeInfo, hi0, hz1, Addr.add]
/-- What Table answers. -/
def TableD (n : Int) (l : List Du) (w : World) (en : Ending) (w' : World) : Prop :=
 (netsE n l ≠ 0 ∧ en = .returned (.tuple #[.slice none 0 0, .int .i64 (netsE n l)]) ∧ Below w.heap.size w w') ∨
 (netsE n l = 0 ∧ ∃ v, en = .returned (.tuple #[v, .int .i64 0]) ∧ GridP 23 2 w w' v (tableM n.toNat (openL l)))
set_option maxRecDepth 100000 in
set_option maxHeartbeats 4000000 in
theorem table_any (n : Int) (l : List Du) (vl : Value) (w : World) (h : RdG duR w vl l) :
  Calls Try.prog 8 #[.int .i64 n, vl] w fun en w' => TableD n l w en w' := by
 obtain ⟨i0, hi0, hz0, hz1, hz2⟩ := info_parts Try.infoI64o
 obtain ⟨j0, hj0, hy0, hy1, hy2⟩ := info_parts Try.infoRowo
 have HOF := Lib.hid (of_any n l vl w h)
 go_enter Try.func8, Try.ntmps8
 go_wp2_with fail
 refine HOF.out.mono ?_
 clear HOF
 rintro en w1 (⟨hne, rfl, hb⟩ | ⟨he, rfl, hb⟩)
 ·have hs := (Sep.start w).belowStep hb
  clear hb
  have HNE := Lib.hid hne
  have d0 : (netsE n l != 0) = true := by simpa using hne
  obtain ⟨EE, hEE⟩ : ∃ EE, EE = netsE n l := ⟨_, rfl⟩
  rw [← hEE] at d0 ⊢
  have HEE := Lib.hid hEE
  clear hne hEE
  replace hs := hs.newCells Try.zeroCells65 65
  obtain ⟨B6, hB⟩ : ∃ B6, B6 = w1.heap.size := ⟨_, rfl⟩
  rw [← hB] at hs
  have HB := Lib.hid hB
  clear hB
  go_wp2_with (refine wpList_store_mid rfl 65 (.tmp 6) (.tmp 14) rfl B6 0 (tabV .i64 zero256).toArray (by rw [HB.out]; rfl) rfl ?hta ?hia (tabV_one _ _) (Stop.out ?nxa))
  case hta =>
   have := there_of (hs.cells 0 rfl)
   rw [Try.zeros65] at this ⊢
   simp only [List.size_toArray, tabV_len, zero_len, zero_len] at this ⊢
   exact this
  case hia => rw [Try.size65]; simp only [List.size_toArray, tabV_len, zero_len]
  refine Stop.mk ?_
  rw [Try.zeros65, ← HB.out]
  rw [Try.zeros65] at hs
  clear HB
  generalize World.alloc w1 _ = W1 at hs ⊢
  have hs2 := hs.tabStore (Z := zero256) 0 rfl (by simp only [zero_len, zero_len])
  (try simp only [List.set_cons_zero] at hs2)
  clear hs
  generalize World.setCells W1 _ _ _ = W2 at hs2 ⊢
  have hs := hs2
  clear hs2
  go_wp2_with fail
  (repeat rw [Exit.noGoto_ret])
  go_ret2
  exact .inl ⟨HNE.out, by rw [HEE.out]; rfl, hs.below⟩
 ·have HE := Lib.hid he
  obtain ⟨N, rfl, hgood⟩ := netsE_good he
  have hs := (Sep.start w).belowStep hb
  have hN16 := hgood.n16
  have HMAY := Lib.hid (show ∀ d ∈ openL l, MayD d from fun d hd => hgood.may d (open_mem hd))
  clear he hgood hb
  obtain ⟨O, hO⟩ : ∃ O, O = openL l := ⟨_, rfl⟩
  obtain ⟨Z, hZ⟩ : ∃ Z, Z = tabL (openL l) := ⟨_, rfl⟩
  rw [← hZ]
  have HZL := Lib.hid (show Z.length = 256 by rw [hZ]; exact tabL_len _)
  have HROW := Lib.hid (show ∀ a, a < 16 → (Z.drop (a * 16)).take N = owesRow N (openL l) a from fun a ha => by rw [hZ]; exact row_tab ha hN16 HMAY.out)
  have HO := Lib.hid hO
  rw [← hO] at HROW
  clear hO hZ
  replace hs := hs.newCells Try.zeroCells65 65
  obtain ⟨B6, hB⟩ : ∃ B6, B6 = w1.heap.size := ⟨_, rfl⟩
  rw [← hB] at hs
  have HB := Lib.hid hB
  clear hB
  go_wp2_with (refine wpList_store_mid rfl 65 (.tmp 6) (.tmp 14) rfl B6 0 (tabV .i64 Z).toArray (by rw [HB.out]; rfl) rfl ?htb ?hib (tabV_one _ _) (Stop.out ?nxb))
  case htb =>
   have := there_of (hs.cells 0 rfl)
   rw [Try.zeros65] at this ⊢
   simp only [List.size_toArray, tabV_len, zero_len, HZL.out] at this ⊢
   exact this
  case hib => rw [Try.size65]; simp only [List.size_toArray, tabV_len, HZL.out]
  refine Stop.mk ?_
  rw [Try.zeros65, ← HB.out]
  rw [Try.zeros65] at hs
  clear HB
  generalize World.alloc w1 _ = W1 at hs ⊢
  have hs2 := hs.tabStore (Z := Z) 0 rfl (by simp only [zero_len, HZL.out])
  (try simp only [List.set_cons_zero] at hs2)
  clear hs
  generalize World.setCells W1 _ _ _ = W2 at hs2 ⊢
  have hs := hs2
  clear hs2
  go_wp2_with (at_make; refine wpList_makeSl rfl (.tmp 19) (.tmp 19) 25 rfl 23 j0 24 Try.underlying25 hj0 hy0 hy1 hy2 N .i64 .i64 rfl rfl hs ?m1 ?m2 ?m3)
  case m1 => unfold maxLen; omega
  case m2 => omega
  case m3 =>
   intro w3 g hs3
   clear hs
   go_wp2_with fail
   refine wp_loopM [none, none, none, none, none, none, none, none, none, some 9, none, none, none, none, none, none, none, none, none, none, none, none, none, some 23, some 24, some 25, some 26, some 27, some 28, some 29, some 30, some 31, some 32, some 33, some 34, some 35, some 36, some 37, some 38, none] (fun (r : Nat) (f : Nat → Value) (wr : World) => (fun (v : Value) => ∃ (i : Nat) (G : List (Sl × List Int)), v = .int .i64 i ∧ i ≤ N ∧ r = N - i ∧ Hid (G.length = i ∧ G.map (·.2) = (List.range i).map (owesRow N O)) ∧ Sep w wr ([recT slR 23 (.slice (some ⟨g, 0, none⟩) N N) (G.map (·.1) ++ List.replicate (N - i) ⟨none, 0, 0⟩), tabT .i64 B6 65 Z] ++ gridL .i64 2 G)) (f 23)) (N) (by kernel_rfl) ?atStart6 ?round6
   case' atStart6 => (try dsimp only [nthV])
   case' round6 =>
    intro gk f wr l hl hrel J1 K1 hJ1 hK1
    (try simp only [mask] at hl)
    generalize f 23 = u23 at hl hrel
    subst hl
    (try dsimp only at hrel)
   case atStart6 => exact ⟨0, [], rfl, Nat.zero_le _, rfl, Lib.hid ⟨rfl, rfl⟩, hs3⟩
   case round6 =>
    clear hs3
    obtain ⟨i, G, rfl, hi, rfl, HG, hs⟩ := hrel
    by_cases hlt : i < N
    ·have hiI : (i : Int) < N := by omega
     have hSL := fun W => slice_head W ⟨B6, i * 16, none⟩ N hN16
     have hGl := HG.out.1
     have HOL := Lib.hid (show (G.map (·.1) ++ List.replicate (N - i) (⟨none, 0, 0⟩ : Sl)).length = N by rw [List.length_append, List.length_map, List.length_replicate]; omega)
     have HOI := Lib.hid (show (G.map (·.1) ++ List.replicate (N - i) (⟨none, 0, 0⟩ : Sl))[i]? = some ⟨none, 0, 0⟩ by
      rw [List.getElem?_append_right (by rw [List.length_map]; omega), List.getElem?_replicate, if_pos (by rw [List.length_map]; omega)])
     have HSET := Lib.hid (fun s : Sl => (show (G.map (·.1) ++ List.replicate (N - i) (⟨none, 0, 0⟩ : Sl)).set i s = (G.map (·.1) ++ [s]) ++ List.replicate (N - (i + 1)) ⟨none, 0, 0⟩ by
      rw [List.set_append_right _ _ (by rw [List.length_map]; omega), List.length_map, hGl, Nat.sub_self, show N - i = N - (i + 1) + 1 by omega, List.replicate_succ, List.set_cons_zero, List.append_assoc]; rfl))
     obtain ⟨OL, hOL⟩ : ∃ OL, OL = G.map (·.1) ++ List.replicate (N - i) (⟨none, 0, 0⟩ : Sl) := ⟨_, rfl⟩
     rw [← hOL] at hs HOL HOI HSET
     clear hOL hGl
     have hiO : i < OL.length := by rw [HOL.out]; exact hlt
     obtain ⟨g', cg', eg, _, hcR, hfr⟩ := (hs.recs 0 rfl).get i hiO
     injection eg with eg q1 q2
     injection eg with eg
     injection eg with eg
     subst eg
     have r0 := hcR i hiO 0 (by decide)
     have e0 : OL[i] = ⟨none, 0, 0⟩ := by have := HOI.out; rw [List.getElem?_eq_getElem hiO] at this; exact Option.some.inj this
     rw [e0] at r0
     simp only [slR, List.getElem?_cons_zero, Nat.mul_one, Nat.add_zero] at r0
     clear q1 q2
     have hRD := hs.drew.tabRow 1 rfl (i * 16) N 16 (by rw [HZL.out]; omega) (by unfold maxLen; omega)
     rw [HROW.out i (by omega)] at hRD
     have HRD := Lib.hid hRD
     have HIL := Lib.hid (owesRow_len N O i)
     have hsn := (hs.drew.nilInts .i64 2)
     clear hcR e0 hRD
     go_wp2_with fail
     refine Mix.region [1, 1, 0, 0, 0, 0, 0, 0, 0, 0, 2, 0, 2] (fun _ => True) (by kernel_rfl) (by kernel_rfl) trivial ?_
     simp only [List.zip_cons_cons, List.zip_nil_right]
     iterate 2 (refine Mix.step1 fun K hK => ?_; go_simp; (try (go_bits; try go_simp)); first | ((with_reducible refine hK _ _ ?_); clear hK K) | ((try (simp only [IntWalk.iteOmega]; try go_simp)); (try go_bits); (with_reducible refine hK _ _ ?_); clear hK K))
     iterate 8 (refine Mix.step0 fun K hK => ?_; go_simp; (try (go_bits; try go_simp)); first | ((with_reducible refine hK _ _ ?_); clear hK K) | ((try (simp only [IntWalk.iteOmega]; try go_simp)); (try go_bits); (with_reducible refine hK _ _ ?_); clear hK K))
     refine Mix.step2n (by first | rfl | simp [Region.wanted, yielded]) fun K hK => ?_
     refine wpList_appRd rfl (.tmp 31) (.tmp 35) 23 rfl 2 i0 _ 8 Try.underlying23 hi0 hz0 hz1 hz2 rfl _ [] .i64 _ (owesRow N O i) hsn 0 rfl HRD.out rfl rfl (by rw [HIL.out]; simp [maxLen]; omega) (by rw [HIL.out]; simp; omega) ?_
     intro v' w5 hs2
     (try simp only [List.set_cons_zero, List.nil_append] at hs2)
     obtain ⟨ah, ch, rfl⟩ := (hs2.rdInts 0 rfl).shape
     rw [HIL.out] at hs2 ⊢
     clear hs hsn HRD r0 hfr
     have hs := hs2
     clear hs2
     obtain ⟨g', cg', eg, _, hcR, hfr⟩ := (hs.recs 1 rfl).get i hiO
     injection eg with eg q1 q2
     injection eg with eg
     injection eg with eg
     subst eg
     clear q1 q2
     have r0 := hcR i hiO 0 (by decide)
     have e0 : OL[i] = ⟨none, 0, 0⟩ := by have := HOI.out; rw [List.getElem?_eq_getElem hiO] at this; exact Option.some.inj this
     rw [e0] at r0
     simp only [slR, List.getElem?_cons_zero, Nat.mul_one, Nat.add_zero] at r0
     clear hcR e0
     go_wp2_with fail
     refine Mix.post_mk (C := (fun _ => True)) trivial (hK _ _ ?_)
     clear hK K
     iterate 1 (refine Mix.step0 fun K hK => ?_; go_simp; (try (go_bits; try go_simp)); first | ((with_reducible refine hK _ _ ?_); clear hK K) | ((try (simp only [IntWalk.iteOmega]; try go_simp)); (try go_bits); (with_reducible refine hK _ _ ?_); clear hK K))
     refine Mix.step2n (by first | rfl | simp [Region.wanted, yielded]) fun K hK => ?_
     go_wp2_with fail
     refine Mix.post_mk (C := (fun _ => True)) trivial (hK _ _ ?_)
     clear hK K
     refine Mix.done ?_
     have hs2 := hs.setRow (R := slR) 1 rfl i hiO 0 (by decide) ⟨ah, N, ch⟩ (.slice ah N ch) rfl
     rw [show i * slR.m + 0 = i from by show i * 1 + 0 = i; omega] at hs2
     simp only [List.cons_append, List.nil_append, List.set_cons_zero, List.set_cons_succ] at hs2
     rw [HSET.out] at hs2
     clear hs r0 hfr
     have hs := hs2
     clear hs2
     go_wp2_with fail
     refine Round.intro (N - (i + 1)) ?measure7 (by kernel_rfl) (hJ1 _ _ _ ?rel7)
     case' rel7 => (try dsimp only [nthV])
     case measure7 => omega
     case rel7 =>
      refine ⟨i + 1, G ++ [(⟨ah, N, ch⟩, owesRow N O i)], by go_num, hlt, rfl, Lib.hid ⟨by rw [List.length_append, HG.out.1]; rfl, ?_⟩, ?_⟩
      ·rw [List.map_append, HG.out.2, List.range_succ, List.map_append]; rfl
      ·rw [List.map_append]
       exact Sep.gridAdd (s := ⟨ah, N, ch⟩) hs
    ·obtain rfl : N = i := by omega
     go_wp2_with fail
     (repeat rw [Exit.noGoto_ret])
     go_ret2
     refine .inr ⟨HE.out, _, rfl, G, ?_, ?_⟩
     ·rw [HG.out.2, Int.toNat_natCast, HO.out]; rfl
     ·have h2 := hs.omit 1
      rw [Nat.sub_self, List.replicate_zero, List.append_nil] at h2
      exact h2
end Go.Proofs.Ytjijhpflkkicaaa
namespace Go.Proofs.Ytjijhpflkkicaaa
open Go Go.RowKit Go.Mem Go.MoneyP Go.NetP Go.BuildP Go.OffP Go.Shelf
end Go.Proofs.Ytjijhpflkkicaaa
namespace Go.Mem
open Go Go.RowKit
/-- A table of numbers, read. -/
def GridR (w : World) (v : Value) (M : List (List Int)) : Prop := ∃ G : List (Sl × List Int), G.map (·.2) = M ∧ RdG slR w v (G.map (·.1)) ∧ ∀ p ∈ G, Rd .i64 w p.1.val p.2
theorem GridR.below {w w' : World} {v : Value} {M : List (List Int)} (h : GridR w v M) (hb : Below w.heap.size w w') : GridR w' v M := by
 obtain ⟨G, h1, h2, h3⟩ := h
 exact ⟨G, h1, h2.below hb, fun p hp => (h3 p hp).below hb⟩
theorem GridR.nil (w : World) : GridR w (.slice none 0 0) [] := ⟨[], rfl, ((Sep.start w).nilRecs slR 0).rdRecs 0 rfl, fun p hp => by cases hp⟩
theorem Sep.gridR {w w' : World} {E2 E : TypeId} {v : Value} {G : List (Sl × List Int)} {L : List Thing} (h : Sep w w' (recT slR E2 v (G.map (·.1)) :: (gridL .i64 E G ++ L))) : GridR w' v (G.map (·.2)) := by
 refine ⟨G, rfl, h.rdRecs 0 rfl, fun p hp => ?_⟩
 obtain ⟨i, hi, rfl⟩ := List.getElem_of_mem hp
 refine h.rdInts (k := .i64) (E := E) (1 + i) ?_
 rw [show 1 + i = i + 1 by omega, List.getElem?_cons_succ, List.getElem?_append_left (by rw [gridL_len]; exact hi)]
 exact gridL_at hi
end Go.Mem
namespace Go.Proofs.Ytjijhpflkkicaaa
open Go Go.RowKit Go.Mem Go.MoneyP Go.NetP Go.BuildP Go.OffP Go.Shelf
set_option maxHeartbeats 800000 in
theorem amounts_eq (v v' : Value) (zs : List Int) (w : World) (h : Rd .i64 w v zs) (h' : Rd .i64 w v' zs) : Calls Try.prog 13 #[v, v'] w fun e w' => e = .returned (.bool true) ∧ Below w.heap.size w w' := by
 have hle := h.le'
 obtain ⟨a, cap, rfl⟩ := h.shape
 obtain ⟨a', cap', rfl⟩ := h'.shape
 go_enter Try.func13, Try.ntmps13
 go_wp2_with fail
 refine wp_loopM [none, none, none, none, some 4, some 5, none, none, none, none, none, some 11, some 12, some 13, some 14, some 15, some 16, some 17, some 18, some 19, some 20, some 21, some 22, some 23, some 24, some 25] (fun (n : Nat) (f : Nat → Value) (wr : World) => (fun (v : Value) => ∃ i : Nat, v = .int .i64 i ∧ i ≤ zs.length ∧ n = zs.length - i ∧ Sep w wr []) (f 5)) (zs.length) (by kernel_rfl) ?atStart14 ?round14
 case' atStart14 => (try dsimp only [nthV])
 case' round14 =>
  intro gk f wr l hl hrel J1 K1 hJ1 hK1
  (try simp only [mask] at hl)
  generalize f 5 = u5 at hl hrel
  subst hl
  (try dsimp only at hrel)
 case atStart14 => exact ⟨0, rfl, Nat.zero_le _, rfl, Sep.start w⟩
 case round14 =>
  obtain ⟨i, rfl, hi, rfl, hs⟩ := hrel
  by_cases hlt : i < zs.length
  ·obtain ⟨b1, o1, rfl, hb1, hc1⟩ := (hs.rd h).at i hlt
   obtain ⟨b2, o2, rfl, hb2, hc2⟩ := (hs.rd h').at i hlt
   go_wp2_with fail
   refine Mix.region [0, 0, 0, 0, 0, 0, 0, 0, 0] (fun _ => True) (by kernel_rfl) (by kernel_rfl) trivial ?_
   simp only [List.zip_cons_cons, List.zip_nil_right]
   iterate 9 (refine Mix.step0 fun K hK => ?_; go_simp; (try (go_bits; try go_simp)); first | ((with_reducible refine hK _ _ ?_); clear hK K) | ((try (simp only [IntWalk.iteOmega]; try go_simp)); (try go_bits); (with_reducible refine hK _ _ ?_); clear hK K))
   refine Mix.done ?_
   go_wp2_with fail
   refine Round.intro (zs.length - (i + 1)) ?measure15 (by kernel_rfl) (hJ1 _ _ _ ?rel15)
   case' rel15 => (try dsimp only [nthV])
   case measure15 => omega
   case rel15 => exact ⟨i + 1, by go_num, hlt, rfl, hs.drew⟩
  ·go_wp2_with fail
   go_ret
   exact ⟨rfl, hs.below⟩
end Go.Proofs.Ytjijhpflkkicaaa
