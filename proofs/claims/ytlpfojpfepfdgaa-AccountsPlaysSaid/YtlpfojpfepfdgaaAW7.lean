/-
  Package accounts, walked: Fund, Draw, Reserve, Shift.
-/
import Derived.Test.YtlpfojpfepfdgaaAW6
namespace Go.Proofs.Ytlpfojpfepfdgaa
open Go Go.RowKit Go.Mem Go.MoneyP Go.AcctP Go.Shelf

theorem ent_fund1 : Enters Try.prog 32 := enters_of Try.func32 (by kernel_rfl) rfl
theorem ent_fund2 : Enters Try.prog 33 := enters_of Try.func33 (by kernel_rfl) rfl
theorem ent_fund3 : Enters Try.prog 34 := enters_of Try.func34 (by kernel_rfl) rfl
theorem ent_draw1 : Enters Try.prog 35 := enters_of Try.func35 (by kernel_rfl) rfl
theorem ent_draw2 : Enters Try.prog 36 := enters_of Try.func36 (by kernel_rfl) rfl
theorem ent_draw3 : Enters Try.prog 37 := enters_of Try.func37 (by kernel_rfl) rfl
theorem ent_res1 : Enters Try.prog 38 := enters_of Try.func38 (by kernel_rfl) rfl
theorem ent_res2 : Enters Try.prog 39 := enters_of Try.func39 (by kernel_rfl) rfl

/-- The two asks of Fund, of Draw. -/
def two (x : Int) (B2 : Bool) (q : Ask) : Bool := if q.e = 1 then argB x else B2
theorem turn_two {l : Nat} {k x e : Int} {q1 q2 : Ask} {B2 : Bool} (h1 : q1.e = 1) (h2 : q2.e = e) (he : e ≠ 1) : turnE l k [q1, q2] (two x B2) = if bankB l k = false then 10 else if argB x = false then 1 else if B2 = true then 0 else e := by
  unfold turnE
  cases bankB l k
  · simp
  · cases ha : argB x <;> cases B2 <;> simp [two, h1, h2, he, ha, List.find?]
theorem cell1 {w0 w : World} {L : List Thing} {b : Nat} {v : Value} {E : TypeId} (h : Sep w0 w L) (i : Nat) (hi : L[i]? = some (cellsT b #[v] E)) : w.cell? ⟨b, 0, none⟩ = some v := by
  have := cell_of (h.cells i hi) 0
  simpa using this
theorem good_near {xs : List Ac} (h : GoodA xs) {m : Nat} (hm : m < xs.length) : -4503599627370496 ≤ (acAt xs m).bal ∧ (acAt xs m).bal ≤ 4503599627370496 := by
  have := h.at hm
  rw [acAt_of hm]; omega
theorem argB_near {x : Int} (h : argB x = true) : -4503599627370496 ≤ x ∧ x ≤ 4503599627370496 := by
  simp only [argB, Bool.and_eq_true, decide_eq_true_eq, mayB_iff] at h; omega
set_option maxHeartbeats 1000000 in
theorem fund_any {w0 w : World} {L : List Thing} (hs : Sep w0 w L) (i b : Nat) (xs : List Ac) (hi : L[i]? = some (accT b xs)) (hg : GoodA xs) (k x : Int) :
    Calls Try.prog 9 #[.pointer (some ⟨b, 0, none⟩), .int .i64 k, .int .i64 x] w fun en w' => en = .returned (.int .i64 (fundE xs k x)) ∧ Sep w0 w' (L.set i (accT b (fundL xs k x))) := by
  have hs1 := ((hs.newCells #[.pointer (some ⟨b, 0, none⟩)] 28).newCells #[.int .i64 x] 2)
  simp only [World.size_alloc] at hs1
  obtain ⟨A, hA⟩ : ∃ A, A = w.heap.size := ⟨_, rfl⟩
  obtain ⟨X, hX⟩ : ∃ X, X = w.heap.size + 1 := ⟨_, rfl⟩
  obtain ⟨q1, hq1⟩ : ∃ q : Ask, q = ⟨1, 33, #[.pointer (some ⟨X, 0, none⟩)]⟩ := ⟨_, rfl⟩
  obtain ⟨q2, hq2⟩ : ∃ q : Ask, q = ⟨13, 34, #[.pointer (some ⟨A, 0, none⟩), .pointer (some ⟨X, 0, none⟩)]⟩ := ⟨_, rfl⟩
  have hs2 := hs1.newCells (askR.flat [q1, q2]).toArray 65
  simp only [World.size_alloc] at hs2
  rw [← hX, ← hA] at hs2
  have hlen := hg.len
  have hE : turnE xs.length k [q1, q2] (two x (sumE (bals xs ++ [x]) == 0)) = fundE xs k x := by
    rw [turn_two (e := 13) (by rw [hq1]) (by rw [hq2]) (by decide)]
    unfold fundE
    simp only [beq_iff_eq]
  have HT := Lib.hid (turn_any (w := ((w.alloc (.cells #[.pointer (some ⟨b, 0, none⟩)] 28)).alloc (.cells #[.int .i64 x] 2)).alloc (.cells (askR.flat [q1, q2]).toArray 65)) hs2 (i + 3) b xs (addAt xs k.toNat x) hi (by omega) k 32 #[.pointer (some ⟨X, 0, none⟩)] (.slice (some ⟨X + 1, 0, none⟩) 2 2) [q1, q2] (two x (sumE (bals xs ++ [x]) == 0))
    (fun W h => RdG.ofCells (R := askR) [q1, q2] (h.cells 0 rfl) 2 (by simp [maxLen]))
    (fun q hq => by
      simp only [List.mem_cons, List.not_mem_nil, or_false] at hq
      rcases hq with rfl | rfl
      · rw [hq1]; exact (by decide : (1 : Int) ≠ 0)
      · rw [hq2]; exact (by decide : (13 : Int) ≠ 0))
    (by simp)
    (fun q hq W => by
      simp only [List.mem_cons, List.not_mem_nil, or_false] at hq
      rcases hq with rfl | rfl
      · rw [hq1]; exact ent_fund2 _ _
      · rw [hq2]; exact ent_fund3 _ _)
    (fun W args => ent_fund1 _ _)
    (fun q hq hb W h => by
      simp only [List.mem_cons, List.not_mem_nil, or_false] at hq
      rcases hq with rfl | rfl
      · rw [show two x (sumE (bals xs ++ [x]) == 0) q = argB x by rw [hq1]; rfl, hq1]
        exact fund2_any X x W (cell1 h 1 rfl)
      · rw [show two x (sumE (bals xs ++ [x]) == 0) q = (sumE (bals xs ++ [x]) == 0) by rw [hq2]; rfl, hq2]
        obtain ⟨v, hv, hr⟩ := h.obj (i + 3) hi
        have hc := cell_of hv 0
        simp only [List.getElem?_toArray, List.getElem?_cons_zero] at hc
        exact fund3_any A X b v xs x W (cell1 h 2 rfl) (cell1 h 1 rfl) hc hr (by omega))
    (fun hb hB W g c h hv => by
      have hk := (bankB_iff _ _).1 hb
      have hm : k.toNat < xs.length := by omega
      have ha := hB q1 (by simp)
      rw [show two x (sumE (bals xs ++ [x]) == 0) q1 = argB x by rw [hq1]; rfl] at ha
      exact fund1_any h (i + 3) b xs hi X x (cell1 h 1 rfl) g c k.toNat hm hv (argB_near ha) (good_near hg hm)))
  have HE := Lib.hid hE
  have HQ1 := Lib.hid hq1
  have HQ2 := Lib.hid hq2
  have HA := Lib.hid hA
  have HX := Lib.hid hX
  have HI := Lib.hid hi
  have HG := Lib.hid hg
  clear hs1 hs2 hE hq1 hq2 hA hX hi hs hg
  go_enter Try.func9, Try.ntmps9
  go_wp2_with fail
  have e1 := HX.out
  have e2 := HA.out
  subst e1
  subst e2
  have e3 := HQ1.out
  have e4 := HQ2.out
  subst e3
  subst e4
  refine (HT.out).mono ?_
  rintro en w5 ⟨rfl, hs5⟩
  rw [HE.out] at hs5 ⊢
  have hfin : Sep w0 w5 (L.set i (accT b (fundL xs k x))) := by
    by_cases h0 : fundE xs k x = 0
    · rw [h0, pick_yes] at hs5
      rw [show fundL xs k x = addAt xs k.toNat x by unfold fundL; rw [if_pos h0]]
      exact hs5.tail.tail.tail
    · rw [pick_no h0] at hs5
      rw [show fundL xs k x = xs by unfold fundL; rw [if_neg h0], set_same HI.out]
      exact hs5.tail.tail.tail
  have HF := Lib.hid hfin
  clear hs5 hfin
  go_wp2_with fail
  go_ret
  exact ⟨rfl, HF.out⟩
set_option maxHeartbeats 1000000 in
theorem draw_any {w0 w : World} {L : List Thing} (hs : Sep w0 w L) (i b : Nat) (xs : List Ac) (hi : L[i]? = some (accT b xs)) (hg : GoodA xs) (k x : Int) :
    Calls Try.prog 12 #[.pointer (some ⟨b, 0, none⟩), .int .i64 k, .int .i64 x] w fun en w' => en = .returned (.int .i64 (drawE xs k x)) ∧ Sep w0 w' (L.set i (accT b (drawL xs k x))) := by
  have hs1 := (((hs.newCells #[.pointer (some ⟨b, 0, none⟩)] 28).newCells #[.int .i64 k] 3).newCells #[.int .i64 x] 2)
  simp only [World.size_alloc] at hs1
  obtain ⟨A, hA⟩ : ∃ A, A = w.heap.size := ⟨_, rfl⟩
  obtain ⟨KB, hKB⟩ : ∃ X, X = w.heap.size + 1 := ⟨_, rfl⟩
  obtain ⟨X, hX⟩ : ∃ X, X = w.heap.size + 1 + 1 := ⟨_, rfl⟩
  obtain ⟨q1, hq1⟩ : ∃ q : Ask, q = ⟨1, 36, #[.pointer (some ⟨X, 0, none⟩)]⟩ := ⟨_, rfl⟩
  obtain ⟨q2, hq2⟩ : ∃ q : Ask, q = ⟨12, 37, #[.pointer (some ⟨X, 0, none⟩), .pointer (some ⟨A, 0, none⟩), .pointer (some ⟨KB, 0, none⟩)]⟩ := ⟨_, rfl⟩
  have hs2 := hs1.newCells (askR.flat [q1, q2]).toArray 65
  simp only [World.size_alloc] at hs2
  rw [← hX, ← hKB, ← hA] at hs2
  have hlen := hg.len
  have hE : turnE xs.length k [q1, q2] (two x (decide (x ≤ (acAt xs k.toNat).bal))) = drawE xs k x := by
    rw [turn_two (e := 12) (by rw [hq1]) (by rw [hq2]) (by decide)]
    unfold drawE
    simp only [decide_eq_true_eq]
  have HT := Lib.hid (turn_any (w := (((w.alloc (.cells #[.pointer (some ⟨b, 0, none⟩)] 28)).alloc (.cells #[.int .i64 k] 3)).alloc (.cells #[.int .i64 x] 2)).alloc (.cells (askR.flat [q1, q2]).toArray 65)) hs2 (i + 4) b xs (addAt xs k.toNat (-x)) hi (by omega) k 35 #[.pointer (some ⟨X, 0, none⟩)] (.slice (some ⟨X + 1, 0, none⟩) 2 2) [q1, q2] (two x (decide (x ≤ (acAt xs k.toNat).bal)))
    (fun W h => RdG.ofCells (R := askR) [q1, q2] (h.cells 0 rfl) 2 (by simp [maxLen]))
    (fun q hq => by
      simp only [List.mem_cons, List.not_mem_nil, or_false] at hq
      rcases hq with rfl | rfl
      · rw [hq1]; exact (by decide : (1 : Int) ≠ 0)
      · rw [hq2]; exact (by decide : (12 : Int) ≠ 0))
    (by simp)
    (fun q hq W => by
      simp only [List.mem_cons, List.not_mem_nil, or_false] at hq
      rcases hq with rfl | rfl
      · rw [hq1]; exact ent_draw2 _ _
      · rw [hq2]; exact ent_draw3 _ _)
    (fun W args => ent_draw1 _ _)
    (fun q hq hb W h => by
      simp only [List.mem_cons, List.not_mem_nil, or_false] at hq
      rcases hq with rfl | rfl
      · rw [show two x (decide (x ≤ (acAt xs k.toNat).bal)) q = argB x by rw [hq1]; rfl, hq1]
        exact draw2_any X x W (cell1 h 1 rfl)
      · rw [show two x (decide (x ≤ (acAt xs k.toNat).bal)) q = (decide (x ≤ (acAt xs k.toNat).bal)) by rw [hq2]; rfl, hq2]
        obtain ⟨v, hv, hr⟩ := h.obj (i + 4) hi
        have hc := cell_of hv 0
        simp only [List.getElem?_toArray, List.getElem?_cons_zero] at hc
        have hk := (bankB_iff _ _).1 hb
        have hm : k.toNat < xs.length := by omega
        exact draw3_any A X KB b v xs x k.toNat hm W (cell1 h 3 rfl) (cell1 h 1 rfl) (by rw [cell1 h 2 rfl, show ((k.toNat : Nat) : Int) = k by omega]) hc hr)
    (fun hb hB W g c h hv => by
      have hk := (bankB_iff _ _).1 hb
      have hm : k.toNat < xs.length := by omega
      have ha := hB q1 (by simp)
      rw [show two x (decide (x ≤ (acAt xs k.toNat).bal)) q1 = argB x by rw [hq1]; rfl] at ha
      exact draw1_any h (i + 4) b xs hi X x (cell1 h 1 rfl) g c k.toNat hm hv (argB_near ha) (good_near hg hm)))
  have HE := Lib.hid hE
  have HQ1 := Lib.hid hq1
  have HQ2 := Lib.hid hq2
  have HA := Lib.hid hA
  have HX := Lib.hid hX
  have HKB := Lib.hid hKB
  have HI := Lib.hid hi
  have HG := Lib.hid hg
  clear hs1 hs2 hE hq1 hq2 hA hX hKB hi hs hg
  go_enter Try.func12, Try.ntmps12
  go_wp2_with fail
  have e1 := HX.out
  have e2 := HA.out
  have e5 := HKB.out
  subst e1
  subst e2
  subst e5
  have e3 := HQ1.out
  have e4 := HQ2.out
  subst e3
  subst e4
  refine (HT.out).mono ?_
  rintro en w5 ⟨rfl, hs5⟩
  rw [HE.out] at hs5 ⊢
  have hfin : Sep w0 w5 (L.set i (accT b (drawL xs k x))) := by
    by_cases h0 : drawE xs k x = 0
    · rw [h0, pick_yes] at hs5
      rw [show drawL xs k x = addAt xs k.toNat (-x) by unfold drawL; rw [if_pos h0]]
      exact hs5.tail.tail.tail.tail
    · rw [pick_no h0] at hs5
      rw [show drawL xs k x = xs by unfold drawL; rw [if_neg h0], set_same HI.out]
      exact hs5.tail.tail.tail.tail
  have HF := Lib.hid hfin
  clear hs5 hfin
  go_wp2_with fail
  go_ret
  exact ⟨rfl, HF.out⟩
theorem turn_one {l : Nat} {k x : Int} {q : Ask} (h : q.e = 1) : turnE l k [q] (fun _ => mayB x) = if bankB l k = false then 10 else if mayB x = false then 1 else 0 := by
  unfold turnE
  cases bankB l k
  · simp
  · cases ha : mayB x <;> simp [h, List.find?]
set_option maxHeartbeats 1000000 in
theorem reserve_any {w0 w : World} {L : List Thing} (hs : Sep w0 w L) (i b : Nat) (xs : List Ac) (hi : L[i]? = some (accT b xs)) (hg : GoodA xs) (k x : Int) :
    Calls Try.prog 18 #[.pointer (some ⟨b, 0, none⟩), .int .i64 k, .int .i64 x] w fun en w' => en = .returned (.int .i64 (resE xs k x)) ∧ Sep w0 w' (L.set i (accT b (resL xs k x))) := by
  have hs1 := (hs.newCells #[.int .i64 x] 2)
  obtain ⟨X, hX⟩ : ∃ X, X = w.heap.size := ⟨_, rfl⟩
  obtain ⟨q1, hq1⟩ : ∃ q : Ask, q = ⟨1, 39, #[.pointer (some ⟨X, 0, none⟩)]⟩ := ⟨_, rfl⟩
  have hs2 := hs1.newCells (askR.flat [q1]).toArray 65
  simp only [World.size_alloc] at hs2
  rw [← hX] at hs2
  have hlen := hg.len
  have hE : turnE xs.length k [q1] (fun _ => mayB x) = resE xs k x := by
    rw [turn_one (by rw [hq1])]
    rfl
  have HT := Lib.hid (turn_any (w := (w.alloc (.cells #[.int .i64 x] 2)).alloc (.cells (askR.flat [q1]).toArray 65)) hs2 (i + 2) b xs (resAt xs k.toNat x) hi (by omega) k 38 #[.pointer (some ⟨X, 0, none⟩)] (.slice (some ⟨X + 1, 0, none⟩) 1 1) [q1] (fun _ => mayB x)
    (fun W h => RdG.ofCells (R := askR) [q1] (h.cells 0 rfl) 1 (by simp [maxLen]))
    (fun q hq => by
      simp only [List.mem_cons, List.not_mem_nil, or_false] at hq
      subst hq
      rw [hq1]; exact (by decide : (1 : Int) ≠ 0))
    (by simp)
    (fun q hq W => by
      simp only [List.mem_cons, List.not_mem_nil, or_false] at hq
      subst hq
      rw [hq1]; exact ent_res2 _ _)
    (fun W args => ent_res1 _ _)
    (fun q hq hb W h => by
      simp only [List.mem_cons, List.not_mem_nil, or_false] at hq
      subst hq
      rw [hq1]
      exact res2_any X x W (cell1 h 1 rfl))
    (fun hb hB W g c h hv => by
      have hk := (bankB_iff _ _).1 hb
      have hm : k.toNat < xs.length := by omega
      exact res1_any h (i + 2) b xs hi X x (cell1 h 1 rfl) g c k.toNat hm hv))
  have HE := Lib.hid hE
  have HQ1 := Lib.hid hq1
  have HX := Lib.hid hX
  have HI := Lib.hid hi
  have HG := Lib.hid hg
  clear hs1 hs2 hE hq1 hX hi hs hg
  go_enter Try.func18, Try.ntmps18
  go_wp2_with fail
  have e1 := HX.out
  subst e1
  have e3 := HQ1.out
  subst e3
  refine (HT.out).mono ?_
  rintro en w5 ⟨rfl, hs5⟩
  rw [HE.out] at hs5 ⊢
  have hfin : Sep w0 w5 (L.set i (accT b (resL xs k x))) := by
    by_cases h0 : resE xs k x = 0
    · rw [h0, pick_yes] at hs5
      rw [show resL xs k x = resAt xs k.toNat x by unfold resL; rw [if_pos h0]]
      exact hs5.tail.tail
    · rw [pick_no h0] at hs5
      rw [show resL xs k x = xs by unfold resL; rw [if_neg h0], set_same HI.out]
      exact hs5.tail.tail
  have HF := Lib.hid hfin
  clear hs5 hfin
  go_wp2_with fail
  go_ret
  exact ⟨rfl, HF.out⟩
set_option maxHeartbeats 2000000 in
theorem ashift_any {w0 w : World} {L : List Thing} (hs : Sep w0 w L) (i b : Nat) (xs : List Ac) (hi : L[i]? = some (accT b xs)) (hsm : xs.length ≤ 1000) (v : Value) (by_ : List Int) (hr : ∀ W, Sep w0 W L → Rd .i64 W v by_) :
    Calls Try.prog 19 #[.pointer (some ⟨b, 0, none⟩), v] w fun en w' => en = .returned (.int .i64 (shiftE (bals xs) by_)) ∧ Sep w0 w' (L.set i (accT b (shiftL xs by_))) := by
  obtain ⟨a2, c2, rfl⟩ := (hr w hs).shape
  obtain ⟨v, hv, hrd⟩ := hs.obj i hi
  have hc := cell_of hv 0
  simp only [List.getElem?_toArray, List.getElem?_cons_zero] at hc
  have hrs := hrd
  have HR := Lib.hid hr
  clear hv hr
  go_enter Try.func19, Try.ntmps19
  go_wp2_with fail
  refine (balances_any b _ xs _ hc hrd (by omega)).mono ?_
  rintro en w2 ⟨u, rfl, k2⟩
  clear hc hrd hrs
  replace hs := hs.belowStep k2.below
  go_wp2_with fail
  refine (shift_any _ _ (bals xs) by_ _ (k2.rdInts 0 rfl) (HR.out _ hs) (by rw [bals_length]; omega)).mono ?_
  rintro en w3 ⟨u3, rfl, k3⟩
  clear k2
  replace hs := hs.join k3
  simp only [List.cons_append, List.nil_append] at hs
  obtain ⟨S, hS⟩ : ∃ S, S = shiftV (bals xs) by_ := ⟨_, rfl⟩
  have hSL : S.length ≤ xs.length := by
    rw [hS]
    rcases shift_len (l := bals xs) (b := by_) with q | q
    · rw [q, bals_length]; exact Nat.le_refl _
    · rw [q]; simp
  obtain ⟨E, hE⟩ : ∃ E, E = shiftE (bals xs) by_ := ⟨_, rfl⟩
  rw [← hS] at hs
  rw [← hE]
  have HFIN := Lib.hid (show shiftL xs by_ = putB xs S S.length by rw [hS]; rfl)
  have HEE := Lib.hid hE
  clear hS hE k3
  obtain ⟨a3, c3, rfl⟩ := (hs.rdInts 0 rfl).shape
  have hle := (hs.rdInts 0 rfl).le'
  have HI := Lib.hid hi
  clear hi
  go_wp2_with fail
  refine wp_loopM [none, none, none, none, none, none, none, some 7, some 8, none, none, none, none, none, none, none, none, none, none, none, some 20, some 21, some 22, some 23, some 24, some 25, some 26, some 27, some 28, some 29, some 30, some 31, some 32, some 33, none] (fun (r : Nat) (f : Nat → Value) (wr : World) => (fun (v : Value) => ∃ (j : Nat), v = .int .i64 j ∧ j ≤ S.length ∧ r = S.length - j ∧ Sep w0 wr (intsT .i64 2 (.slice a3 S.length c3) S :: L.set i (accT b (putB xs S j)))) (f 20)) (S.length) (by kernel_rfl) ?atStart1 ?round1
  case' atStart1 => (try dsimp only [nthV])
  case' round1 =>
    intro gk f wr l hl hrel J1 K1 hJ1 hK1
    (try simp only [mask] at hl)
    generalize f 20 = u20 at hl hrel
    subst hl
    (try dsimp only at hrel)
  case atStart1 => exact ⟨0, rfl, Nat.zero_le _, rfl, by rw [putB_zero, set_same HI.out]; exact hs⟩
  case round1 =>
    clear hs
    obtain ⟨j, rfl, hj, rfl, hs⟩ := hrel
    by_cases hlt : j < S.length
    · obtain ⟨b1, o1, e1, hb1, hc1⟩ := (hs.rdInts 0 rfl).at j hlt
      subst e1
      have hjx : j < xs.length := Nat.lt_of_lt_of_le hlt hSL
      have hip : (intsT .i64 2 (.slice (some ⟨b1, o1, none⟩) S.length c3) S :: L.set i (accT b (putB xs S j)))[i + 1]? = some (accT b (putB xs S j)) := by
        have := (List.getElem?_eq_some_iff.1 HI.out).1
        simp [this]
      obtain ⟨v, hv, ho, _⟩ := hs.objUse (i + 1) hip
      have hpl := putB_length xs S j
      obtain ⟨g, cg, rfl, hg, hcell, hfr⟩ := ho.get j (by rw [hpl]; exact hjx)
      have x0 := hcell j (by rw [hpl]; exact hjx) 0 (by decide)
      simp only [acR, Nat.add_zero, List.getElem?_cons_zero, putB_at hjx, if_neg (Nat.lt_irrefl j)] at x0
      have hcb := cell_of hv 0
      simp only [List.getElem?_toArray, List.getElem?_cons_zero] at hcb
      rw [hpl] at hcb
      have HS := Lib.hid (show Sep w0 (wr.setCell ⟨g, j * 2, none⟩ (.int .i64 (S.getD j 0))) (intsT .i64 2 (.slice (some ⟨b1, o1, none⟩) S.length c3) S :: L.set i (accT b (putB xs S (j + 1)))) from by
        have := hs.objSet (i + 1) hip one_inj hv j (by rw [hpl]; exact hjx) 0 (by decide) ⟨S.getD j 0, (acAt xs j).res⟩ (.int .i64 (S.getD j 0)) (by rw [putB_at hjx, if_neg (Nat.lt_irrefl j)]; rfl)
        rw [putB_step hjx, List.set_cons_succ, List.set_set] at this
        exact this)
      obtain ⟨V, hV⟩ : ∃ V, V = S.getD j 0 := ⟨_, rfl⟩
      rw [← hV] at HS hc1
      clear hcell hv ho hip hpl hs hV
      go_wp2_with fail
      refine Round.intro (S.length - (j + 1)) ?measure2 (by kernel_rfl) (hJ1 _ _ _ ?rel2)
      case' rel2 => (try dsimp only [nthV])
      case measure2 => omega
      case rel2 => exact ⟨j + 1, by go_num, hlt, rfl, HS.out⟩
    · obtain rfl : j = S.length := by omega
      have HF := Lib.hid (show Sep w0 wr (L.set i (accT b (shiftL xs by_))) from by rw [HFIN.out]; exact hs.tail)
      clear hs
      go_wp2_with fail
      go_ret
      exact ⟨by rw [← HEE.out]; rfl, HF.out⟩
end Go.Proofs.Ytlpfojpfepfdgaa
