/-
  Package cert, walked: Check, Gap.
-/
import Derived.Test.YtfnkmkfkomhhnaaCW1
import Derived.Shelf.Abstract
import Derived.Laws.EntriesVeiled
namespace Go.Proofs.Ytfnkmkfkomhhnaa
open Go Go.RowKit Go.Mem Go.NetP Go.RestP Go.CertP Go.Shelf

theorem ent_c1 : Enters Try.prog 39 := enters_of Try.func39 (by kernel_rfl) rfl
theorem ent_c2 : Enters Try.prog 41 := enters_of Try.func41 (by kernel_rfl) rfl
theorem ent_c3 : Enters Try.prog 43 := enters_of Try.func43 (by kernel_rfl) rfl
theorem ent_c4 : Enters Try.prog 45 := enters_of Try.func45 (by kernel_rfl) rfl
/-- A net and what is accepted, in blocks. -/
structure InC (W : World) (nb cb : Nat) (n : Int) (vn vf vp : Value) : Prop where
  n0 : W.cell? ⟨nb, 0, none⟩ = some (.int .i64 n)
  n1 : W.cell? ⟨nb, 1, none⟩ = some vn
  c0 : W.cell? ⟨cb, 0, none⟩ = some vf
  c1 : W.cell? ⟨cb, 1, none⟩ = some vp
theorem check1_any (nb cb : Nat) (n : Int) (a : Option Addr) (c : Nat) (es : List Ed) (vf vp : Value) (w : World) (k : InC w nb cb n (.slice a es.length c) vf vp) (h : RdG edR w (.slice a es.length c) es) :
    Calls Try.prog 39 #[.pointer (some ⟨nb, 0, none⟩)] w fun en w' => en = .returned (.bool (rightB n es)) ∧ Below w.heap.size w w' := by
  obtain ⟨n0, n1, c0, c1⟩ := k
  go_enter Try.func39, Try.ntmps39
  go_wp2_with fail
  refine (right_any n a c es _ h).mono ?_
  rintro en w1 ⟨rfl, hb⟩
  go_wp2_with fail
  go_ret
  exact ⟨rfl, hb⟩
theorem check2_any (nb cb : Nat) (n : Int) (a : Option Addr) (c : Nat) (es : List Ed) (vf : Value) (fl : List Int) (vp : Value) (w : World) (k : InC w nb cb n (.slice a es.length c) vf vp) (h : RdG edR w (.slice a es.length c) es) (hf : Rd .i64 w vf fl) :
    Calls Try.prog 41 #[.pointer (some ⟨nb, 0, none⟩), .pointer (some ⟨cb, 0, none⟩)] w fun en w' => en = .returned (.bool (flowsB n es fl)) ∧ Below w.heap.size w w' := by
  obtain ⟨n0, n1, c0, c1⟩ := k
  go_enter Try.func41, Try.ntmps41
  go_wp2_with fail
  refine (flows_any n a c es _ fl _ h hf).mono ?_
  rintro en w1 ⟨rfl, hb⟩
  go_wp2_with fail
  go_ret
  exact ⟨rfl, hb⟩
theorem check3_any (nb cb : Nat) (n : Int) (a : Option Addr) (c : Nat) (es : List Ed) (vf : Value) (vp : Value) (pot : List Int) (w : World) (k : InC w nb cb n (.slice a es.length c) vf vp) (hp : Rd .i64 w vp pot) :
    Calls Try.prog 43 #[.pointer (some ⟨nb, 0, none⟩), .pointer (some ⟨cb, 0, none⟩)] w fun en w' => en = .returned (.bool (potB n pot)) ∧ Below w.heap.size w w' := by
  obtain ⟨n0, n1, c0, c1⟩ := k
  go_enter Try.func43, Try.ntmps43
  go_wp2_with fail
  refine (cwithin_any n a es.length c _ pot _ hp).mono ?_
  rintro en w1 ⟨rfl, hb⟩
  go_wp2_with fail
  go_ret
  exact ⟨rfl, hb⟩
theorem check4_any (nb cb : Nat) (n : Int) (a : Option Addr) (c : Nat) (es : List Ed) (vf : Value) (fl : List Int) (vp : Value) (pot : List Int) (w : World) (k : InC w nb cb n (.slice a es.length c) vf vp) (h : RdG edR w (.slice a es.length c) es) (hf : Rd .i64 w vf fl) (hp : Rd .i64 w vp pot) (hr : rightB n es = true) (hw : withinB n es fl = true) (hpot : potB n pot = true) :
    Calls Try.prog 45 #[.pointer (some ⟨nb, 0, none⟩), .pointer (some ⟨cb, 0, none⟩)] w fun en w' => en = .returned (.bool (tightB es fl pot)) ∧ Below w.heap.size w w' := by
  obtain ⟨n0, n1, c0, c1⟩ := k
  go_enter Try.func45, Try.ntmps45
  go_wp2_with fail
  refine (tight_any n a c es _ fl _ pot _ h hf hp hr hw hpot).mono ?_
  rintro en w1 ⟨rfl, hb⟩
  go_wp2_with fail
  go_ret
  exact ⟨rfl, hb⟩
set_option maxRecDepth 100000 in
set_option maxHeartbeats 2000000 in
theorem check_any (n : Int) (a : Option Addr) (c : Nat) (es : List Ed) (vf : Value) (fl : List Int) (vp : Value) (pot : List Int) (w : World) (h : RdG edR w (.slice a es.length c) es) (hf : Rd .i64 w vf fl) (hp : Rd .i64 w vp pot) :
    Calls Try.prog 30 #[.agg #[.int .i64 n, .slice a es.length c], .agg #[vf, vp]] w fun en w' => en = .returned (.bool (checkB n es fl pot)) ∧ Below w.heap.size w w' := by
  obtain ⟨af, cf, rfl⟩ := hf.shape
  obtain ⟨ap, cp, rfl⟩ := hp.shape
  have hs := ((Sep.start w).newCells #[.int .i64 n, .slice a es.length c] 34).newCells #[.slice af fl.length cf, .slice ap pot.length cp] 37
  simp only [World.size_alloc] at hs
  replace hs := hs.newCells #[.func (.func 39) #[] #[.pointer (some ⟨w.heap.size, 0, none⟩)], .func (.func 41) #[] #[.pointer (some ⟨w.heap.size, 0, none⟩), .pointer (some ⟨w.heap.size + 1, 0, none⟩)], .func (.func 43) #[] #[.pointer (some ⟨w.heap.size, 0, none⟩), .pointer (some ⟨w.heap.size + 1, 0, none⟩)], .func (.func 45) #[] #[.pointer (some ⟨w.heap.size, 0, none⟩), .pointer (some ⟨w.heap.size + 1, 0, none⟩)]] 24
  simp only [World.size_alloc] at hs
  have FIN := Lib.hid (fun (W : World) (k : Sep w W [cellsT (w.heap.size + 1 + 1) #[.func (.func 39) #[] #[.pointer (some ⟨w.heap.size, 0, none⟩)], .func (.func 41) #[] #[.pointer (some ⟨w.heap.size, 0, none⟩), .pointer (some ⟨w.heap.size + 1, 0, none⟩)], .func (.func 43) #[] #[.pointer (some ⟨w.heap.size, 0, none⟩), .pointer (some ⟨w.heap.size + 1, 0, none⟩)], .func (.func 45) #[] #[.pointer (some ⟨w.heap.size, 0, none⟩), .pointer (some ⟨w.heap.size + 1, 0, none⟩)]] 24, cellsT (w.heap.size + 1) #[.slice af fl.length cf, .slice ap pot.length cp] 37, cellsT w.heap.size #[.int .i64 n, .slice a es.length c] 34]) =>
    (⟨cell_of (k.cells 2 rfl) 0, cell_of (k.cells 2 rfl) 1, cell_of (k.cells 1 rfl) 0, cell_of (k.cells 1 rfl) 1⟩ : InC W w.heap.size (w.heap.size + 1) n (.slice a es.length c) (.slice af fl.length cf) (.slice ap pot.length cp)))
  have e1 := fun W args => ent_c1 args W
  have e2 := fun W args => ent_c2 args W
  have e3 := fun W args => ent_c3 args W
  have e4 := fun W args => ent_c4 args W
  cases hr : rightB n es
  · have HE := Lib.hid (show checkB n es fl pot = false by simp [checkB, hr])
    have HR := Lib.hid hr
    clear hr
    go_enter Try.func30, Try.ntmps30
    go_wp2_with fail
    refine wp_loop_rounds 5 ?_
    rw [rounds_succ]
    have k1 := FIN.out _ hs
    have f1 := cell_of (hs.cells 0 rfl) 0
    simp only [List.getElem?_toArray, List.getElem?_cons_zero, List.getElem?_cons_succ] at f1
    go_wp2_with fail
    refine (check1_any _ _ n a c es _ _ _ k1 (hs.rdG h)).mono ?_
    rintro en w1 ⟨rfl, hb⟩
    rw [HR.out]
    replace hs := hs.belowStep hb
    clear hb f1
    go_wp2_with fail
    go_ret
    exact ⟨by rw [HE.out]; rfl, hs.below⟩
  · cases hfl : flowsB n es fl
    · have HE := Lib.hid (show checkB n es fl pot = false by simp [checkB, hfl])
      have HR := Lib.hid hr
      have HFL := Lib.hid hfl
      clear hr hfl
      go_enter Try.func30, Try.ntmps30
      go_wp2_with fail
      refine wp_loop_rounds 5 ?_
      rw [rounds_succ]
      have k1 := FIN.out _ hs
      have f1 := cell_of (hs.cells 0 rfl) 0
      simp only [List.getElem?_toArray, List.getElem?_cons_zero, List.getElem?_cons_succ] at f1
      go_wp2_with fail
      refine (check1_any _ _ n a c es _ _ _ k1 (hs.rdG h)).mono ?_
      rintro en w1 ⟨rfl, hb⟩
      rw [HR.out]
      replace hs := hs.belowStep hb
      clear hb f1 k1
      go_wp2_with fail
      rw [rounds_succ]
      have k1 := FIN.out _ hs
      have f1 := cell_of (hs.cells 0 rfl) 1
      simp only [List.getElem?_toArray, List.getElem?_cons_zero, List.getElem?_cons_succ] at f1
      go_wp2_with fail
      refine (check2_any _ _ n a c es _ fl _ _ k1 (hs.rdG h) (hs.rd hf)).mono ?_
      rintro en w2 ⟨rfl, hb⟩
      rw [HFL.out]
      replace hs := hs.belowStep hb
      clear hb f1
      go_wp2_with fail
      go_ret
      exact ⟨by rw [HE.out]; rfl, hs.below⟩
    · cases hpo : potB n pot
      · have HE := Lib.hid (show checkB n es fl pot = false by simp [checkB, hpo])
        have HR := Lib.hid hr
        have HFL := Lib.hid hfl
        have HPO := Lib.hid hpo
        clear hr hfl hpo
        go_enter Try.func30, Try.ntmps30
        go_wp2_with fail
        refine wp_loop_rounds 5 ?_
        rw [rounds_succ]
        have k1 := FIN.out _ hs
        have f1 := cell_of (hs.cells 0 rfl) 0
        simp only [List.getElem?_toArray, List.getElem?_cons_zero, List.getElem?_cons_succ] at f1
        go_wp2_with fail
        refine (check1_any _ _ n a c es _ _ _ k1 (hs.rdG h)).mono ?_
        rintro en w1 ⟨rfl, hb⟩
        rw [HR.out]
        replace hs := hs.belowStep hb
        clear hb f1 k1
        go_wp2_with fail
        rw [rounds_succ]
        have k1 := FIN.out _ hs
        have f1 := cell_of (hs.cells 0 rfl) 1
        simp only [List.getElem?_toArray, List.getElem?_cons_zero, List.getElem?_cons_succ] at f1
        go_wp2_with fail
        refine (check2_any _ _ n a c es _ fl _ _ k1 (hs.rdG h) (hs.rd hf)).mono ?_
        rintro en w2 ⟨rfl, hb⟩
        rw [HFL.out]
        replace hs := hs.belowStep hb
        clear hb f1 k1
        go_wp2_with fail
        rw [rounds_succ]
        have k1 := FIN.out _ hs
        have f1 := cell_of (hs.cells 0 rfl) 2
        simp only [List.getElem?_toArray, List.getElem?_cons_zero, List.getElem?_cons_succ] at f1
        go_wp2_with fail
        refine (check3_any _ _ n a c es _ _ pot _ k1 (hs.rd hp)).mono ?_
        rintro en w3 ⟨rfl, hb⟩
        rw [HPO.out]
        replace hs := hs.belowStep hb
        clear hb f1
        go_wp2_with fail
        go_ret
        exact ⟨by rw [HE.out]; rfl, hs.below⟩
      · obtain ⟨T, hT⟩ : ∃ T, T = tightB es fl pot := ⟨_, rfl⟩
        have HE := Lib.hid (show checkB n es fl pot = T by simp [checkB, hr, hfl, hpo, hT])
        have HT := Lib.hid hT
        have HR := Lib.hid hr
        have HFL := Lib.hid hfl
        have HPO := Lib.hid hpo
        clear hr hfl hpo hT
        go_enter Try.func30, Try.ntmps30
        go_wp2_with fail
        refine wp_loop_rounds 5 ?_
        rw [rounds_succ]
        have k1 := FIN.out _ hs
        have f1 := cell_of (hs.cells 0 rfl) 0
        simp only [List.getElem?_toArray, List.getElem?_cons_zero, List.getElem?_cons_succ] at f1
        go_wp2_with fail
        refine (check1_any _ _ n a c es _ _ _ k1 (hs.rdG h)).mono ?_
        rintro en w1 ⟨rfl, hb⟩
        rw [HR.out]
        replace hs := hs.belowStep hb
        clear hb f1 k1
        go_wp2_with fail
        rw [rounds_succ]
        have k1 := FIN.out _ hs
        have f1 := cell_of (hs.cells 0 rfl) 1
        simp only [List.getElem?_toArray, List.getElem?_cons_zero, List.getElem?_cons_succ] at f1
        go_wp2_with fail
        refine (check2_any _ _ n a c es _ fl _ _ k1 (hs.rdG h) (hs.rd hf)).mono ?_
        rintro en w2 ⟨rfl, hb⟩
        rw [HFL.out]
        replace hs := hs.belowStep hb
        clear hb f1 k1
        go_wp2_with fail
        rw [rounds_succ]
        have k1 := FIN.out _ hs
        have f1 := cell_of (hs.cells 0 rfl) 2
        simp only [List.getElem?_toArray, List.getElem?_cons_zero, List.getElem?_cons_succ] at f1
        go_wp2_with fail
        refine (check3_any _ _ n a c es _ _ pot _ k1 (hs.rd hp)).mono ?_
        rintro en w3 ⟨rfl, hb⟩
        rw [HPO.out]
        replace hs := hs.belowStep hb
        clear hb f1 k1
        go_wp2_with fail
        rw [rounds_succ]
        have k1 := FIN.out _ hs
        have f1 := cell_of (hs.cells 0 rfl) 3
        simp only [List.getElem?_toArray, List.getElem?_cons_zero, List.getElem?_cons_succ] at f1
        go_wp2_with fail
        refine (check4_any _ _ n a c es _ fl _ pot _ k1 (hs.rdG h) (hs.rd hf) (hs.rd hp) HR.out (flows_within HFL.out) HPO.out).mono ?_
        rintro en w4 ⟨rfl, hb⟩
        rw [← HT.out]
        replace hs := hs.belowStep hb
        clear hb f1 k1
        cases T
        · go_wp2_with fail
          go_ret
          exact ⟨by rw [HE.out]; rfl, hs.below⟩
        · go_wp2_with fail
          rw [rounds_succ]
          go_wp2_with fail
          go_ret
          exact ⟨by rw [HE.out]; rfl, hs.below⟩
end Go.Proofs.Ytfnkmkfkomhhnaa
