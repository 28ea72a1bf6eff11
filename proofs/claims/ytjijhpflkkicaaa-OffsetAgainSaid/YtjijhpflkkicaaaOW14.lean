/-
  Package cycles: Find, walked.
-/
import Derived.Test.YtjijhpflkkicaaaOW13
set_option linter.unusedVariables false
set_option linter.unusedSimpArgs false
namespace Go.Proofs.Ytjijhpflkkicaaa
open Go Go.RowKit Go.Mem Go.MoneyP Go.NetP Go.BuildP Go.OffP Go.Shelf
/-- What Find answers. -/
def FindD (l : List Du) (w : World) (en : Ending) (w' : World) : Prop :=
  (∃ (a : Addr) (n c : Nat) (q : List Nat), en = .returned (.tuple #[.slice (some a) n c, .bool true]) ∧ RingD l q ∧ Sep w w' [intsT .i64 3 (.slice (some a) n c) (wayI q)]) ∨
  (en = .returned (.tuple #[.slice none 0 0, .bool false]) ∧ Acyc l ∧ Below w.heap.size w w')
/-- The first i banks are done. -/
structure LookB (l : List Du) (E : List Bool) (i : Nat) : Prop where
  ring : NoRing l E
  len : E.length = 16
  all : ∀ b, b < i → E.getD b false = true
theorem done_start : doneV (List.replicate 16 false) = #[.bool false, .bool false, .bool false, .bool false, .bool false, .bool false, .bool false, .bool false, .bool false, .bool false, .bool false, .bool false, .bool false, .bool false, .bool false, .bool false] := rfl
set_option maxRecDepth 100000 in
set_option maxHeartbeats 4000000 in
theorem find_any (l : List Du) (vl : Value) (w : World) (h : RdG duR w vl l) (ha : allB l = true) :
    Calls Try.prog 26 #[vl] w fun en w' => FindD l w en w' := by
  have hlm : l.length ≤ 64 ∧ ∀ d ∈ l, MayD d := by
    simp only [allB, Bool.and_eq_true, decide_eq_true_eq, List.all_eq_true] at ha
    exact ⟨ha.1, fun d hd => (mayD_iff d).1 (ha.2 d hd)⟩
  obtain ⟨hlen, hmay⟩ := hlm
  have HM := Lib.hid hmay
  have HA := Lib.hid ha
  have HR := Lib.hid h
  clear hmay ha
  have hs := (Sep.start w).newCells #[vl] 22
  obtain ⟨BL, hBL⟩ : ∃ BL, BL = w.heap.size := ⟨_, rfl⟩
  rw [← hBL] at hs
  have xl := cell_of (hs.cells 0 rfl) 0
  simp only [List.getElem?_toArray, List.getElem?_cons_zero] at xl
  obtain ⟨al, cl, rfl⟩ := h.shape
  clear h
  go_enter Try.func26, Try.ntmps26
  go_upto_region 1 with fail
  rw [← hBL]
  clear hBL
  generalize World.alloc w _ = W1 at hs xl ⊢
  have HAL := Lib.hid (all_any l _ W1 (hs.rdG HR.out))
  go_wp2_with fail
  refine HAL.out.mono ?_
  clear HAL
  rintro en w2 ⟨rfl, hb⟩
  rw [HA.out]
  replace hs := hs.belowStep hb
  clear hb xl
  replace hs := hs.newCells (doneV (List.replicate 16 false)) 85
  obtain ⟨BD, hBD⟩ : ∃ BD, BD = w2.heap.size := ⟨_, rfl⟩
  rw [← hBD] at hs
  go_upto_region 4 with fail
  rw [← hBD]
  clear hBD
  rw [done_start] at hs
  generalize World.alloc w2 _ = W3 at hs ⊢
  replace hs := (hs.newCells #[.slice none 0 0] 60)
  obtain ⟨BW, hBW⟩ : ∃ BW, BW = W3.heap.size := ⟨_, rfl⟩
  rw [← hBW] at hs
  go_upto_region 5 with fail
  rw [← hBW]
  clear hBW
  generalize World.alloc W3 _ = W4 at hs ⊢
  replace hs := (hs.newCells #[.nilFunc] 86)
  obtain ⟨BF, hBF⟩ : ∃ BF, BF = W4.heap.size := ⟨_, rfl⟩
  rw [← hBF] at hs
  go_upto_region 6 with fail
  rw [← hBF]
  clear hBF
  generalize World.alloc W4 _ = W5 at hs ⊢
  have xf := frozen_of (hs.cells 0 rfl) 0
  have xc := cell_of (hs.cells 0 rfl) 0
  simp only [List.getElem?_toArray, List.getElem?_cons_zero] at xc
  go_upto_region 7 with fail
  generalize hW6 : World.setCell W5 _ _ = W6
  have hsd : Sep w W6 (dfsL BL BD BW BF (.slice al l.length cl) (.slice none 0 0) [] (List.replicate 16 false)) := by
    rw [← hW6]
    have h2 := hs.setC 0 rfl 0 (fromV BL BD BW BF) #[fromV BL BD BW BF] rfl
    (try simp only [List.set_cons_zero] at h2)
    rw [← done_start] at h2
    exact (h2.nilInts .i64 3).perm ((List.perm_append_comm (l₁ := [_, _]) (l₂ := [_, _, _])).trans (((List.perm_append_comm (l₁ := [_, _]) (l₂ := [_])).append_right [_]).cons _))
  clear hs xf xc hW6
  have HST := Lib.hid (show LookB l (List.replicate 16 false) 0 from ⟨NoRing.start l, by simp, fun b hb => absurd hb (Nat.not_lt_zero b)⟩)
  generalize List.replicate 16 false = E0 at hsd HST
  have hen := fun W args => ent_find1 W args
  go_wp2_with fail
  refine wp_loopM [none, none, some 2, some 3, none, none, none, some 7, some 8, none, none, none, none, some 13, some 14, some 15, some 16, some 17, some 18, some 19, some 20, some 21, some 22] (fun (r : Nat) (f : Nat → Value) (wr : World) => (fun (v : Value) => ∃ (i : Nat) (u : Value) (E : List Bool), v = .int .i64 i ∧ i ≤ 16 ∧ r = 16 - i ∧ Hid (LookB l E i) ∧ Sep w wr (dfsL BL BD BW BF (.slice al l.length cl) u [] E)) (f 13)) (16) (by kernel_rfl) ?atStart1 ?round1
  case' atStart1 => (try dsimp only [nthV])
  case' round1 =>
    intro gk f wr l hl hrel J1 K1 hJ1 hK1
    (try simp only [mask] at hl)
    generalize f 13 = u13 at hl hrel
    subst hl
    (try dsimp only at hrel)
  case atStart1 => exact ⟨0, _, E0, rfl, Nat.zero_le _, rfl, HST, hsd⟩
  case round1 =>
    clear hsd
    obtain ⟨i, u, E, rfl, hi, rfl, HI, hs⟩ := hrel
    by_cases hlt : i < 16
    · have hiI : (i : Int) < 16 := by omega
      have xb := cell_of (hs.cells 4 rfl) 0
      simp only [List.getElem?_toArray, List.getElem?_cons_zero] at xb
      unfold fromV at xb
      have HC := Lib.hid (from_any BL BD BW BF l _ HM.out hlen 16 w _ u [] E i (by simp) (GoD.start l hlt) HI.out.ring HI.out.len HR.out hs)
      go_wp2_with fail
      refine HC.out.mono ?_
      clear HC hs xb
      rintro en w7 (⟨av, nv, cv, q, rfl, hq, hs⟩ | ⟨vv, E', rfl, hE1, hE2, hE3, hs⟩)
      · have HQ := Lib.hid hq
        have hnil := fun (W : World) => run_neq_slice_nil_any (P := Try.prog) W 60 3 (some av) nv cv 0 0 Try.underlying60
        clear hq
        go_wp2_with fail
        go_ret2
        exact .inl ⟨_, _, _, _, rfl, HQ.out, hs⟩
      · have HI2 := Lib.hid (show LookB l E' (i + 1) from ⟨hE3, hE1.1.trans HI.out.len, fun b hb => by
          by_cases q : b = i
          · subst q; exact hE2
          · exact hE1.2 b (HI.out.all b (by omega))⟩)
        clear hE1 hE2 hE3
        have hnil := fun (W : World) => run_neq_slice_nil_any (P := Try.prog) W 60 3 none 0 0 0 0 Try.underlying60
        go_wp2_with fail
        refine Round.intro (16 - (i + 1)) ?measure2 (by kernel_rfl) (hJ1 _ _ _ ?rel2)
        case' rel2 => (try dsimp only [nthV])
        case measure2 => omega
        case rel2 => exact ⟨i + 1, vv, E', by go_num, hlt, rfl, HI2, hs⟩
    · obtain rfl : i = 16 := by omega
      have HF := Lib.hid (HI.out.ring.all HM.out HI.out.all)
      go_wp2_with fail
      go_ret2
      exact .inr ⟨rfl, HF.out, hs.below⟩
end Go.Proofs.Ytjijhpflkkicaaa
