/-
  Package rest, the reference's Bottle, walked.
-/
import Derived.Test.YtmfjfhmoljnnkaaRRef2
import Derived.Test.YtmfjfhmoljnnkaaRPlain3
namespace Go.Proofs.Ytmfjfhmoljnnkaa
open Go Go.RowKit Go.Mem Go.NetP Go.RestP

theorem bottle_step {n : Int} {es : List Ed} {fl arcs : List Int} {b : Int} (hb : 0 < b) : (alongE n es fl arcs b = 0) ↔ b ≤ bottleV n es fl arcs := by
  cases hw : (wayB n es arcs && withinB n es fl)
  · rw [along_bad0 hw, show bottleV n es fl arcs = 0 by simp [bottleV, hw]]
    constructor
    · intro h; exact absurd h (by decide)
    · intro h; omega
  · rw [Bool.and_eq_true] at hw
    exact bottle_iff hw.1 hw.2 (by omega)
theorem pow_bound (k : Nat) (h : k ≤ 52) : (1 : Int) ≤ 2 ^ k ∧ (2 : Int) ^ k ≤ 4503599627370496 := by
  have h1 : 2 ^ k ≤ 2 ^ 52 := Nat.pow_le_pow_right (by decide) h
  have h2 : 1 ≤ 2 ^ k := Nat.one_le_two_pow
  have h3 : ((2 ^ k : Nat) : Int) = (2 : Int) ^ k := by simp
  omega
set_option maxHeartbeats 2000000 in
theorem rbottle_any (n : Int) (a : Option Addr) (c : Nat) (es : List Ed) (v : Value) (fl : List Int) (va : Value) (arcs : List Int) (w : World) (h : RdG edR w (.slice a es.length c) es) (h' : Rd .i64 w v fl) (ha : Rd .i64 w va arcs) (hsm : es.length ≤ 100000) :
    Calls Try.prog 24 #[.agg #[.int .i64 n, .slice a es.length c], v, va] w fun en w' => en = .returned (.int .i64 (bottleV n es fl arcs)) ∧ Below w.heap.size w w' := by
  have hs := (Sep.start w).newCells #[.int .i64 n, .slice a es.length c] 24
  obtain ⟨a', c', rfl⟩ := h'.shape
  obtain ⟨a2, c2, rfl⟩ := ha.shape
  have hB := bottle_bound n es fl arcs
  go_enter Try.func24, Try.ntmps24
  go_wp2_with fail
  refine wp_loopM [none, none, none, none, none, none, none, some 7, some 8, some 9, some 10, some 11, some 12, some 13, some 14, some 15, some 16, some 17, some 18, some 19, some 20, some 21, some 22, some 23, some 24, some 25, some 26, some 27, some 28, some 29, some 30, some 31, none] (fun (r : Nat) (f : Nat → Value) (wr : World) => (fun (v vb : Value) => ∃ (j : Nat) (b : Int), j = r ∧ v = .int .i64 ((j : Int) - 1) ∧ vb = .int .i64 b ∧ j ≤ 53 ∧ 0 ≤ b ∧ b ≤ bottleV n es fl arcs ∧ bottleV n es fl arcs < b + 2 ^ j ∧ Sep w wr [cellsT w.heap.size #[.int .i64 n, .slice a es.length c] 24]) (f 8) (f 7)) (53) (by kernel_rfl) ?atStart1 ?round1
  case' atStart1 => (try dsimp only [nthV])
  case' round1 =>
    intro gk f wr l hl hrel J1 K1 hJ1 hK1
    (try simp only [mask] at hl)
    generalize f 8 = u8 at hl hrel
    generalize f 7 = u7 at hl hrel
    subst hl
    (try dsimp only at hrel)
  case atStart1 => exact ⟨53, 0, rfl, rfl, rfl, Nat.le_refl _, Int.le_refl _, hB.1, by have := hB.2; omega, hs⟩
  case round1 =>
    clear hs
    obtain ⟨j, b, rfl, rfl, rfl, hj, hb0, hb1, hb2, hs⟩ := hrel
    obtain ⟨hB0, hB1⟩ := hB
    cases j with
    | zero =>
      have HE := Lib.hid (show b = bottleV n es fl arcs by simp at hb2; omega)
      clear hb0 hb1 hb2 hB0 hB1
      go_wp2_with fail
      go_ret
      exact ⟨by rw [← HE.out]; rfl, hs.below⟩
    | succ k =>
      rw [show ((k + 1 : Nat) : Int) - 1 = (k : Int) by omega]
      have HP := Lib.hid (pow_bound k (by omega))
      rw [Int.pow_succ] at hb2
      have HA := fun hb => Lib.hid (bottle_step (n := n) (es := es) (fl := fl) (arcs := arcs) (b := b + 2 ^ k) hb)
      obtain ⟨Q, hQ⟩ : ∃ Q : Int, Q = 2 ^ k := ⟨_, rfl⟩
      rw [← hQ] at hb2 HP HA
      have HQ := Lib.hid hQ
      clear hQ
      have hq0 := HP.out.1
      have hq1 := HP.out.2
      have e2 : wrap64 (b + wrap64 (2 ^ k)) = b + Q := by rw [← HQ.out]; simp only [wrap64]; omega
      have e1 : wrap64 (2 ^ k) = Q := by rw [← HQ.out]; simp only [wrap64]; omega
      have HA2 := HA (by omega)
      clear HA
      have n0 := cell_of (hs.cells 0 rfl) 0
      have n1 := cell_of (hs.cells 0 rfl) 1
      simp only [List.getElem?_toArray, List.getElem?_cons_zero, List.getElem?_cons_succ] at n0 n1
      go_wp2_with fail
      (try simp only [e2, e1])
      obtain ⟨M, hM⟩ : ∃ M, M = b + Q := ⟨_, rfl⟩
      rw [← hM] at HA2 ⊢
      refine (ralong_any n a c es _ fl _ arcs M _ (hs.rdG h) (hs.rd h') (hs.rd ha) hsm).mono ?_
      rintro en w5 ⟨u, rfl, _, hb⟩
      clear e1 e2
      have HM := Lib.hid hM
      clear hM
      replace hs := hs.belowStep hb
      clear hb; (try clear n0 n1)
      obtain ⟨E, hE⟩ : ∃ E, E = alongE n es fl arcs M := ⟨_, rfl⟩
      rw [← hE] at HA2 ⊢
      have HEE := Lib.hid hE
      clear hE
      by_cases he : E = 0
      · subst he
        have HF := Lib.hid (show b + Q ≤ bottleV n es fl arcs by have := HA2.out.1 rfl; rw [HM.out] at this; exact this)
        clear HEE
        go_wp2_with fail
        refine Round.intro (k) ?measure2 (by kernel_rfl) (hJ1 _ _ _ ?rel2)
        case' rel2 => (try dsimp only [nthV])
        case measure2 => omega
        case rel2 => exact ⟨k, M, rfl, by go_num, rfl, by omega, by rw [HM.out]; omega, by rw [HM.out]; exact HF.out, by rw [HM.out, ← HQ.out]; omega, hs⟩
      · have HF := Lib.hid (show ¬ b + Q ≤ bottleV n es fl arcs by intro h; rw [← HM.out] at h; exact he (HA2.out.2 h))
        clear HEE
        have he2 : (E == 0) = false := by simp [he]
        go_wp2_with fail
        refine Round.intro (k) ?measure3 (by kernel_rfl) (hJ1 _ _ _ ?rel3)
        case' rel3 => (try dsimp only [nthV])
        case measure3 => omega
        case rel3 => exact ⟨k, b, rfl, by go_num, rfl, by omega, hb0, hb1, by rw [← HQ.out]; have := HF.out; omega, hs⟩
end Go.Proofs.Ytmfjfhmoljnnkaa
