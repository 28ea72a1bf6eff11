/-
  partialInsertionSortOrdered at uint64, walked.
-/
import Derived.Test.YthcmkljdhhepgaaUsPart
set_option linter.unusedVariables false
set_option linter.unusedSimpArgs false
namespace Go.Proofs.Ythcmkljdhhepgaa
open Go Go.RowKit Go.Mem Go.Sort
attribute [local go_sem] Oper.semAt_some
theorem shiftDown_size : ∀ (j : Nat) (d : Array Int), (shiftDown ltInt j d).size = d.size
  | 0, d => rfl
  | j + 1, d => by
    unfold shiftDown
    split
    · rfl
    · rw [shiftDown_size j, size_swp]
theorem shiftUp_size' (b : Nat) : ∀ (m j : Nat) (d : Array Int), b - j ≤ m → (shiftUp ltInt b j d).size = d.size
  | 0, j, d, h => by unfold shiftUp; rw [if_neg (by omega)]
  | m + 1, j, d, h => by
    unfold shiftUp
    split
    · split
      · rfl
      · rw [shiftUp_size' b m _ _ (by omega), size_swp]
    · rfl
theorem shiftUp_size (b j : Nat) (d : Array Int) : (shiftUp ltInt b j d).size = d.size := shiftUp_size' b _ j d (Nat.le_refl _)
/-- What a round of partialIns does with the row, from the place I. -/
def pinDown (a I : Nat) (D : Array Int) : Array Int := if I - a ≥ 2 then shiftDown ltInt (I - 1) D else D
def pinUp (b I : Nat) (D : Array Int) : Array Int := if b - I ≥ 2 then shiftUp ltInt b (I + 1) D else D
theorem pinDown_size (a I : Nat) (D : Array Int) : (pinDown a I D).size = D.size := by unfold pinDown; split <;> simp [shiftDown_size]
theorem pinUp_size (a I : Nat) (D : Array Int) : (pinUp a I D).size = D.size := by unfold pinUp; split <;> simp [shiftUp_size]
theorem partialIns_succ (a b s i : Nat) (d : Array Int) : partialIns ltInt a b (s + 1) i d = if scanSorted ltInt d b i = b then (d, true) else if b - a < 50 then (d, false) else
    partialIns ltInt a b s (scanSorted ltInt d b i) (pinUp b (scanSorted ltInt d b i) (pinDown a (scanSorted ltInt d b i) (swp d (scanSorted ltInt d b i) (scanSorted ltInt d b i - 1)))) := rfl
theorem scanSorted_yes {d : Array Int} {b i : Nat} (h : i < b) (hp : ltInt d[i]! d[i - 1]! = false) : scanSorted ltInt d b i = scanSorted ltInt d b (i + 1) := by
  rw [scanSorted, if_pos (by simp [h, hp])]
theorem scanSorted_no {d : Array Int} {b i : Nat} (h : ¬ i < b ∨ ltInt d[i]! d[i - 1]! = true) : scanSorted ltInt d b i = i := by
  rw [scanSorted, if_neg (by rcases h with h | h <;> simp [h])]
section
variable {w0 w : World} {L : List Thing} {q g n c : Nat} {d : Array Int}
set_option maxRecDepth 100000 in
set_option maxHeartbeats 8000000 in
theorem pins_u (hs : Sep w0 w L) (hq0 : L[q]? = some (uT g n c d)) (a b : Nat) (hab : a < b) (hb : b ≤ d.size) (hsz : d.size ≤ 1000000) :
    Calls Try.prog 64 #[.slice (some ⟨g, 0, none⟩) n c, .int .i64 a, .int .i64 b] w fun en w' => en = .returned (.bool (partialInsertionSort ltInt d a b).2) ∧ Sep w0 w' (L.set q (uT g n c (partialInsertionSort ltInt d a b).1)) := by
  have hn := (uT_len hs hq0).1
  have HQ := Lib.hid (List.getElem?_eq_some_iff.1 hq0).1
  obtain ⟨N, hN⟩ : ∃ N, N = d.size := ⟨_, rfl⟩
  have HN := Lib.hid hN
  rw [← hN] at hn hb hsz
  subst hn
  have hs1 : Sep w0 w (L.set q (uT g n c d)) := by rw [set_same hq0]; exact hs
  obtain ⟨T, hT⟩ : ∃ T, T = partialInsertionSort ltInt d a b := ⟨_, rfl⟩
  have HT := Lib.hid (show partialIns ltInt a b 5 (a + 1) d = T from hT.symm)
  rw [← hT]
  clear hs hN hq0 hT
  go_enter Try.func64, Try.ntmps64
  go_wp2_with fail
  refine wp_loopM [none, none, none, none, none, none, some 6, some 7, some 8, some 9, some 10, none, none, some 13, some 14, some 15, some 16, some 17, some 18, some 19, some 20, some 21, some 22, some 23, some 24, some 25, some 26, some 27, some 28, some 29, some 30, some 31, some 32, some 33, some 34, some 35, some 36, some 37, some 38, some 39, some 40, some 41, some 42, some 43, some 44, some 45, some 46, some 47, some 48, some 49, some 50, some 51, some 52, some 53, some 54, some 55, some 56, some 57, some 58, some 59, some 60, some 61, some 62, some 63, some 64, some 65, some 66, some 67, some 68, some 69, some 70, some 71, some 72, some 73, some 74, some 75, some 76, some 77, some 78, some 79, some 80, some 81, some 82, some 83, some 84, some 85, some 86, some 87, some 88, some 89, some 90, some 91, some 92, some 93, some 94, some 95, some 96, some 97, some 98, some 99, some 100, some 101, some 102, some 103, some 104, some 105, some 106, some 107, some 108, some 109, some 110, some 111, some 112, some 113, some 114, some 115, some 116, some 117, some 118, some 119, some 120, some 121, some 122, some 123, some 124, some 125, some 126, some 127, some 128, some 129, some 130, some 131, some 132] (fun (r : Nat) (f : Nat → Value) (wr : World) => (fun (v vj : Value) => ∃ (i s : Nat) (z : Int) (e : Array Int), v = .int .i64 i ∧ vj = .int .i64 z ∧ z + s = 5 ∧ 0 ≤ z ∧ a + 1 ≤ i ∧ i ≤ b ∧ r = s ∧ Hid (e.size = n ∧ partialIns ltInt a b s i e = T) ∧ Sep w0 wr (L.set q (uT g n c e))) (f 7) (f 8)) (5) (by kernel_rfl) ?atStart1 ?round1
  case' atStart1 => (try dsimp only [nthV])
  case' round1 =>
    intro gk f wr l hl hrel J1 K1 hJ1 hK1
    (try simp only [mask] at hl)
    generalize f 7 = u7 at hl hrel
    generalize f 8 = u8 at hl hrel
    subst hl
    (try dsimp only at hrel)
  case atStart1 => exact ⟨a + 1, 5, 0, d, by go_num, rfl, rfl, by omega, Nat.le_refl _, by omega, rfl, Lib.hid ⟨HN.out.symm, HT.out⟩, hs1⟩
  case round1 =>
    clear hs1 HT
    obtain ⟨i0, s, z, e, rfl, rfl, hz, hz0, hai, hib, hr, HE, hs⟩ := hrel
    have HR := Lib.hid hr
    clear hr
    cases s with
    | zero =>
      obtain rfl : z = 5 := by omega
      have HT := Lib.hid (show T = (e, false) from HE.out.2.symm)
      have HS := Lib.hid hs
      clear hs HE
      go_wp2_with fail
      go_ret
      exact ⟨by rw [HT.out]; rfl, by rw [HT.out]; exact HS.out⟩
    | succ s =>
      have hz5 : z < 5 := by omega
      have HZ := Lib.hid (show z + 1 + s = 5 by omega)
      clear hz
      obtain ⟨I, hI⟩ : ∃ I, I = scanSorted ltInt e b i0 := ⟨_, rfl⟩
      have HE2 := Lib.hid (by have h := HE.out.2; rw [partialIns_succ, ← hI] at h; exact h)
      have HSZ := Lib.hid HE.out.1
      have HI := Lib.hid hI.symm
      clear HE hI
      go_wp2_with fail
      refine wp_loopM [none, none, none, none, none, none, none, some 7, none, none, none, none, none, none, none, none, none, some 17, some 18, some 19, some 20, some 21, some 22, some 23, some 24, some 25, some 26, some 27, some 28, some 29, some 30, some 31, some 32, some 33, some 34, none, none, none, none, none, none, none, none, none, none, none, none, none, none, none, none, none, none, none, none, none, none, none, none, none, none, none, none, none, none, none, none, none, none, none, none, none, none, none, none, none, none, none, none, none, none, none, none, none, none, none, none, none, none, none, none, none, none, none, none, none, none, none, none, none, none, none, none, none, none, none, none, none, none, none, none, none, none, none, none, none, none, none, none, none, none, none, none, none, none, none, none, none, none, none, none, none, none] (fun (r : Nat) (f : Nat → Value) (wr : World) => (fun (v : Value) => ∃ i : Nat, v = .int .i64 i ∧ a + 1 ≤ i ∧ i ≤ b ∧ r = b - i ∧ Hid (scanSorted ltInt e b i = I) ∧ Sep w0 wr (L.set q (uT g n c e))) (f 7)) ((b - i0)) (by kernel_rfl) ?atStart2 ?round2
      case' atStart2 => (try dsimp only [nthV])
      case' round2 =>
        intro gk f wr l hl hrel J2 K2 hJ2 hK2
        (try simp only [mask] at hl)
        generalize f 7 = u7 at hl hrel
        subst hl
        (try dsimp only at hrel)
      case atStart2 => exact ⟨i0, rfl, hai, hib, rfl, HI, hs⟩
      case round2 =>
        clear hs HI
        obtain ⟨i, rfl, hai2, hib2, rfl, HI, hs⟩ := hrel
        have hq : (L.set q (uT g n c e))[q]? = some (uT g n c e) := List.getElem?_set_self HQ.out
        obtain ⟨B, hB⟩ : ∃ B, B = (decide (i < b) && !(ltInt e[i]! e[i - 1]!)) := ⟨_, rfl⟩
        have HBB := Lib.hid hB
        clear hB
        obtain ⟨k, rfl⟩ : ∃ k, i = k + 1 := ⟨i - 1, by omega⟩
        go_upto_region 5 with fail
        refine wp_cutM [none, none, none, none, none, none, none, none, none, none, none, none, none, none, none, none, none, some 17, some 18, some 19, some 20, some 21, some 22, some 23, some 24, some 25, some 26, some 27, some 28, some 29, some 30, some 31, some 32, none, none, none, none, none, none, none, none, none, none, none, none, none, none, none, none, none, none, none, none, none, none, none, none, none, none, none, none, none, none, none, none, none, none, none, none, none, none, none, none, none, none, none, none, none, none, none, none, none, none, none, none, none, none, none, none, none, none, none, none, none, none, none, none, none, none, none, none, none, none, none, none, none, none, none, none, none, none, none, none, none, none, none, none, none, none, none, none, none, none, none, none, none, none, none, none, none, none, none, none] (fun (f : Nat → Value) (wq : World) => (fun (vb : Value) => vb = .bool B ∧ Sep w0 wq (L.set q (uT g n c e))) (f 32)) ?first3 ?rest3
        case' first3 => intro JC KC hJC hKC
        case' rest3 =>
          intro f wr l hl hrel
          (try simp only [mask] at hl)
          generalize f 32 = u32 at hl hrel
          subst hl
          (try dsimp only at hrel)
        case first3 =>
          by_cases hle : k + 1 < b
          · have hleI : (k : Int) + 1 < (b : Int) := by omega
            obtain ⟨x1, hx1⟩ : ∃ x, x = e[k + 1]! := ⟨_, rfl⟩
            obtain ⟨x2, hx2⟩ : ∃ x, x = e[k]! := ⟨_, rfl⟩
            have y1 := uT_cell hs hq (k := k + 1) (by have := HSZ.out; omega)
            have y2 := uT_cell hs hq (k := k) (by have := HSZ.out; omega)
            rw [← hx1] at y1
            rw [← hx2] at y2
            obtain ⟨l1, hl1⟩ : ∃ l, l = ltInt x1 x2 := ⟨_, rfl⟩
            have HL0 := Lib.hid hl1
            have HBL := Lib.hid (show B = !l1 by rw [HBB.out, hl1, hx1, hx2, decide_eq_true hle, Bool.true_and]; rfl)
            have HS := Lib.hid hs
            clear hx1 hx2 hl1 hs hq HBB
            refine Mix.region [0, 0, 0, 0, 0, 0, 0, 0, 0, 0, 0, 0, 0, 2, 0, 0] (fun _ => True) (by kernel_rfl) (by kernel_rfl) trivial ?_
            simp only [List.zip_cons_cons, List.zip_nil_right]
            iterate 4 (refine Mix.step0 fun K hK => ?_; go_simp; (try (go_bits; try go_simp)); first | ((with_reducible refine hK _ _ ?_); clear hK K) | ((try (simp only [IntWalk.iteOmega]; try go_simp)); (try go_bits); (with_reducible refine hK _ _ ?_); clear hK K))
            iterate 9 (first | (refine Mix.stepS rfl fun K hK => ?_; go_simp; (with_reducible refine hK _ _ ?_); clear hK K) | (refine Mix.step0 fun K hK => ?_; go_simp; (try (go_bits; try go_simp)); first | ((with_reducible refine hK _ _ ?_); clear hK K) | ((try (simp only [IntWalk.iteOmega]; try go_simp)); (try go_bits); (with_reducible refine hK _ _ ?_); clear hK K)))
            refine Mix.step2n (by first | rfl | simp [Region.wanted, yielded]) fun K hK => ?_
            go_wp2_with fail
            refine (less_u x1 x2 _).mono ?_
            rintro en w2 ⟨rfl, rfl⟩
            rw [← HL0.out]
            go_wp2_with fail
            refine Mix.post_mk (C := (fun _ => True)) trivial (hK _ _ ?_)
            clear hK K
            iterate 1 (first | (refine Mix.stepS rfl fun K hK => ?_; go_simp; (with_reducible refine hK _ _ ?_); clear hK K) | (refine Mix.step0 fun K hK => ?_; go_simp; (try (go_bits; try go_simp)); first | ((with_reducible refine hK _ _ ?_); clear hK K) | ((try (simp only [IntWalk.iteOmega]; try go_simp)); (try go_bits); (with_reducible refine hK _ _ ?_); clear hK K)))
            iterate 1 (refine Mix.step0 fun K hK => ?_; go_simp; (try (go_bits; try go_simp)); first | ((with_reducible refine hK _ _ ?_); clear hK K) | ((try (simp only [IntWalk.iteOmega]; try go_simp)); (try go_bits); (with_reducible refine hK _ _ ?_); clear hK K))
            refine Mix.done ?_
            go_wp2_with fail
            refine Meet.intro (by kernel_rfl) (hJC _ _ ?rel4)
            case' rel4 => (try dsimp only [nthV])
            exact ⟨by have h := HBL.out; subst h; rfl, HS.out.drew⟩
          · have hleI : decide ((k : Int) + 1 < (b : Int)) = false := decide_eq_false (by omega)
            have hleJ : (b : Int) ≤ (k : Int) + 1 := by omega
            have HBL := Lib.hid (show B = false by rw [HBB.out, decide_eq_false hle, Bool.false_and])
            have HS := Lib.hid hs
            clear hs hq HBB
            refine Mix.region [0, 0, 0, 0, 0, 0, 0, 0, 0, 0, 0, 0, 0, 2, 0, 0] (fun _ => True) (by kernel_rfl) (by kernel_rfl) trivial ?_
            simp only [List.zip_cons_cons, List.zip_nil_right]
            iterate 4 (refine Mix.step0 fun K hK => ?_; go_simp; (try (go_bits; try go_simp)); first | ((with_reducible refine hK _ _ ?_); clear hK K) | ((try (simp only [IntWalk.iteOmega]; try go_simp)); (try go_bits); (with_reducible refine hK _ _ ?_); clear hK K))
            iterate 9 (first | (refine Mix.stepS rfl fun K hK => ?_; go_simp; (with_reducible refine hK _ _ ?_); clear hK K) | (refine Mix.step0 fun K hK => ?_; go_simp; (try (go_bits; try go_simp)); first | ((with_reducible refine hK _ _ ?_); clear hK K) | ((try (simp only [IntWalk.iteOmega]; try go_simp)); (try go_bits); (with_reducible refine hK _ _ ?_); clear hK K)))
            refine Mix.step2s (by first | rfl | simp [Region.wanted, yielded]) ?_
            iterate 1 (first | (refine Mix.stepS rfl fun K hK => ?_; go_simp; (with_reducible refine hK _ _ ?_); clear hK K) | (refine Mix.step0 fun K hK => ?_; go_simp; (try (go_bits; try go_simp)); first | ((with_reducible refine hK _ _ ?_); clear hK K) | ((try (simp only [IntWalk.iteOmega]; try go_simp)); (try go_bits); (with_reducible refine hK _ _ ?_); clear hK K)))
            iterate 1 (refine Mix.step0 fun K hK => ?_; go_simp; (try (go_bits; try go_simp)); first | ((with_reducible refine hK _ _ ?_); clear hK K) | ((try (simp only [IntWalk.iteOmega]; try go_simp)); (try go_bits); (with_reducible refine hK _ _ ?_); clear hK K))
            refine Mix.done ?_
            go_wp2_with fail
            refine Meet.intro (by kernel_rfl) (hJC _ _ ?rel5)
            case' rel5 => (try dsimp only [nthV])
            exact ⟨by rw [HBL.out], HS.out.drew⟩
        case rest3 =>
          clear hs hq
          obtain ⟨rfl, hs⟩ := hrel
          cases B
          case true =>
            have hle : k + 1 < b := by have := HBB.out; by_cases h : k + 1 < b; exact h; rw [decide_eq_false h] at this; cases this
            have HI2 := Lib.hid (show scanSorted ltInt e b (k + 1 + 1) = I by
              have h2 := HBB.out
              rw [decide_eq_true hle, Bool.true_and] at h2
              rw [← scanSorted_yes hle (by revert h2; cases ltInt e[k + 1]! e[k + 1 - 1]! <;> simp)]
              exact HI.out)
            clear HBB HI
            go_wp2_with fail
            refine Round.intro ((b - (k + 1 + 1))) ?measure6 (by kernel_rfl) (hJ2 _ _ _ ?rel6)
            case' rel6 => (try dsimp only [nthV])
            case measure6 => omega
            case rel6 => exact ⟨k + 1 + 1, by go_num, by omega, by omega, rfl, HI2, hs⟩
          case false =>
            have hII : I = k + 1 := by
              rw [← HI.out]
              apply scanSorted_no
              by_cases hle : k + 1 < b
              · refine .inr ?_
                have h2 := HBB.out
                rw [decide_eq_true hle, Bool.true_and] at h2
                revert h2
                cases ltInt e[k + 1]! e[k + 1 - 1]! <;> simp
              · exact .inl hle
            clear HBB HI
            subst hII
            have hq : (L.set q (uT g n c e))[q]? = some (uT g n c e) := List.getElem?_set_self HQ.out
            by_cases hkb : k + 1 = b
            · have HT := Lib.hid (show T = (e, true) by have h := HE2.out; rw [if_pos hkb] at h; exact h.symm)
              have hkI : (k : Int) + 1 = (b : Int) := by omega
              have HS := Lib.hid hs
              clear hs hq HE2
              go_wp2_with fail
              go_ret
              exact ⟨by rw [HT.out]; rfl, by rw [HT.out]; exact HS.out⟩
            · have HE3 := Lib.hid (by have h := HE2.out; rw [if_neg hkb] at h; exact h)
              have hkI : ¬ (k : Int) + 1 = (b : Int) := by omega
              have hkB : k + 1 < b := by omega
              clear HE2
              by_cases h50 : b - a < 50
              · have HT := Lib.hid (show T = (e, false) by have h := HE3.out; rw [if_pos h50] at h; exact h.symm)
                have h5I : (b : Int) - (a : Int) < 50 := by omega
                have HS := Lib.hid hs
                clear hs hq HE3
                go_wp2_with fail
                go_ret
                exact ⟨by rw [HT.out]; rfl, by rw [HT.out]; exact HS.out⟩
              · have HE4 := Lib.hid (by have h := HE3.out; rw [if_neg h50] at h; exact h)
                have h5I : ¬ (b : Int) - (a : Int) < 50 := by omega
                clear HE3
                obtain ⟨D, hD⟩ : ∃ D, D = swp e (k + 1) k := ⟨_, rfl⟩
                have HDS := Lib.hid (show D.size = n by rw [hD, size_swp]; exact HSZ.out)
                have HE5 := Lib.hid (show partialIns ltInt a b s (k + 1) (pinUp b (k + 1) (pinDown a (k + 1) D)) = T by have h := HE4.out; rw [show k + 1 - 1 = k from rfl, ← hD] at h; exact h)
                have HD := Lib.hid hD
                clear HE4 hD
                go_wp2_with fail
                obtain ⟨xj, xk, u2, yj, yk, y2, hsw⟩ := uT_swap_facts hs hq (k + 1) (k) (by have := HSZ.out; omega) (by have := HSZ.out; omega)
                have qf := uT_frozen hs hq (by have := HSZ.out; omega)
                have HSW := Lib.hid hsw
                clear hsw hs hq
                go_wp2_with fail
                refine Mix.region [0, 0, 1, 1, 1, 0, 0, 0, 0, 0, 0, 0, 0, 0, 0, 2, 0, 2] (fun _ => True) (by kernel_rfl) (by kernel_rfl) trivial ?_
                simp only [List.zip_cons_cons, List.zip_nil_right]
                iterate 2 (refine Mix.step0 fun K hK => ?_; go_simp; (try (go_bits; try go_simp)); first | ((with_reducible refine hK _ _ ?_); clear hK K) | ((try (simp only [IntWalk.iteOmega]; try go_simp)); (try go_bits); (with_reducible refine hK _ _ ?_); clear hK K))
                iterate 3 (refine Mix.step1 fun K hK => ?_; go_simp; (try (go_bits; try go_simp)); first | ((with_reducible refine hK _ _ ?_); clear hK K) | ((try (simp only [IntWalk.iteOmega]; try go_simp)); (try go_bits); (with_reducible refine hK _ _ ?_); clear hK K))
                iterate 10 (refine Mix.step0 fun K hK => ?_; go_simp; (try (go_bits; try go_simp)); first | ((with_reducible refine hK _ _ ?_); clear hK K) | ((try (simp only [IntWalk.iteOmega]; try go_simp)); (try go_bits); (with_reducible refine hK _ _ ?_); clear hK K))
                refine Mix.step2n (by first | rfl | simp [Region.wanted, yielded]) fun K hK => ?_
                go_wp2_with fail
                refine Mix.post_mk (C := (fun _ => True)) trivial (hK _ _ ?_)
                clear hK K
                iterate 1 (refine Mix.step0 fun K hK => ?_; go_simp; (try (go_bits; try go_simp)); first | ((with_reducible refine hK _ _ ?_); clear hK K) | ((try (simp only [IntWalk.iteOmega]; try go_simp)); (try go_bits); (with_reducible refine hK _ _ ?_); clear hK K))
                refine Mix.step2n (by first | rfl | simp [Region.wanted, yielded]) fun K hK => ?_
                go_wp2_with fail
                refine Mix.post_mk (C := (fun _ => True)) trivial (hK _ _ ?_)
                clear hK K
                refine Mix.done ?_
                have hsn := HSW.out.drew
                rw [List.set_set] at hsn
                clear yj yk y2 qf HSW
                rw [← HD.out] at hsn
                obtain ⟨D2, hD2⟩ : ∃ D2, D2 = pinDown a (k + 1) D := ⟨_, rfl⟩
                have HD2S := Lib.hid (show D2.size = n by rw [hD2, pinDown_size]; exact HDS.out)
                have HD2 := Lib.hid (show D2 = if k + 1 - a ≥ 2 then shiftDown ltInt k D else D from hD2)
                rw [← hD2] at HE5
                clear hD2
                have hs := hsn
                clear hsn
                go_upto_if 61 with fail
                refine wp_cutM [none, none, none, none, none, none, none, none, none, some 9, none, none, none, none, none, none, none, none, none, none, none, none, none, none, none, none, none, none, none, none, none, none, none, none, none, none, none, none, none, none, none, none, none, none, none, none, none, none, none, none, none, none, none, none, none, none, none, none, some 58, some 59, some 60, some 61, some 62, some 63, some 64, some 65, some 66, some 67, some 68, some 69, some 70, some 71, some 72, some 73, some 74, some 75, some 76, some 77, some 78, some 79, some 80, some 81, some 82, some 83, some 84, some 85, some 86, some 87, some 88, some 89, some 90, some 91, some 92, some 93, some 94, none, none, none, none, none, none, none, none, none, none, none, none, none, none, none, none, none, none, none, none, none, none, none, none, none, none, none, none, none, none, none, none, none, none, none, none, none, none] (fun (f : Nat → Value) (wq : World) => Sep w0 wq (L.set q (uT g n c D2))) ?first7 ?rest7
                case' first7 => intro JC KC hJC hKC
                case' rest7 =>
                  intro f wr l hl hrel
                  (try simp only [mask] at hl)
                  subst hl
                  (try dsimp only at hrel)
                case first7 =>
                  by_cases h2 : 2 ≤ k + 1 - a
                  · have HF := Lib.hid (show shiftDown ltInt k D = D2 by rw [HD2.out, if_pos h2])
                    have h2I : (2 : Int) ≤ (k : Int) + 1 - (a : Int) := by omega
                    go_wp2_with fail
                    refine wp_loopM [none, none, none, none, none, none, none, none, none, some 9, none, none, none, none, none, none, none, none, none, none, none, none, none, none, none, none, none, none, none, none, none, none, none, none, none, none, none, none, none, none, none, none, none, none, none, none, none, none, none, none, none, none, none, none, none, none, none, none, none, none, none, none, none, none, some 64, some 65, some 66, some 67, some 68, some 69, some 70, some 71, some 72, some 73, some 74, some 75, some 76, some 77, some 78, some 79, some 80, some 81, some 82, some 83, some 84, some 85, some 86, some 87, some 88, some 89, some 90, some 91, some 92, some 93, some 94, none, none, none, none, none, none, none, none, none, none, none, none, none, none, none, none, none, none, none, none, none, none, none, none, none, none, none, none, none, none, none, none, none, none, none, none, none, none] (fun (r : Nat) (f : Nat → Value) (wr : World) => (fun (v : Value) => ∃ (j : Nat) (y : Array Int), v = .int .i64 j ∧ j ≤ k ∧ r = j ∧ Hid (y.size = n ∧ shiftDown ltInt j y = D2) ∧ Sep w0 wr (L.set q (uT g n c y))) (f 9)) (k) (by kernel_rfl) ?atStart8 ?round8
                    case' atStart8 => (try dsimp only [nthV])
                    case' round8 =>
                      intro gk f wr l hl hrel J3 K3 hJ3 hK3
                      (try simp only [mask] at hl)
                      generalize f 9 = u9 at hl hrel
                      subst hl
                      (try dsimp only at hrel)
                    case atStart8 => exact ⟨k, D, by first | rfl | go_num | (congr 1; omega), Nat.le_refl _, rfl, Lib.hid ⟨HDS.out, HF.out⟩, hs⟩
                    case round8 =>
                      clear hs HF HDS
                      obtain ⟨j, y, rfl, hjk, hr2, HF, hs⟩ := hrel
                      have HR2 := Lib.hid hr2
                      clear hr2
                      have hq : (L.set q (uT g n c y))[q]? = some (uT g n c y) := List.getElem?_set_self HQ.out
                      cases j with
                      | zero =>
                        have HYD := Lib.hid (show y = D2 from HF.out.2)
                        have HS := Lib.hid hs
                        clear hs hq
                        go_wp2_with fail
                        refine Meet.intro (by kernel_rfl) (hJC _ _ ?rel9)
                        case' rel9 => (try dsimp only [nthV])
                        rw [← HYD.out]; exact HS.out
                      | succ j =>
                        have HYS := Lib.hid HF.out.1
                        have HF2 := Lib.hid (show (if (!ltInt y[j + 1]! y[j]!) = true then y else shiftDown ltInt j (swp y (j + 1) j)) = D2 from HF.out.2)
                        obtain ⟨x1, hx1⟩ : ∃ x, x = y[j + 1]! := ⟨_, rfl⟩
                        obtain ⟨x2, hx2⟩ : ∃ x, x = y[j]! := ⟨_, rfl⟩
                        have y1 := uT_cell hs hq (k := j + 1) (by have := HYS.out; omega)
                        have y2 := uT_cell hs hq (k := j) (by have := HYS.out; omega)
                        rw [← hx1] at y1
                        rw [← hx2] at y2
                        rw [← hx1, ← hx2] at HF2
                        obtain ⟨l1, hl1⟩ : ∃ l, l = ltInt x1 x2 := ⟨_, rfl⟩
                        rw [← hl1] at HF2
                        have HL0 := Lib.hid hl1
                        have HS := Lib.hid hs
                        clear hx1 hx2 hl1 hs hq HF
                        go_wp2_with fail
                        refine Mix.region [0, 0, 0, 0, 0, 0, 0, 0, 0, 2, 0] (fun _ => True) (by kernel_rfl) (by kernel_rfl) trivial ?_
                        simp only [List.zip_cons_cons, List.zip_nil_right]
                        iterate 9 (refine Mix.step0 fun K hK => ?_; go_simp; (try (go_bits; try go_simp)); first | ((with_reducible refine hK _ _ ?_); clear hK K) | ((try (simp only [IntWalk.iteOmega]; try go_simp)); (try go_bits); (with_reducible refine hK _ _ ?_); clear hK K))
                        refine Mix.step2n (by first | rfl | simp [Region.wanted, yielded]) fun K hK => ?_
                        go_wp2_with fail
                        refine (less_u x1 x2 _).mono ?_
                        rintro en w2 ⟨rfl, rfl⟩
                        rw [← HL0.out]
                        go_wp2_with fail
                        refine Mix.post_mk (C := (fun _ => True)) trivial (hK _ _ ?_)
                        clear hK K
                        iterate 1 (refine Mix.step0 fun K hK => ?_; go_simp; (try (go_bits; try go_simp)); first | ((with_reducible refine hK _ _ ?_); clear hK K) | ((try (simp only [IntWalk.iteOmega]; try go_simp)); (try go_bits); (with_reducible refine hK _ _ ?_); clear hK K))
                        refine Mix.done ?_
                        clear y1 y2
                        have hs := HS.out.drew
                        generalize World.drew _ = W5 at hs ⊢
                        clear HS
                        have hq : (L.set q (uT g n c y))[q]? = some (uT g n c y) := List.getElem?_set_self HQ.out
                        cases l1
                        · have HYD := Lib.hid (show y = D2 from HF2.out)
                          have HS := Lib.hid hs
                          clear hs hq
                          go_wp2_with fail
                          refine Meet.intro (by kernel_rfl) (hJC _ _ ?rel10)
                          case' rel10 => (try dsimp only [nthV])
                          rw [← HYD.out]; exact HS.out
                        · have HF3 := Lib.hid (show shiftDown ltInt j (swp y (j + 1) j) = D2 from HF2.out)
                          have HYZ := Lib.hid (show (swp y (j + 1) j).size = n by rw [size_swp]; exact HYS.out)
                          go_wp2_with fail
                          obtain ⟨xj, xk, u2, yj, yk, y2, hsw⟩ := uT_swap_facts hs hq (j + 1) (j) (by have := HYS.out; omega) (by have := HYS.out; omega)
                          have qf := uT_frozen hs hq (by have := HYS.out; omega)
                          have HSW := Lib.hid hsw
                          clear hsw hs hq
                          go_wp2_with fail
                          refine Mix.region [0, 0, 1, 1, 1, 0, 0, 0, 0, 0, 0, 0, 0, 0, 0, 2, 0, 2] (fun _ => True) (by kernel_rfl) (by kernel_rfl) trivial ?_
                          simp only [List.zip_cons_cons, List.zip_nil_right]
                          iterate 2 (refine Mix.step0 fun K hK => ?_; go_simp; (try (go_bits; try go_simp)); first | ((with_reducible refine hK _ _ ?_); clear hK K) | ((try (simp only [IntWalk.iteOmega]; try go_simp)); (try go_bits); (with_reducible refine hK _ _ ?_); clear hK K))
                          iterate 3 (refine Mix.step1 fun K hK => ?_; go_simp; (try (go_bits; try go_simp)); first | ((with_reducible refine hK _ _ ?_); clear hK K) | ((try (simp only [IntWalk.iteOmega]; try go_simp)); (try go_bits); (with_reducible refine hK _ _ ?_); clear hK K))
                          iterate 10 (refine Mix.step0 fun K hK => ?_; go_simp; (try (go_bits; try go_simp)); first | ((with_reducible refine hK _ _ ?_); clear hK K) | ((try (simp only [IntWalk.iteOmega]; try go_simp)); (try go_bits); (with_reducible refine hK _ _ ?_); clear hK K))
                          refine Mix.step2n (by first | rfl | simp [Region.wanted, yielded]) fun K hK => ?_
                          go_wp2_with fail
                          refine Mix.post_mk (C := (fun _ => True)) trivial (hK _ _ ?_)
                          clear hK K
                          iterate 1 (refine Mix.step0 fun K hK => ?_; go_simp; (try (go_bits; try go_simp)); first | ((with_reducible refine hK _ _ ?_); clear hK K) | ((try (simp only [IntWalk.iteOmega]; try go_simp)); (try go_bits); (with_reducible refine hK _ _ ?_); clear hK K))
                          refine Mix.step2n (by first | rfl | simp [Region.wanted, yielded]) fun K hK => ?_
                          go_wp2_with fail
                          refine Mix.post_mk (C := (fun _ => True)) trivial (hK _ _ ?_)
                          clear hK K
                          refine Mix.done ?_
                          have hsn := HSW.out.drew
                          rw [List.set_set] at hsn
                          clear yj yk y2 qf HSW
                          go_wp2_with fail
                          refine Round.intro (j) ?measure11 (by kernel_rfl) (hJ3 _ _ _ ?rel11)
                          case' rel11 => (try dsimp only [nthV])
                          case measure11 => have := HR2.out; omega
                          case rel11 => exact ⟨j, _, by first | go_num | (congr 1; omega), by omega, rfl, Lib.hid ⟨HYZ.out, HF3.out⟩, hsn⟩
                  · have HF := Lib.hid (show D = D2 by rw [HD2.out, if_neg h2])
                    have h2I : ¬ (2 : Int) ≤ (k : Int) + 1 - (a : Int) := by omega
                    have HS := Lib.hid hs
                    clear hs
                    go_wp2_with fail
                    refine Meet.intro (by kernel_rfl) (hJC _ _ ?rel12)
                    case' rel12 => (try dsimp only [nthV])
                    rw [← HF.out]; exact HS.out
                case rest7 =>
                  clear hs
                  have hs := hrel
                  clear hrel HD2 HDS HD
                  obtain ⟨D3, hD3⟩ : ∃ D3, D3 = pinUp b (k + 1) D2 := ⟨_, rfl⟩
                  have HD3S := Lib.hid (show D3.size = n by rw [hD3, pinUp_size]; exact HD2S.out)
                  have HD3 := Lib.hid (show D3 = if b - (k + 1) ≥ 2 then shiftUp ltInt b (k + 1 + 1) D2 else D2 from hD3)
                  rw [← hD3] at HE5
                  clear hD3
                  by_cases h2 : 2 ≤ b - (k + 1)
                  · have HF := Lib.hid (show shiftUp ltInt b (k + 1 + 1) D2 = D3 by rw [HD3.out, if_pos h2])
                    have h2I : (2 : Int) ≤ (b : Int) - ((k : Int) + 1) := by omega
                    go_wp2_with fail
                    refine wp_loopM [none, none, none, none, none, none, none, none, none, none, some 10, none, none, none, none, none, none, none, none, none, none, none, none, none, none, none, none, none, none, none, none, none, none, none, none, none, none, none, none, none, none, none, none, none, none, none, none, none, none, none, none, none, none, none, none, none, none, none, none, none, none, none, none, none, none, none, none, none, none, none, none, none, none, none, none, none, none, none, none, none, none, none, none, none, none, none, none, none, none, none, none, none, none, none, none, none, none, none, none, none, none, some 101, some 102, some 103, some 104, some 105, some 106, some 107, some 108, some 109, some 110, some 111, some 112, some 113, some 114, some 115, some 116, some 117, some 118, some 119, some 120, some 121, some 122, some 123, some 124, some 125, some 126, some 127, some 128, some 129, some 130, some 131, some 132] (fun (r : Nat) (f : Nat → Value) (wr : World) => (fun (v : Value) => ∃ (j : Nat) (y : Array Int), v = .int .i64 j ∧ k + 2 ≤ j ∧ j ≤ b ∧ r = b - j ∧ Hid (y.size = n ∧ shiftUp ltInt b j y = D3) ∧ Sep w0 wr (L.set q (uT g n c y))) (f 10)) ((b - (k + 2))) (by kernel_rfl) ?atStart13 ?round13
                    case' atStart13 => (try dsimp only [nthV])
                    case' round13 =>
                      intro gk f wr l hl hrel J4 K4 hJ4 hK4
                      (try simp only [mask] at hl)
                      generalize f 10 = u10 at hl hrel
                      subst hl
                      (try dsimp only at hrel)
                    case atStart13 => exact ⟨k + 2, D2, by first | rfl | go_num | (congr 1; omega), Nat.le_refl _, by omega, rfl, Lib.hid ⟨HD2S.out, HF.out⟩, hs⟩
                    case round13 =>
                      clear hs HF HD2S
                      obtain ⟨j, y, rfl, hjk, hjb, hr2, HF, hs⟩ := hrel
                      have HR2 := Lib.hid hr2
                      clear hr2
                      have hq : (L.set q (uT g n c y))[q]? = some (uT g n c y) := List.getElem?_set_self HQ.out
                      by_cases hjl : j < b
                      · have HYS := Lib.hid HF.out.1
                        obtain ⟨j, rfl⟩ : ∃ m, j = m + 1 := ⟨j - 1, by omega⟩
                        have hjI : (j : Int) + 1 < (b : Int) := by omega
                        have HF2 := Lib.hid (show (if (!ltInt y[j + 1]! y[j]!) = true then y else shiftUp ltInt b (j + 1 + 1) (swp y (j + 1) j)) = D3 by
                          have h := HF.out.2
                          rw [shiftUp, if_pos hjl] at h
                          exact h)
                        obtain ⟨x1, hx1⟩ : ∃ x, x = y[j + 1]! := ⟨_, rfl⟩
                        obtain ⟨x2, hx2⟩ : ∃ x, x = y[j]! := ⟨_, rfl⟩
                        have y1 := uT_cell hs hq (k := j + 1) (by have := HYS.out; omega)
                        have y2 := uT_cell hs hq (k := j) (by have := HYS.out; omega)
                        rw [← hx1] at y1
                        rw [← hx2] at y2
                        rw [← hx1, ← hx2] at HF2
                        obtain ⟨l1, hl1⟩ : ∃ l, l = ltInt x1 x2 := ⟨_, rfl⟩
                        rw [← hl1] at HF2
                        have HL0 := Lib.hid hl1
                        have HS := Lib.hid hs
                        clear hx1 hx2 hl1 hs hq HF
                        go_wp2_with fail
                        refine Mix.region [0, 0, 0, 0, 0, 0, 0, 0, 0, 2, 0] (fun _ => True) (by kernel_rfl) (by kernel_rfl) trivial ?_
                        simp only [List.zip_cons_cons, List.zip_nil_right]
                        iterate 9 (refine Mix.step0 fun K hK => ?_; go_simp; (try (go_bits; try go_simp)); first | ((with_reducible refine hK _ _ ?_); clear hK K) | ((try (simp only [IntWalk.iteOmega]; try go_simp)); (try go_bits); (with_reducible refine hK _ _ ?_); clear hK K))
                        refine Mix.step2n (by first | rfl | simp [Region.wanted, yielded]) fun K hK => ?_
                        go_wp2_with fail
                        refine (less_u x1 x2 _).mono ?_
                        rintro en w2 ⟨rfl, rfl⟩
                        rw [← HL0.out]
                        go_wp2_with fail
                        refine Mix.post_mk (C := (fun _ => True)) trivial (hK _ _ ?_)
                        clear hK K
                        iterate 1 (refine Mix.step0 fun K hK => ?_; go_simp; (try (go_bits; try go_simp)); first | ((with_reducible refine hK _ _ ?_); clear hK K) | ((try (simp only [IntWalk.iteOmega]; try go_simp)); (try go_bits); (with_reducible refine hK _ _ ?_); clear hK K))
                        refine Mix.done ?_
                        clear y1 y2
                        have hs := HS.out.drew
                        generalize World.drew _ = W5 at hs ⊢
                        clear HS
                        have hq : (L.set q (uT g n c y))[q]? = some (uT g n c y) := List.getElem?_set_self HQ.out
                        cases l1
                        · have HYD := Lib.hid (show y = D3 from HF2.out)
                          have HS := Lib.hid hs
                          clear hs hq
                          go_wp2_with fail
                          refine Round.intro (s) ?measure14 (by kernel_rfl) (hJ1 _ _ _ ?rel14)
                          case' rel14 => (try dsimp only [nthV])
                          case measure14 => have := HR.out; omega
                          case rel14 => exact ⟨k + 1, s, z + 1, D3, by first | rfl | go_num, by go_num, HZ.out, by omega, by omega, by omega, rfl, Lib.hid ⟨HD3S.out, HE5.out⟩, by rw [← HYD.out]; exact HS.out⟩
                        · have HF3 := Lib.hid (show shiftUp ltInt b (j + 1 + 1) (swp y (j + 1) j) = D3 from HF2.out)
                          have HYZ := Lib.hid (show (swp y (j + 1) j).size = n by rw [size_swp]; exact HYS.out)
                          go_wp2_with fail
                          obtain ⟨xj, xk, u2, yj, yk, y2, hsw⟩ := uT_swap_facts hs hq (j + 1) (j) (by have := HYS.out; omega) (by have := HYS.out; omega)
                          have qf := uT_frozen hs hq (by have := HYS.out; omega)
                          have HSW := Lib.hid hsw
                          clear hsw hs hq
                          go_wp2_with fail
                          refine Mix.region [0, 0, 1, 1, 1, 0, 0, 0, 0, 0, 0, 0, 0, 0, 0, 2, 0, 2] (fun _ => True) (by kernel_rfl) (by kernel_rfl) trivial ?_
                          simp only [List.zip_cons_cons, List.zip_nil_right]
                          iterate 2 (refine Mix.step0 fun K hK => ?_; go_simp; (try (go_bits; try go_simp)); first | ((with_reducible refine hK _ _ ?_); clear hK K) | ((try (simp only [IntWalk.iteOmega]; try go_simp)); (try go_bits); (with_reducible refine hK _ _ ?_); clear hK K))
                          iterate 3 (refine Mix.step1 fun K hK => ?_; go_simp; (try (go_bits; try go_simp)); first | ((with_reducible refine hK _ _ ?_); clear hK K) | ((try (simp only [IntWalk.iteOmega]; try go_simp)); (try go_bits); (with_reducible refine hK _ _ ?_); clear hK K))
                          iterate 10 (refine Mix.step0 fun K hK => ?_; go_simp; (try (go_bits; try go_simp)); first | ((with_reducible refine hK _ _ ?_); clear hK K) | ((try (simp only [IntWalk.iteOmega]; try go_simp)); (try go_bits); (with_reducible refine hK _ _ ?_); clear hK K))
                          refine Mix.step2n (by first | rfl | simp [Region.wanted, yielded]) fun K hK => ?_
                          go_wp2_with fail
                          refine Mix.post_mk (C := (fun _ => True)) trivial (hK _ _ ?_)
                          clear hK K
                          iterate 1 (refine Mix.step0 fun K hK => ?_; go_simp; (try (go_bits; try go_simp)); first | ((with_reducible refine hK _ _ ?_); clear hK K) | ((try (simp only [IntWalk.iteOmega]; try go_simp)); (try go_bits); (with_reducible refine hK _ _ ?_); clear hK K))
                          refine Mix.step2n (by first | rfl | simp [Region.wanted, yielded]) fun K hK => ?_
                          go_wp2_with fail
                          refine Mix.post_mk (C := (fun _ => True)) trivial (hK _ _ ?_)
                          clear hK K
                          refine Mix.done ?_
                          have hsn := HSW.out.drew
                          rw [List.set_set] at hsn
                          clear yj yk y2 qf HSW
                          go_wp2_with fail
                          refine Round.intro ((b - (j + 1 + 1))) ?measure15 (by kernel_rfl) (hJ4 _ _ _ ?rel15)
                          case' rel15 => (try dsimp only [nthV])
                          case measure15 => have := HR2.out; omega
                          case rel15 => exact ⟨j + 1 + 1, _, by first | go_num | (congr 1; omega), by omega, by omega, rfl, Lib.hid ⟨HYZ.out, HF3.out⟩, hsn⟩
                      · have hjI : ¬ (j : Int) < (b : Int) := by omega
                        have HYD := Lib.hid (show y = D3 by
                          have h := HF.out.2
                          rw [shiftUp, if_neg hjl] at h
                          exact h)
                        have HS := Lib.hid hs
                        clear hs hq
                        go_wp2_with fail
                        refine Round.intro (s) ?measure16 (by kernel_rfl) (hJ1 _ _ _ ?rel16)
                        case' rel16 => (try dsimp only [nthV])
                        case measure16 => have := HR.out; omega
                        case rel16 => exact ⟨k + 1, s, z + 1, D3, by first | rfl | go_num, by go_num, HZ.out, by omega, by omega, by omega, rfl, Lib.hid ⟨HD3S.out, HE5.out⟩, by rw [← HYD.out]; exact HS.out⟩
                  · have HF := Lib.hid (show D2 = D3 by rw [HD3.out, if_neg h2])
                    have h2I : ¬ (2 : Int) ≤ (b : Int) - ((k : Int) + 1) := by omega
                    have HS := Lib.hid hs
                    clear hs
                    go_wp2_with fail
                    refine Round.intro (s) ?measure17 (by kernel_rfl) (hJ1 _ _ _ ?rel17)
                    case' rel17 => (try dsimp only [nthV])
                    case measure17 => have := HR.out; omega
                    case rel17 => exact ⟨k + 1, s, z + 1, D3, by first | rfl | go_num, by go_num, HZ.out, by omega, by omega, by omega, rfl, Lib.hid ⟨HD3S.out, HE5.out⟩, by rw [← HF.out]; exact HS.out⟩
end
end Go.Proofs.Ythcmkljdhhepgaa
