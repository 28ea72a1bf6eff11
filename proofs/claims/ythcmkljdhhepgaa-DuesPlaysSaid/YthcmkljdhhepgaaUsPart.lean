/-
  partitionOrdered at uint64, walked.
-/
import Derived.Test.YthcmkljdhhepgaaUsHeap2
set_option linter.unusedVariables false
set_option linter.unusedSimpArgs false
namespace Go.Proofs.Ythcmkljdhhepgaa
open Go Go.RowKit Go.Mem Go.Sort
attribute [local go_sem] Oper.semAt_some
theorem uT_swap_facts {w0 w : World} {L : List Thing} {q g n c : Nat} {e : Array Int} (hs : Sep w0 w L) (hq : L[q]? = some (uT g n c e)) (j k : Nat) (hj : j < e.size) (hk : k < e.size) :
    ∃ xj xk u, w.cell? ⟨g, j, none⟩ = some (.int .u64 xj) ∧ w.cell? ⟨g, k, none⟩ = some (.int .u64 xk) ∧ (w.setCell ⟨g, j, none⟩ (.int .u64 xk)).cell? ⟨g, k, none⟩ = some u ∧ Sep w0 ((w.setCell ⟨g, j, none⟩ (.int .u64 xk)).setCell ⟨g, k, none⟩ (.int .u64 xj)) (L.set q (uT g n c (swp e j k))) := by
  obtain ⟨u, hu⟩ := uT_put hs hq j k hk e[k]!
  exact ⟨e[j]!, e[k]!, u, uT_cell hs hq hj, uT_cell hs hq hk, hu, Sep.uSwp hs hq j k⟩
theorem put_bang (d : Array Int) (i : Nat) (v : Int) (hi : i < d.size) (k : Nat) : (d.setIfInBounds i v)[k]! = if k = i then v else d[k]! := by
  by_cases h : k = i
  · subst h
    rw [if_pos rfl, getElem!_pos _ k (by rw [Array.size_setIfInBounds]; exact hi), Array.getElem_setIfInBounds_self]
  · rw [if_neg h, getElem!_def, getElem!_def, Array.getElem?_setIfInBounds_ne (fun e => h e.symm)]
theorem swp_at (d : Array Int) (i j : Nat) (hi : i < d.size) (hj : j < d.size) (k : Nat) : (swp d i j)[k]! = if k = j then d[i]! else if k = i then d[j]! else d[k]! := by
  unfold swp
  rw [put_bang _ j _ (by rw [Array.size_setIfInBounds]; exact hj), put_bang _ i _ hi]
/-- What partition keeps: i, j are the places; p the pivot's value. -/
structure PJ (d : Array Int) (a m : Nat) (p : Int) (e : Array Int) (i j : Nat) : Prop where
  size : e.size = d.size
  perm : PermIn a (m + 1) d e
  at_a : e[a]! = p
  hai : a + 1 ≤ i
  hjm : j ≤ m
  hij : i ≤ j + 1
  low : ∀ k, a + 1 ≤ k → k < i → e[k]! < p
  high : ∀ k, j < k → k ≤ m → p ≤ e[k]!
/-- What partition answers. -/
def PartD (d : Array Int) (a b mid : Nat) (e : Array Int) : Prop :=
  a ≤ mid ∧ mid < b ∧ PermIn a b d e ∧ (∀ k, a ≤ k → k < mid → e[k]! < e[mid]!) ∧ (∀ k, mid < k → k < b → e[mid]! ≤ e[k]!)
theorem PJ.up {d : Array Int} {a m : Nat} {p : Int} {e : Array Int} {i j : Nat} (h : PJ d a m p e i j) (hij : i ≤ j) (hl : e[i]! < p) : PJ d a m p e (i + 1) j :=
  { h with
    hai := by have := h.hai; omega
    hij := by omega
    low := fun k h1 h2 => by
      by_cases hk : k = i
      · rw [hk]; exact hl
      · exact h.low k h1 (by omega) }
theorem PJ.down {d : Array Int} {a m : Nat} {p : Int} {e : Array Int} {i j : Nat} (h : PJ d a m p e i j) (hij : i ≤ j) (hl : p ≤ e[j]!) : PJ d a m p e i (j - 1) :=
  { h with
    hjm := by have := h.hjm; omega
    hij := by omega
    high := fun k h1 h2 => by
      by_cases hk : k = j
      · rw [hk]; exact hl
      · exact h.high k (by omega) h2 }
theorem PJ.ne {d : Array Int} {a m : Nat} {p : Int} {e : Array Int} {i j : Nat} (h : PJ d a m p e i j) (hij : i ≤ j) (h1 : p ≤ e[i]!) (h2 : e[j]! < p) : i < j := by
  rcases Nat.lt_or_ge i j with h3 | h3
  · exact h3
  · obtain rfl : i = j := by omega
    omega
theorem PJ.swap {d : Array Int} {a m : Nat} {p : Int} {e : Array Int} {i j : Nat} (h : PJ d a m p e i j) (hm : m < d.size) (hij : i < j) (h1 : p ≤ e[i]!) (h2 : e[j]! < p) : PJ d a m p (swp e i j) (i + 1) (j - 1) := by
  have hai := h.hai
  have hjm := h.hjm
  have hz := h.size
  have A := swp_at e i j (by omega) (by omega)
  refine ⟨by rw [size_swp]; exact hz, permIn_trans d e _ a (m + 1) h.perm (swp_permIn e a (m + 1) i j (by omega) (by omega) (by omega) (by omega) (by omega)), ?_, by omega, by omega, by omega, ?_, ?_⟩
  · rw [A, if_neg (by omega), if_neg (by omega)]; exact h.at_a
  · intro k k1 k2
    rw [A, if_neg (by omega)]
    by_cases hk : k = i
    · rw [if_pos hk]; exact h2
    · rw [if_neg hk]; exact h.low k k1 (by omega)
  · intro k k1 k2
    rw [A]
    by_cases hk : k = j
    · rw [if_pos hk]; exact h1
    · rw [if_neg hk, if_neg (by omega)]; exact h.high k (by omega) k2
theorem PJ.fin {d : Array Int} {a m : Nat} {p : Int} {e : Array Int} {i j : Nat} (h : PJ d a m p e i j) (hm : m < d.size) (hij : j < i) : PartD d a (m + 1) j (swp e j a) := by
  have hai := h.hai
  have hjm := h.hjm
  have hz := h.size
  have hij2 := h.hij
  have A := swp_at e j a (by omega) (by omega)
  have hp : (swp e j a)[j]! = p := by
    rw [A]
    by_cases hk : j = a
    · rw [if_pos hk, hk]; exact h.at_a
    · rw [if_neg hk, if_pos rfl]; exact h.at_a
  refine ⟨by omega, by omega, permIn_trans d e _ a (m + 1) h.perm (swp_permIn e a (m + 1) j a (by omega) (by omega) (by omega) (by omega) (by omega)), ?_, ?_⟩
  · intro k k1 k2
    rw [hp, A]
    by_cases hk : k = a
    · rw [if_pos hk]; exact h.low j (by omega) (by omega)
    · rw [if_neg hk, if_neg (by omega)]; exact h.low k (by omega) (by omega)
  · intro k k1 k2
    rw [hp, A, if_neg (by omega), if_neg (by omega)]
    exact h.high k k1 (by omega)
theorem PJ.start (d : Array Int) (a m pv : Nat) (hap : a ≤ pv) (hpb : pv < m + 1) (hb : m + 1 ≤ d.size) : PJ d a m (d[pv]!) (swp d a pv) (a + 1) m := by
  have A := swp_at d a pv (by omega) (by omega)
  refine ⟨size_swp _ _ _, swp_permIn d a (m + 1) a pv (by omega) (by omega) (by omega) (by omega) (by omega), ?_, by omega, by omega, by omega, ?_, ?_⟩
  · rw [A]
    by_cases hk : a = pv
    · rw [if_pos hk, hk]
    · rw [if_neg hk, if_pos rfl]
  · intro k h1 h2; omega
  · intro k h1 h2; omega
section
variable {w0 w : World} {L : List Thing} {q g n c : Nat} {d : Array Int}
set_option maxRecDepth 100000 in
set_option maxHeartbeats 8000000 in
theorem part_u (hs : Sep w0 w L) (hq0 : L[q]? = some (uT g n c d)) (a b pv : Nat) (hap : a ≤ pv) (hpb : pv < b) (hb : b ≤ d.size) (hsz : d.size ≤ 1000000) :
    Calls Try.prog 67 #[.slice (some ⟨g, 0, none⟩) n c, .int .i64 a, .int .i64 b, .int .i64 pv] w fun en w' => ∃ (mid : Nat) (z : Bool) (e : Array Int), en = .returned (.tuple #[.int .i64 mid, .bool z]) ∧ Hid (PartD d a b mid e) ∧ Sep w0 w' (L.set q (uT g n c e)) := by
  obtain ⟨m, rfl⟩ : ∃ m, b = m + 1 := ⟨b - 1, by omega⟩
  have hn := (uT_len hs hq0).1
  have HQ := Lib.hid (List.getElem?_eq_some_iff.1 hq0).1
  have HP0 := Lib.hid (PJ.start d a m pv hap hpb hb)
  have HM := Lib.hid (show m < d.size by omega)
  obtain ⟨N, hN⟩ : ∃ N, N = d.size := ⟨_, rfl⟩
  have HN := Lib.hid hN
  rw [← hN] at hn hb hsz
  subst hn
  have hs1 : Sep w0 w (L.set q (uT g n c d)) := by rw [set_same hq0]; exact hs
  clear hs hN hq0
  have hs := hs1
  have hq : (L.set q (uT g n c d))[q]? = some (uT g n c d) := List.getElem?_set_self HQ.out
  clear hs1
  go_enter Try.func67, Try.ntmps67
  go_wp2_with fail
  obtain ⟨xj, xk, u2, yj, yk, y2, hsw⟩ := uT_swap_facts hs hq (a) (pv) (by have := HN.out; omega) (by have := HN.out; omega)
  have qf := uT_frozen hs hq (by have := HN.out; omega)
  have HSW := Lib.hid hsw
  clear hsw hs hq
  go_wp2_with fail
  refine Mix.region [0, 0, 1, 1, 0, 0, 0, 0, 0, 0, 0, 0, 0, 2, 0, 2] (fun _ => True) (by kernel_rfl) (by kernel_rfl) trivial ?_
  simp only [List.zip_cons_cons, List.zip_nil_right]
  iterate 2 (refine Mix.step0 fun K hK => ?_; go_simp; (try (go_bits; try go_simp)); first | ((with_reducible refine hK _ _ ?_); clear hK K) | ((try (simp only [IntWalk.iteOmega]; try go_simp)); (try go_bits); (with_reducible refine hK _ _ ?_); clear hK K))
  iterate 2 (refine Mix.step1 fun K hK => ?_; go_simp; (try (go_bits; try go_simp)); first | ((with_reducible refine hK _ _ ?_); clear hK K) | ((try (simp only [IntWalk.iteOmega]; try go_simp)); (try go_bits); (with_reducible refine hK _ _ ?_); clear hK K))
  iterate 9 (refine Mix.step0 fun K hK => ?_; go_simp; (try (go_bits; try go_simp)); first | ((with_reducible refine hK _ _ ?_); clear hK K) | ((try (simp only [IntWalk.iteOmega]; try go_simp)); (try go_bits); (with_reducible refine hK _ _ ?_); clear hK K))
  refine Mix.step2n (by first | rfl | simp [Region.wanted, yielded]) fun K hK => ?_
  go_wp2_with fail
  refine Mix.post_mk (C := (fun _ => True)) trivial (hK _ _ ?_)
  clear hK K
  iterate 1 (refine Mix.step0 fun K hK => ?_; go_simp; (try (go_bits; try go_simp)); first | ((with_reducible refine hK _ _ ?_); clear hK K) | ((try (simp only [IntWalk.iteOmega]; try go_simp)); (try go_bits); (with_reducible refine hK _ _ ?_); clear hK K))
  refine Mix.step2n (by first | rfl | simp [Region.wanted, yielded]) fun K hK => ?_
  go_wp2_with fail
  refine Mix.post_mk (C := (fun _ => True)) trivial (hK _ _ ?_)
  clear hK K
  refine Mix.done ?_
  have hsn := HSW.out.drew
  rw [List.set_set] at hsn
  clear yj yk y2 qf HSW
  have hs := hsn
  obtain ⟨e, he⟩ : ∃ e, e = swp d a pv := ⟨_, rfl⟩
  obtain ⟨p, hp⟩ : ∃ p, p = d[pv]! := ⟨_, rfl⟩
  have HP := Lib.hid (show PJ d a m p e (a + 1) m by have := HP0.out; rw [← hp, ← he] at this; exact this)
  rw [← he] at hs
  clear he hsn hp HP0
  go_wp2_with fail
  refine wp_loopM [none, none, none, none, none, none, none, none, none, none, some 10, none, none, none, none, none, none, none, none, none, none, none, none, none, none, none, none, none, none, none, some 30, some 31, some 32, some 33, some 34, some 35, some 36, some 37, some 38, some 39, some 40, some 41, some 42, some 43, some 44, some 45, none, none, none, none, none, none, none, none, none, none, none, none, none, none, none, none, none, none, none, none, none, none, none, none, none, none, none, none, none, none, none, none, none, none, none, none, none, none, none, none, none, none, none, none, none, none, none, none, none, none, none, none, none, none, none, none, none, none, none, none, none, none, none, none, none, none, none, none, none, none, none, none, none, none, none, none, none, none, none, none, none, none, none, none, none, none, none, none, none, none, none, none, none, none, none, none, none, none, none, none, none, none, none, none, none, none, none, none, none, none, none, none, none, none, none, none, none, none, none, none, none, none] (fun (r : Nat) (f : Nat → Value) (wr : World) => (fun (v : Value) => ∃ i : Nat, v = .int .i64 i ∧ a + 1 ≤ i ∧ i ≤ m + 1 ∧ r = m + 1 - i ∧ Hid (PJ d a m p e i m) ∧ Sep w0 wr (L.set q (uT g n c e))) (f 10)) ((m + 1 - (a + 1))) (by kernel_rfl) ?atStart1 ?round1
  case' atStart1 => (try dsimp only [nthV])
  case' round1 =>
    intro gk f wr l hl hrel J1 K1 hJ1 hK1
    (try simp only [mask] at hl)
    generalize f 10 = u10 at hl hrel
    subst hl
    (try dsimp only at hrel)
  case atStart1 => exact ⟨a + 1, by go_num, Nat.le_refl _, by omega, rfl, HP, hs⟩
  case round1 =>
    clear hs HP
    obtain ⟨i, rfl, hai, hib, rfl, HP, hs⟩ := hrel
    have hq : (L.set q (uT g n c e))[q]? = some (uT g n c e) := List.getElem?_set_self HQ.out
    have HSZ := Lib.hid (show e.size = n by rw [HP.out.size]; exact HN.out.symm)
    obtain ⟨B, hB⟩ : ∃ B, B = (decide (i ≤ m) && id (ltInt e[i]! e[a]!)) := ⟨_, rfl⟩
    have HBB := Lib.hid hB
    clear hB
    go_upto_region 3 with fail
    refine wp_cutM [none, none, none, none, none, none, none, none, none, none, none, none, none, none, none, none, none, none, none, none, none, none, none, none, none, none, none, none, none, none, some 30, some 31, some 32, some 33, some 34, some 35, some 36, some 37, some 38, some 39, some 40, some 41, some 42, some 43, none, none, none, none, none, none, none, none, none, none, none, none, none, none, none, none, none, none, none, none, none, none, none, none, none, none, none, none, none, none, none, none, none, none, none, none, none, none, none, none, none, none, none, none, none, none, none, none, none, none, none, none, none, none, none, none, none, none, none, none, none, none, none, none, none, none, none, none, none, none, none, none, none, none, none, none, none, none, none, none, none, none, none, none, none, none, none, none, none, none, none, none, none, none, none, none, none, none, none, none, none, none, none, none, none, none, none, none, none, none, none, none, none, none, none, none, none, none, none, none, none, none, none, none] (fun (f : Nat → Value) (wq : World) => (fun (vb : Value) => vb = .bool B ∧ Sep w0 wq (L.set q (uT g n c e))) (f 43)) ?first2 ?rest2
    case' first2 => intro JC KC hJC hKC
    case' rest2 =>
      intro f wr l hl hrel
      (try simp only [mask] at hl)
      generalize f 43 = u43 at hl hrel
      subst hl
      (try dsimp only at hrel)
    case first2 =>
      by_cases hle : i ≤ m
      · have hleI : (i : Int) ≤ (m : Int) := by omega
        obtain ⟨x1, hx1⟩ : ∃ x, x = e[i]! := ⟨_, rfl⟩
        obtain ⟨x2, hx2⟩ : ∃ x, x = e[a]! := ⟨_, rfl⟩
        have y1 := uT_cell hs hq (k := i) (by have := HSZ.out; omega)
        have y2 := uT_cell hs hq (k := a) (by have := HSZ.out; omega)
        rw [← hx1] at y1
        rw [← hx2] at y2
        obtain ⟨l1, hl1⟩ : ∃ l, l = ltInt x1 x2 := ⟨_, rfl⟩
        have HL0 := Lib.hid hl1
        have HBL := Lib.hid (show B = id l1 by rw [HBB.out, hl1, hx1, hx2, decide_eq_true hle, Bool.true_and])
        have HS := Lib.hid hs
        clear hx1 hx2 hl1 hs hq HBB
        refine Mix.region [0, 0, 0, 0, 0, 0, 0, 0, 0, 0, 0, 0, 2, 0] (fun _ => True) (by kernel_rfl) (by kernel_rfl) trivial ?_
        simp only [List.zip_cons_cons, List.zip_nil_right]
        iterate 4 (refine Mix.step0 fun K hK => ?_; go_simp; (try (go_bits; try go_simp)); first | ((with_reducible refine hK _ _ ?_); clear hK K) | ((try (simp only [IntWalk.iteOmega]; try go_simp)); (try go_bits); (with_reducible refine hK _ _ ?_); clear hK K))
        iterate 8 (first | (refine Mix.stepS rfl fun K hK => ?_; go_simp; (with_reducible refine hK _ _ ?_); clear hK K) | (refine Mix.step0 fun K hK => ?_; go_simp; (try (go_bits; try go_simp)); first | ((with_reducible refine hK _ _ ?_); clear hK K) | ((try (simp only [IntWalk.iteOmega]; try go_simp)); (try go_bits); (with_reducible refine hK _ _ ?_); clear hK K)))
        refine Mix.step2n (by first | rfl | simp [Region.wanted, yielded]) fun K hK => ?_
        go_wp2_with fail
        refine (less_u x1 x2 _).mono ?_
        rintro en w2 ⟨rfl, rfl⟩
        rw [← HL0.out]
        go_wp2_with fail
        refine Mix.post_mk (C := (fun _ => True)) trivial (hK _ _ ?_)
        clear hK K
        iterate 1 (refine Mix.step0 fun K hK => ?_; go_simp; (try (go_bits; try go_simp)); first | ((with_reducible refine hK _ _ ?_); clear hK K) | ((try (simp only [IntWalk.iteOmega]; try go_simp)); (try go_bits); (with_reducible refine hK _ _ ?_); clear hK K))
        refine Mix.done ?_
        go_wp2_with fail
        refine Meet.intro (by kernel_rfl) (hJC _ _ ?rel3)
        case' rel3 => (try dsimp only [nthV])
        exact ⟨by have h := HBL.out; subst h; rfl, HS.out.drew⟩
      · have hleI : decide ((i : Int) ≤ (m : Int)) = false := decide_eq_false (by omega)
        have HBL := Lib.hid (show B = false by rw [HBB.out, decide_eq_false hle, Bool.false_and])
        have HS := Lib.hid hs
        clear hs hq HBB
        refine Mix.region [0, 0, 0, 0, 0, 0, 0, 0, 0, 0, 0, 0, 2, 0] (fun _ => True) (by kernel_rfl) (by kernel_rfl) trivial ?_
        simp only [List.zip_cons_cons, List.zip_nil_right]
        iterate 4 (refine Mix.step0 fun K hK => ?_; go_simp; (try (go_bits; try go_simp)); first | ((with_reducible refine hK _ _ ?_); clear hK K) | ((try (simp only [IntWalk.iteOmega]; try go_simp)); (try go_bits); (with_reducible refine hK _ _ ?_); clear hK K))
        iterate 8 (first | (refine Mix.stepS rfl fun K hK => ?_; go_simp; (with_reducible refine hK _ _ ?_); clear hK K) | (refine Mix.step0 fun K hK => ?_; go_simp; (try (go_bits; try go_simp)); first | ((with_reducible refine hK _ _ ?_); clear hK K) | ((try (simp only [IntWalk.iteOmega]; try go_simp)); (try go_bits); (with_reducible refine hK _ _ ?_); clear hK K)))
        refine Mix.step2s (by first | rfl | simp [Region.wanted, yielded]) ?_
        iterate 1 (refine Mix.step0 fun K hK => ?_; go_simp; (try (go_bits; try go_simp)); first | ((with_reducible refine hK _ _ ?_); clear hK K) | ((try (simp only [IntWalk.iteOmega]; try go_simp)); (try go_bits); (with_reducible refine hK _ _ ?_); clear hK K))
        refine Mix.done ?_
        go_wp2_with fail
        refine Meet.intro (by kernel_rfl) (hJC _ _ ?rel4)
        case' rel4 => (try dsimp only [nthV])
        exact ⟨by rw [HBL.out], HS.out.drew⟩
    case rest2 =>
      clear hs hq
      obtain ⟨rfl, hs⟩ := hrel
      cases B
      case true =>
        have hle : i ≤ m := by have := HBB.out; by_cases h : i ≤ m; exact h; rw [decide_eq_false h] at this; cases this
        have HP2 := Lib.hid (HP.out.up hle (by have h2 := HBB.out; rw [decide_eq_true hle, Bool.true_and] at h2; have h3 := of_decide_eq_true h2.symm; rw [HP.out.at_a] at h3; exact h3))
        clear HP HBB
        go_wp2_with fail
        refine Round.intro ((m + 1 - (i + 1))) ?measure5 (by kernel_rfl) (hJ1 _ _ _ ?rel5)
        case' rel5 => (try dsimp only [nthV])
        case measure5 => omega
        case rel5 => exact ⟨i + 1, by go_num, by omega, by omega, rfl, HP2, hs⟩
      case false =>
        have HI := Lib.hid (show i ≤ m → p ≤ e[i]! from fun hle => by
          have h2 := HBB.out
          rw [decide_eq_true hle, Bool.true_and] at h2
          have h3 := of_decide_eq_false h2.symm
          rw [HP.out.at_a] at h3
          omega)
        clear HBB
        go_wp2_with fail
        refine wp_loopM [none, none, none, none, none, none, none, none, none, none, none, some 11, none, none, none, none, none, none, none, none, none, none, none, none, none, none, none, none, none, none, none, none, none, none, none, none, none, none, none, none, none, none, none, none, none, none, some 46, some 47, some 48, some 49, some 50, some 51, some 52, some 53, some 54, some 55, some 56, some 57, some 58, some 59, some 60, some 61, some 62, none, none, none, none, none, none, none, none, none, none, none, none, none, none, none, none, none, none, none, none, none, none, none, none, none, none, none, none, none, none, none, none, none, none, none, none, none, none, none, none, none, none, none, none, none, none, none, none, none, none, none, none, none, none, none, none, none, none, none, none, none, none, none, none, none, none, none, none, none, none, none, none, none, none, none, none, none, none, none, none, none, none, none, none, none, none, none, none, none, none, none, none, none, none, none, none, none, none, none, none, none, none, none, none, none] (fun (r : Nat) (f : Nat → Value) (wr : World) => (fun (v : Value) => ∃ j : Nat, v = .int .i64 j ∧ i ≤ j + 1 ∧ j ≤ m ∧ r = j ∧ Hid (PJ d a m p e i j) ∧ Sep w0 wr (L.set q (uT g n c e))) (f 11)) (m) (by kernel_rfl) ?atStart6 ?round6
        case' atStart6 => (try dsimp only [nthV])
        case' round6 =>
          intro gk f wr l hl hrel J2 K2 hJ2 hK2
          (try simp only [mask] at hl)
          generalize f 11 = u11 at hl hrel
          subst hl
          (try dsimp only at hrel)
        case atStart6 => exact ⟨m, by go_num, by omega, Nat.le_refl _, rfl, HP, hs⟩
        case round6 =>
          clear hs HP
          obtain ⟨j, rfl, hij1, hjm, hr, HP, hs⟩ := hrel
          have HR := Lib.hid hr
          clear hr
          have hq : (L.set q (uT g n c e))[q]? = some (uT g n c e) := List.getElem?_set_self HQ.out
          obtain ⟨B, hB⟩ : ∃ B, B = (decide (i ≤ j) && Bool.not (ltInt e[j]! e[a]!)) := ⟨_, rfl⟩
          have HBB := Lib.hid hB
          clear hB
          go_upto_region 5 with fail
          refine wp_cutM [none, none, none, none, none, none, none, none, none, none, none, none, none, none, none, none, none, none, none, none, none, none, none, none, none, none, none, none, none, none, none, none, none, none, none, none, none, none, none, none, none, none, none, none, none, none, some 46, some 47, some 48, some 49, some 50, some 51, some 52, some 53, some 54, some 55, some 56, some 57, some 58, some 59, some 60, none, none, none, none, none, none, none, none, none, none, none, none, none, none, none, none, none, none, none, none, none, none, none, none, none, none, none, none, none, none, none, none, none, none, none, none, none, none, none, none, none, none, none, none, none, none, none, none, none, none, none, none, none, none, none, none, none, none, none, none, none, none, none, none, none, none, none, none, none, none, none, none, none, none, none, none, none, none, none, none, none, none, none, none, none, none, none, none, none, none, none, none, none, none, none, none, none, none, none, none, none, none, none, none, none, none, none] (fun (f : Nat → Value) (wq : World) => (fun (vb : Value) => vb = .bool B ∧ Sep w0 wq (L.set q (uT g n c e))) (f 60)) ?first7 ?rest7
          case' first7 => intro JC KC hJC hKC
          case' rest7 =>
            intro f wr l hl hrel
            (try simp only [mask] at hl)
            generalize f 60 = u60 at hl hrel
            subst hl
            (try dsimp only at hrel)
          case first7 =>
            by_cases hle : i ≤ j
            · have hleI : (i : Int) ≤ (j : Int) := by omega
              obtain ⟨x1, hx1⟩ : ∃ x, x = e[j]! := ⟨_, rfl⟩
              obtain ⟨x2, hx2⟩ : ∃ x, x = e[a]! := ⟨_, rfl⟩
              have y1 := uT_cell hs hq (k := j) (by have := HSZ.out; omega)
              have y2 := uT_cell hs hq (k := a) (by have := HSZ.out; omega)
              rw [← hx1] at y1
              rw [← hx2] at y2
              obtain ⟨l1, hl1⟩ : ∃ l, l = ltInt x1 x2 := ⟨_, rfl⟩
              have HL0 := Lib.hid hl1
              have HBL := Lib.hid (show B = Bool.not l1 by rw [HBB.out, hl1, hx1, hx2, decide_eq_true hle, Bool.true_and])
              have HS := Lib.hid hs
              clear hx1 hx2 hl1 hs hq HBB
              refine Mix.region [0, 0, 0, 0, 0, 0, 0, 0, 0, 0, 0, 0, 2, 0, 0] (fun _ => True) (by kernel_rfl) (by kernel_rfl) trivial ?_
              simp only [List.zip_cons_cons, List.zip_nil_right]
              iterate 4 (refine Mix.step0 fun K hK => ?_; go_simp; (try (go_bits; try go_simp)); first | ((with_reducible refine hK _ _ ?_); clear hK K) | ((try (simp only [IntWalk.iteOmega]; try go_simp)); (try go_bits); (with_reducible refine hK _ _ ?_); clear hK K))
              iterate 8 (first | (refine Mix.stepS rfl fun K hK => ?_; go_simp; (with_reducible refine hK _ _ ?_); clear hK K) | (refine Mix.step0 fun K hK => ?_; go_simp; (try (go_bits; try go_simp)); first | ((with_reducible refine hK _ _ ?_); clear hK K) | ((try (simp only [IntWalk.iteOmega]; try go_simp)); (try go_bits); (with_reducible refine hK _ _ ?_); clear hK K)))
              refine Mix.step2n (by first | rfl | simp [Region.wanted, yielded]) fun K hK => ?_
              go_wp2_with fail
              refine (less_u x1 x2 _).mono ?_
              rintro en w2 ⟨rfl, rfl⟩
              rw [← HL0.out]
              go_wp2_with fail
              refine Mix.post_mk (C := (fun _ => True)) trivial (hK _ _ ?_)
              clear hK K
              iterate 1 (first | (refine Mix.stepS rfl fun K hK => ?_; go_simp; (with_reducible refine hK _ _ ?_); clear hK K) | (refine Mix.step0 fun K hK => ?_; go_simp; (try (go_bits; try go_simp)); first | ((with_reducible refine hK _ _ ?_); clear hK K) | ((try (simp only [IntWalk.iteOmega]; try go_simp)); (try go_bits); (with_reducible refine hK _ _ ?_); clear hK K)))
              iterate 1 (refine Mix.step0 fun K hK => ?_; go_simp; (try (go_bits; try go_simp)); first | ((with_reducible refine hK _ _ ?_); clear hK K) | ((try (simp only [IntWalk.iteOmega]; try go_simp)); (try go_bits); (with_reducible refine hK _ _ ?_); clear hK K))
              refine Mix.done ?_
              go_wp2_with fail
              refine Meet.intro (by kernel_rfl) (hJC _ _ ?rel8)
              case' rel8 => (try dsimp only [nthV])
              exact ⟨by have h := HBL.out; subst h; rfl, HS.out.drew⟩
            · have hleI : decide ((i : Int) ≤ (j : Int)) = false := decide_eq_false (by omega)
              have HBL := Lib.hid (show B = false by rw [HBB.out, decide_eq_false hle, Bool.false_and])
              have HS := Lib.hid hs
              clear hs hq HBB
              refine Mix.region [0, 0, 0, 0, 0, 0, 0, 0, 0, 0, 0, 0, 2, 0, 0] (fun _ => True) (by kernel_rfl) (by kernel_rfl) trivial ?_
              simp only [List.zip_cons_cons, List.zip_nil_right]
              iterate 4 (refine Mix.step0 fun K hK => ?_; go_simp; (try (go_bits; try go_simp)); first | ((with_reducible refine hK _ _ ?_); clear hK K) | ((try (simp only [IntWalk.iteOmega]; try go_simp)); (try go_bits); (with_reducible refine hK _ _ ?_); clear hK K))
              iterate 8 (first | (refine Mix.stepS rfl fun K hK => ?_; go_simp; (with_reducible refine hK _ _ ?_); clear hK K) | (refine Mix.step0 fun K hK => ?_; go_simp; (try (go_bits; try go_simp)); first | ((with_reducible refine hK _ _ ?_); clear hK K) | ((try (simp only [IntWalk.iteOmega]; try go_simp)); (try go_bits); (with_reducible refine hK _ _ ?_); clear hK K)))
              refine Mix.step2s (by first | rfl | simp [Region.wanted, yielded]) ?_
              iterate 1 (first | (refine Mix.stepS rfl fun K hK => ?_; go_simp; (with_reducible refine hK _ _ ?_); clear hK K) | (refine Mix.step0 fun K hK => ?_; go_simp; (try (go_bits; try go_simp)); first | ((with_reducible refine hK _ _ ?_); clear hK K) | ((try (simp only [IntWalk.iteOmega]; try go_simp)); (try go_bits); (with_reducible refine hK _ _ ?_); clear hK K)))
              iterate 1 (refine Mix.step0 fun K hK => ?_; go_simp; (try (go_bits; try go_simp)); first | ((with_reducible refine hK _ _ ?_); clear hK K) | ((try (simp only [IntWalk.iteOmega]; try go_simp)); (try go_bits); (with_reducible refine hK _ _ ?_); clear hK K))
              refine Mix.done ?_
              go_wp2_with fail
              refine Meet.intro (by kernel_rfl) (hJC _ _ ?rel9)
              case' rel9 => (try dsimp only [nthV])
              exact ⟨by rw [HBL.out], HS.out.drew⟩
          case rest7 =>
            clear hs hq
            obtain ⟨rfl, hs⟩ := hrel
            cases B
            case true =>
              have hle : i ≤ j := by have := HBB.out; by_cases h : i ≤ j; exact h; rw [decide_eq_false h] at this; cases this
              have HP2 := Lib.hid (HP.out.down hle (by
                have h2 := HBB.out
                rw [decide_eq_true hle, Bool.true_and] at h2
                have h3 : decide (e[j]! < e[a]!) = false := by revert h2; show _ = Bool.not (decide (e[j]! < e[a]!)) → _; cases decide (e[j]! < e[a]!) <;> simp
                have h4 := of_decide_eq_false h3
                rw [HP.out.at_a] at h4
                omega))
              clear HP HBB
              obtain ⟨k, rfl⟩ : ∃ k, j = k + 1 := ⟨j - 1, by omega⟩
              go_wp2_with fail
              refine Round.intro (k) ?measure10 (by kernel_rfl) (hJ2 _ _ _ ?rel10)
              case' rel10 => (try dsimp only [nthV])
              case measure10 => have := HR.out; omega
              case rel10 => exact ⟨k, by first | go_num | (congr 1; omega), by omega, by omega, rfl, HP2, hs⟩
            case false =>
              have HJ := Lib.hid (show i ≤ j → e[j]! < p from fun hle => by
                have h2 := HBB.out
                rw [decide_eq_true hle, Bool.true_and] at h2
                have h3 : decide (e[j]! < e[a]!) = true := by revert h2; show _ = Bool.not (decide (e[j]! < e[a]!)) → _; cases decide (e[j]! < e[a]!) <;> simp
                have h4 := of_decide_eq_true h3
                rw [HP.out.at_a] at h4
                exact h4)
              clear HBB
              have hq : (L.set q (uT g n c e))[q]? = some (uT g n c e) := List.getElem?_set_self HQ.out
              by_cases hij : j < i
              · have HFI := Lib.hid (HP.out.fin HM.out hij)
                go_wp2_with fail
                obtain ⟨xj, xk, u2, yj, yk, y2, hsw⟩ := uT_swap_facts hs hq (j) (a) (by have := HSZ.out; omega) (by have := HSZ.out; omega)
                have qf := uT_frozen hs hq (by have := HSZ.out; omega)
                have HSW := Lib.hid hsw
                clear hsw hs hq
                go_wp2_with fail
                refine Mix.region [0, 0, 1, 1, 0, 0, 0, 0, 0, 0, 0, 0, 0, 2, 0, 2] (fun _ => True) (by kernel_rfl) (by kernel_rfl) trivial ?_
                simp only [List.zip_cons_cons, List.zip_nil_right]
                iterate 2 (refine Mix.step0 fun K hK => ?_; go_simp; (try (go_bits; try go_simp)); first | ((with_reducible refine hK _ _ ?_); clear hK K) | ((try (simp only [IntWalk.iteOmega]; try go_simp)); (try go_bits); (with_reducible refine hK _ _ ?_); clear hK K))
                iterate 2 (refine Mix.step1 fun K hK => ?_; go_simp; (try (go_bits; try go_simp)); first | ((with_reducible refine hK _ _ ?_); clear hK K) | ((try (simp only [IntWalk.iteOmega]; try go_simp)); (try go_bits); (with_reducible refine hK _ _ ?_); clear hK K))
                iterate 9 (refine Mix.step0 fun K hK => ?_; go_simp; (try (go_bits; try go_simp)); first | ((with_reducible refine hK _ _ ?_); clear hK K) | ((try (simp only [IntWalk.iteOmega]; try go_simp)); (try go_bits); (with_reducible refine hK _ _ ?_); clear hK K))
                refine Mix.step2n (by first | rfl | simp [Region.wanted, yielded]) fun K hK => ?_
                go_wp2_with fail
                refine Mix.post_mk (C := (fun _ => True)) trivial (hK _ _ ?_)
                clear hK K
                iterate 1 (refine Mix.step0 fun K hK => ?_; go_simp; (try (go_bits; try go_simp)); first | ((with_reducible refine hK _ _ ?_); clear hK K) | ((try (simp only [IntWalk.iteOmega]; try go_simp)); (try go_bits); (with_reducible refine hK _ _ ?_); clear hK K))
                refine Mix.step2n (by first | rfl | simp [Region.wanted, yielded]) fun K hK => ?_
                go_wp2_with fail
                refine Mix.post_mk (C := (fun _ => True)) trivial (hK _ _ ?_)
                clear hK K
                refine Mix.done ?_
                have hsn := HSW.out.drew
                rw [List.set_set] at hsn
                clear yj yk y2 qf HSW
                go_wp2_with fail
                go_ret2
                exact ⟨j, true, _, rfl, HFI, hsn⟩
              · have hlt : i < j := HP.out.ne (by omega) (HI.out (by omega)) (HJ.out (by omega))
                have HFI := Lib.hid (HP.out.swap HM.out hlt (HI.out (by omega)) (HJ.out (by omega)))
                obtain ⟨J, rfl⟩ : ∃ J, j = J + 1 := ⟨j - 1, by omega⟩
                have hijI : ¬ ((J + 1 : Nat) : Int) < (i : Int) := by omega
                go_wp2_with fail
                obtain ⟨xj, xk, u2, yj, yk, y2, hsw⟩ := uT_swap_facts hs hq (i) (J + 1) (by have := HSZ.out; omega) (by have := HSZ.out; omega)
                have qf := uT_frozen hs hq (by have := HSZ.out; omega)
                have HSW := Lib.hid hsw
                clear hsw hs hq
                go_wp2_with fail
                refine Mix.region [0, 0, 1, 1, 0, 0, 0, 0, 0, 0, 0, 0, 0, 2, 0, 2] (fun _ => True) (by kernel_rfl) (by kernel_rfl) trivial ?_
                simp only [List.zip_cons_cons, List.zip_nil_right]
                iterate 2 (refine Mix.step0 fun K hK => ?_; go_simp; (try (go_bits; try go_simp)); first | ((with_reducible refine hK _ _ ?_); clear hK K) | ((try (simp only [IntWalk.iteOmega]; try go_simp)); (try go_bits); (with_reducible refine hK _ _ ?_); clear hK K))
                iterate 2 (refine Mix.step1 fun K hK => ?_; go_simp; (try (go_bits; try go_simp)); first | ((with_reducible refine hK _ _ ?_); clear hK K) | ((try (simp only [IntWalk.iteOmega]; try go_simp)); (try go_bits); (with_reducible refine hK _ _ ?_); clear hK K))
                iterate 9 (refine Mix.step0 fun K hK => ?_; go_simp; (try (go_bits; try go_simp)); first | ((with_reducible refine hK _ _ ?_); clear hK K) | ((try (simp only [IntWalk.iteOmega]; try go_simp)); (try go_bits); (with_reducible refine hK _ _ ?_); clear hK K))
                refine Mix.step2n (by first | rfl | simp [Region.wanted, yielded]) fun K hK => ?_
                go_wp2_with fail
                refine Mix.post_mk (C := (fun _ => True)) trivial (hK _ _ ?_)
                clear hK K
                iterate 1 (refine Mix.step0 fun K hK => ?_; go_simp; (try (go_bits; try go_simp)); first | ((with_reducible refine hK _ _ ?_); clear hK K) | ((try (simp only [IntWalk.iteOmega]; try go_simp)); (try go_bits); (with_reducible refine hK _ _ ?_); clear hK K))
                refine Mix.step2n (by first | rfl | simp [Region.wanted, yielded]) fun K hK => ?_
                go_wp2_with fail
                refine Mix.post_mk (C := (fun _ => True)) trivial (hK _ _ ?_)
                clear hK K
                refine Mix.done ?_
                have hsn := HSW.out.drew
                rw [List.set_set] at hsn
                clear yj yk y2 qf HSW
                obtain ⟨f0, hf0⟩ : ∃ f, f = swp e i (J + 1) := ⟨_, rfl⟩
                rw [← hf0] at hsn HFI
                clear hf0 HP HI HJ
                go_wp2_with fail
                refine wp_loopM [none, none, none, none, none, none, none, none, none, none, some 10, some 11, none, none, none, none, none, none, none, none, none, none, none, none, none, none, none, none, none, none, none, none, none, none, none, none, none, none, none, none, none, none, none, none, none, none, none, none, none, none, none, none, none, none, none, none, none, none, none, none, none, none, none, none, none, none, none, none, none, none, none, none, none, none, none, none, none, none, none, none, none, none, none, none, none, none, none, none, none, none, none, none, none, none, none, none, none, none, none, some 99, some 100, some 101, some 102, some 103, some 104, some 105, some 106, some 107, some 108, some 109, some 110, some 111, some 112, some 113, some 114, some 115, some 116, some 117, some 118, some 119, some 120, some 121, some 122, some 123, some 124, some 125, some 126, some 127, some 128, some 129, some 130, some 131, some 132, some 133, some 134, some 135, some 136, some 137, some 138, some 139, some 140, some 141, some 142, some 143, some 144, some 145, some 146, some 147, some 148, some 149, some 150, some 151, some 152, none, none, none, none, none, none, none, none, none, none, none, none, none, none, none] (fun (r : Nat) (f : Nat → Value) (wr : World) => (fun (v v2 : Value) => ∃ (i j : Nat) (f : Array Int), v = .int .i64 i ∧ v2 = .int .i64 j ∧ a + 1 ≤ i ∧ i ≤ j + 1 ∧ j ≤ m ∧ r = j + 1 - i ∧ Hid (PJ d a m p f i j) ∧ Sep w0 wr (L.set q (uT g n c f))) (f 10) (f 11)) ((J + 1 - (i + 1))) (by kernel_rfl) ?atStart11 ?round11
                case' atStart11 => (try dsimp only [nthV])
                case' round11 =>
                  intro gk f wr l hl hrel J3 K3 hJ3 hK3
                  (try simp only [mask] at hl)
                  generalize f 10 = u10 at hl hrel
                  generalize f 11 = u11 at hl hrel
                  subst hl
                  (try dsimp only at hrel)
                case atStart11 => exact ⟨i + 1, J, f0, by go_num, by first | go_num | (congr 1; omega), by omega, by omega, by omega, rfl, HFI, hsn⟩
                case round11 =>
                  clear hsn HFI HR HSZ
                  obtain ⟨i1, j1, D1, rfl, rfl, hai1, hij1b, hjm1, hr, HP, hs⟩ := hrel
                  have HR := Lib.hid hr
                  clear hr
                  have HSZ := Lib.hid (show D1.size = n by rw [HP.out.size]; exact HN.out.symm)
                  go_wp2_with fail
                  refine wp_loopM [none, none, none, none, none, none, none, none, none, none, some 10, none, none, none, none, none, none, none, none, none, none, none, none, none, none, none, none, none, none, none, none, none, none, none, none, none, none, none, none, none, none, none, none, none, none, none, none, none, none, none, none, none, none, none, none, none, none, none, none, none, none, none, none, none, none, none, none, none, none, none, none, none, none, none, none, none, none, none, none, none, none, none, none, none, none, none, none, none, none, none, none, none, none, none, none, none, none, none, none, some 99, some 100, some 101, some 102, some 103, some 104, some 105, some 106, some 107, some 108, some 109, some 110, some 111, some 112, some 113, some 114, none, none, none, none, none, none, none, none, none, none, none, none, none, none, none, none, none, none, none, none, none, none, none, none, none, none, none, none, none, none, none, none, none, none, none, none, none, none, none, none, none, none, none, none, none, none, none, none, none, none, none, none, none] (fun (r : Nat) (f : Nat → Value) (wr : World) => (fun (v : Value) => ∃ i : Nat, v = .int .i64 i ∧ i1 ≤ i ∧ i ≤ j1 + 1 ∧ r = j1 + 1 - i ∧ Hid (PJ d a m p D1 i j1) ∧ Sep w0 wr (L.set q (uT g n c D1))) (f 10)) ((j1 + 1 - i1)) (by kernel_rfl) ?atStart12 ?round12
                  case' atStart12 => (try dsimp only [nthV])
                  case' round12 =>
                    intro gk f wr l hl hrel J4 K4 hJ4 hK4
                    (try simp only [mask] at hl)
                    generalize f 10 = u10 at hl hrel
                    subst hl
                    (try dsimp only at hrel)
                  case atStart12 => exact ⟨i1, rfl, Nat.le_refl _, by omega, rfl, HP, hs⟩
                  case round12 =>
                    clear hs HP
                    obtain ⟨i, rfl, hii, hib2, rfl, HP, hs⟩ := hrel
                    have hq : (L.set q (uT g n c D1))[q]? = some (uT g n c D1) := List.getElem?_set_self HQ.out
                    obtain ⟨B, hB⟩ : ∃ B, B = (decide (i ≤ j1) && id (ltInt D1[i]! D1[a]!)) := ⟨_, rfl⟩
                    have HBB := Lib.hid hB
                    clear hB
                    go_upto_region 13 with fail
                    refine wp_cutM [none, none, none, none, none, none, none, none, none, none, none, none, none, none, none, none, none, none, none, none, none, none, none, none, none, none, none, none, none, none, none, none, none, none, none, none, none, none, none, none, none, none, none, none, none, none, none, none, none, none, none, none, none, none, none, none, none, none, none, none, none, none, none, none, none, none, none, none, none, none, none, none, none, none, none, none, none, none, none, none, none, none, none, none, none, none, none, none, none, none, none, none, none, none, none, none, none, none, none, some 99, some 100, some 101, some 102, some 103, some 104, some 105, some 106, some 107, some 108, some 109, some 110, some 111, some 112, none, none, none, none, none, none, none, none, none, none, none, none, none, none, none, none, none, none, none, none, none, none, none, none, none, none, none, none, none, none, none, none, none, none, none, none, none, none, none, none, none, none, none, none, none, none, none, none, none, none, none, none, none, none, none] (fun (f : Nat → Value) (wq : World) => (fun (vb : Value) => vb = .bool B ∧ Sep w0 wq (L.set q (uT g n c D1))) (f 112)) ?first13 ?rest13
                    case' first13 => intro JC KC hJC hKC
                    case' rest13 =>
                      intro f wr l hl hrel
                      (try simp only [mask] at hl)
                      generalize f 112 = u112 at hl hrel
                      subst hl
                      (try dsimp only at hrel)
                    case first13 =>
                      by_cases hle : i ≤ j1
                      · have hleI : (i : Int) ≤ (j1 : Int) := by omega
                        obtain ⟨x1, hx1⟩ : ∃ x, x = D1[i]! := ⟨_, rfl⟩
                        obtain ⟨x2, hx2⟩ : ∃ x, x = D1[a]! := ⟨_, rfl⟩
                        have y1 := uT_cell hs hq (k := i) (by have := HSZ.out; omega)
                        have y2 := uT_cell hs hq (k := a) (by have := HSZ.out; omega)
                        rw [← hx1] at y1
                        rw [← hx2] at y2
                        obtain ⟨l1, hl1⟩ : ∃ l, l = ltInt x1 x2 := ⟨_, rfl⟩
                        have HL0 := Lib.hid hl1
                        have HBL := Lib.hid (show B = id l1 by rw [HBB.out, hl1, hx1, hx2, decide_eq_true hle, Bool.true_and])
                        have HS := Lib.hid hs
                        clear hx1 hx2 hl1 hs hq HBB
                        refine Mix.region [0, 0, 0, 0, 0, 0, 0, 0, 0, 0, 0, 0, 2, 0] (fun _ => True) (by kernel_rfl) (by kernel_rfl) trivial ?_
                        simp only [List.zip_cons_cons, List.zip_nil_right]
                        iterate 4 (refine Mix.step0 fun K hK => ?_; go_simp; (try (go_bits; try go_simp)); first | ((with_reducible refine hK _ _ ?_); clear hK K) | ((try (simp only [IntWalk.iteOmega]; try go_simp)); (try go_bits); (with_reducible refine hK _ _ ?_); clear hK K))
                        iterate 8 (first | (refine Mix.stepS rfl fun K hK => ?_; go_simp; (with_reducible refine hK _ _ ?_); clear hK K) | (refine Mix.step0 fun K hK => ?_; go_simp; (try (go_bits; try go_simp)); first | ((with_reducible refine hK _ _ ?_); clear hK K) | ((try (simp only [IntWalk.iteOmega]; try go_simp)); (try go_bits); (with_reducible refine hK _ _ ?_); clear hK K)))
                        refine Mix.step2n (by first | rfl | simp [Region.wanted, yielded]) fun K hK => ?_
                        go_wp2_with fail
                        refine (less_u x1 x2 _).mono ?_
                        rintro en w2 ⟨rfl, rfl⟩
                        rw [← HL0.out]
                        go_wp2_with fail
                        refine Mix.post_mk (C := (fun _ => True)) trivial (hK _ _ ?_)
                        clear hK K
                        iterate 1 (refine Mix.step0 fun K hK => ?_; go_simp; (try (go_bits; try go_simp)); first | ((with_reducible refine hK _ _ ?_); clear hK K) | ((try (simp only [IntWalk.iteOmega]; try go_simp)); (try go_bits); (with_reducible refine hK _ _ ?_); clear hK K))
                        refine Mix.done ?_
                        go_wp2_with fail
                        refine Meet.intro (by kernel_rfl) (hJC _ _ ?rel14)
                        case' rel14 => (try dsimp only [nthV])
                        exact ⟨by have h := HBL.out; subst h; rfl, HS.out.drew⟩
                      · have hleI : decide ((i : Int) ≤ (j1 : Int)) = false := decide_eq_false (by omega)
                        have HBL := Lib.hid (show B = false by rw [HBB.out, decide_eq_false hle, Bool.false_and])
                        have HS := Lib.hid hs
                        clear hs hq HBB
                        refine Mix.region [0, 0, 0, 0, 0, 0, 0, 0, 0, 0, 0, 0, 2, 0] (fun _ => True) (by kernel_rfl) (by kernel_rfl) trivial ?_
                        simp only [List.zip_cons_cons, List.zip_nil_right]
                        iterate 4 (refine Mix.step0 fun K hK => ?_; go_simp; (try (go_bits; try go_simp)); first | ((with_reducible refine hK _ _ ?_); clear hK K) | ((try (simp only [IntWalk.iteOmega]; try go_simp)); (try go_bits); (with_reducible refine hK _ _ ?_); clear hK K))
                        iterate 8 (first | (refine Mix.stepS rfl fun K hK => ?_; go_simp; (with_reducible refine hK _ _ ?_); clear hK K) | (refine Mix.step0 fun K hK => ?_; go_simp; (try (go_bits; try go_simp)); first | ((with_reducible refine hK _ _ ?_); clear hK K) | ((try (simp only [IntWalk.iteOmega]; try go_simp)); (try go_bits); (with_reducible refine hK _ _ ?_); clear hK K)))
                        refine Mix.step2s (by first | rfl | simp [Region.wanted, yielded]) ?_
                        iterate 1 (refine Mix.step0 fun K hK => ?_; go_simp; (try (go_bits; try go_simp)); first | ((with_reducible refine hK _ _ ?_); clear hK K) | ((try (simp only [IntWalk.iteOmega]; try go_simp)); (try go_bits); (with_reducible refine hK _ _ ?_); clear hK K))
                        refine Mix.done ?_
                        go_wp2_with fail
                        refine Meet.intro (by kernel_rfl) (hJC _ _ ?rel15)
                        case' rel15 => (try dsimp only [nthV])
                        exact ⟨by rw [HBL.out], HS.out.drew⟩
                    case rest13 =>
                      clear hs hq
                      obtain ⟨rfl, hs⟩ := hrel
                      cases B
                      case true =>
                        have hle : i ≤ j1 := by have := HBB.out; by_cases h : i ≤ j1; exact h; rw [decide_eq_false h] at this; cases this
                        have HP2 := Lib.hid (HP.out.up hle (by have h2 := HBB.out; rw [decide_eq_true hle, Bool.true_and] at h2; have h3 := of_decide_eq_true h2.symm; rw [HP.out.at_a] at h3; exact h3))
                        clear HP HBB
                        go_wp2_with fail
                        refine Round.intro ((j1 + 1 - (i + 1))) ?measure16 (by kernel_rfl) (hJ4 _ _ _ ?rel16)
                        case' rel16 => (try dsimp only [nthV])
                        case measure16 => omega
                        case rel16 => exact ⟨i + 1, by go_num, by omega, by omega, rfl, HP2, hs⟩
                      case false =>
                        have HI := Lib.hid (show i ≤ j1 → p ≤ D1[i]! from fun hle => by
                          have h2 := HBB.out
                          rw [decide_eq_true hle, Bool.true_and] at h2
                          have h3 := of_decide_eq_false h2.symm
                          rw [HP.out.at_a] at h3
                          omega)
                        clear HBB
                        go_wp2_with fail
                        refine wp_loopM [none, none, none, none, none, none, none, none, none, none, none, some 11, none, none, none, none, none, none, none, none, none, none, none, none, none, none, none, none, none, none, none, none, none, none, none, none, none, none, none, none, none, none, none, none, none, none, none, none, none, none, none, none, none, none, none, none, none, none, none, none, none, none, none, none, none, none, none, none, none, none, none, none, none, none, none, none, none, none, none, none, none, none, none, none, none, none, none, none, none, none, none, none, none, none, none, none, none, none, none, none, none, none, none, none, none, none, none, none, none, none, none, none, none, none, none, some 115, some 116, some 117, some 118, some 119, some 120, some 121, some 122, some 123, some 124, some 125, some 126, some 127, some 128, some 129, some 130, some 131, none, none, none, none, none, none, none, none, none, none, none, none, none, none, none, none, none, none, none, none, none, none, none, none, none, none, none, none, none, none, none, none, none, none, none, none] (fun (r : Nat) (f : Nat → Value) (wr : World) => (fun (v : Value) => ∃ j : Nat, v = .int .i64 j ∧ i ≤ j + 1 ∧ j ≤ j1 ∧ r = j ∧ Hid (PJ d a m p D1 i j) ∧ Sep w0 wr (L.set q (uT g n c D1))) (f 11)) (j1) (by kernel_rfl) ?atStart17 ?round17
                        case' atStart17 => (try dsimp only [nthV])
                        case' round17 =>
                          intro gk f wr l hl hrel J5 K5 hJ5 hK5
                          (try simp only [mask] at hl)
                          generalize f 11 = u11 at hl hrel
                          subst hl
                          (try dsimp only at hrel)
                        case atStart17 => exact ⟨j1, rfl, by omega, Nat.le_refl _, rfl, HP, hs⟩
                        case round17 =>
                          clear hs HP
                          obtain ⟨j, rfl, hij2, hjj, hr2, HP, hs⟩ := hrel
                          have HR2 := Lib.hid hr2
                          clear hr2
                          have hq : (L.set q (uT g n c D1))[q]? = some (uT g n c D1) := List.getElem?_set_self HQ.out
                          obtain ⟨B, hB⟩ : ∃ B, B = (decide (i ≤ j) && Bool.not (ltInt D1[j]! D1[a]!)) := ⟨_, rfl⟩
                          have HBB := Lib.hid hB
                          clear hB
                          go_upto_region 15 with fail
                          refine wp_cutM [none, none, none, none, none, none, none, none, none, none, none, none, none, none, none, none, none, none, none, none, none, none, none, none, none, none, none, none, none, none, none, none, none, none, none, none, none, none, none, none, none, none, none, none, none, none, none, none, none, none, none, none, none, none, none, none, none, none, none, none, none, none, none, none, none, none, none, none, none, none, none, none, none, none, none, none, none, none, none, none, none, none, none, none, none, none, none, none, none, none, none, none, none, none, none, none, none, none, none, none, none, none, none, none, none, none, none, none, none, none, none, none, none, none, none, some 115, some 116, some 117, some 118, some 119, some 120, some 121, some 122, some 123, some 124, some 125, some 126, some 127, some 128, some 129, none, none, none, none, none, none, none, none, none, none, none, none, none, none, none, none, none, none, none, none, none, none, none, none, none, none, none, none, none, none, none, none, none, none, none, none, none, none] (fun (f : Nat → Value) (wq : World) => (fun (vb : Value) => vb = .bool B ∧ Sep w0 wq (L.set q (uT g n c D1))) (f 129)) ?first18 ?rest18
                          case' first18 => intro JC KC hJC hKC
                          case' rest18 =>
                            intro f wr l hl hrel
                            (try simp only [mask] at hl)
                            generalize f 129 = u129 at hl hrel
                            subst hl
                            (try dsimp only at hrel)
                          case first18 =>
                            by_cases hle : i ≤ j
                            · have hleI : (i : Int) ≤ (j : Int) := by omega
                              obtain ⟨x1, hx1⟩ : ∃ x, x = D1[j]! := ⟨_, rfl⟩
                              obtain ⟨x2, hx2⟩ : ∃ x, x = D1[a]! := ⟨_, rfl⟩
                              have y1 := uT_cell hs hq (k := j) (by have := HSZ.out; omega)
                              have y2 := uT_cell hs hq (k := a) (by have := HSZ.out; omega)
                              rw [← hx1] at y1
                              rw [← hx2] at y2
                              obtain ⟨l1, hl1⟩ : ∃ l, l = ltInt x1 x2 := ⟨_, rfl⟩
                              have HL0 := Lib.hid hl1
                              have HBL := Lib.hid (show B = Bool.not l1 by rw [HBB.out, hl1, hx1, hx2, decide_eq_true hle, Bool.true_and])
                              have HS := Lib.hid hs
                              clear hx1 hx2 hl1 hs hq HBB
                              refine Mix.region [0, 0, 0, 0, 0, 0, 0, 0, 0, 0, 0, 0, 2, 0, 0] (fun _ => True) (by kernel_rfl) (by kernel_rfl) trivial ?_
                              simp only [List.zip_cons_cons, List.zip_nil_right]
                              iterate 4 (refine Mix.step0 fun K hK => ?_; go_simp; (try (go_bits; try go_simp)); first | ((with_reducible refine hK _ _ ?_); clear hK K) | ((try (simp only [IntWalk.iteOmega]; try go_simp)); (try go_bits); (with_reducible refine hK _ _ ?_); clear hK K))
                              iterate 8 (first | (refine Mix.stepS rfl fun K hK => ?_; go_simp; (with_reducible refine hK _ _ ?_); clear hK K) | (refine Mix.step0 fun K hK => ?_; go_simp; (try (go_bits; try go_simp)); first | ((with_reducible refine hK _ _ ?_); clear hK K) | ((try (simp only [IntWalk.iteOmega]; try go_simp)); (try go_bits); (with_reducible refine hK _ _ ?_); clear hK K)))
                              refine Mix.step2n (by first | rfl | simp [Region.wanted, yielded]) fun K hK => ?_
                              go_wp2_with fail
                              refine (less_u x1 x2 _).mono ?_
                              rintro en w2 ⟨rfl, rfl⟩
                              rw [← HL0.out]
                              go_wp2_with fail
                              refine Mix.post_mk (C := (fun _ => True)) trivial (hK _ _ ?_)
                              clear hK K
                              iterate 1 (first | (refine Mix.stepS rfl fun K hK => ?_; go_simp; (with_reducible refine hK _ _ ?_); clear hK K) | (refine Mix.step0 fun K hK => ?_; go_simp; (try (go_bits; try go_simp)); first | ((with_reducible refine hK _ _ ?_); clear hK K) | ((try (simp only [IntWalk.iteOmega]; try go_simp)); (try go_bits); (with_reducible refine hK _ _ ?_); clear hK K)))
                              iterate 1 (refine Mix.step0 fun K hK => ?_; go_simp; (try (go_bits; try go_simp)); first | ((with_reducible refine hK _ _ ?_); clear hK K) | ((try (simp only [IntWalk.iteOmega]; try go_simp)); (try go_bits); (with_reducible refine hK _ _ ?_); clear hK K))
                              refine Mix.done ?_
                              go_wp2_with fail
                              refine Meet.intro (by kernel_rfl) (hJC _ _ ?rel19)
                              case' rel19 => (try dsimp only [nthV])
                              exact ⟨by have h := HBL.out; subst h; rfl, HS.out.drew⟩
                            · have hleI : decide ((i : Int) ≤ (j : Int)) = false := decide_eq_false (by omega)
                              have HBL := Lib.hid (show B = false by rw [HBB.out, decide_eq_false hle, Bool.false_and])
                              have HS := Lib.hid hs
                              clear hs hq HBB
                              refine Mix.region [0, 0, 0, 0, 0, 0, 0, 0, 0, 0, 0, 0, 2, 0, 0] (fun _ => True) (by kernel_rfl) (by kernel_rfl) trivial ?_
                              simp only [List.zip_cons_cons, List.zip_nil_right]
                              iterate 4 (refine Mix.step0 fun K hK => ?_; go_simp; (try (go_bits; try go_simp)); first | ((with_reducible refine hK _ _ ?_); clear hK K) | ((try (simp only [IntWalk.iteOmega]; try go_simp)); (try go_bits); (with_reducible refine hK _ _ ?_); clear hK K))
                              iterate 8 (first | (refine Mix.stepS rfl fun K hK => ?_; go_simp; (with_reducible refine hK _ _ ?_); clear hK K) | (refine Mix.step0 fun K hK => ?_; go_simp; (try (go_bits; try go_simp)); first | ((with_reducible refine hK _ _ ?_); clear hK K) | ((try (simp only [IntWalk.iteOmega]; try go_simp)); (try go_bits); (with_reducible refine hK _ _ ?_); clear hK K)))
                              refine Mix.step2s (by first | rfl | simp [Region.wanted, yielded]) ?_
                              iterate 1 (first | (refine Mix.stepS rfl fun K hK => ?_; go_simp; (with_reducible refine hK _ _ ?_); clear hK K) | (refine Mix.step0 fun K hK => ?_; go_simp; (try (go_bits; try go_simp)); first | ((with_reducible refine hK _ _ ?_); clear hK K) | ((try (simp only [IntWalk.iteOmega]; try go_simp)); (try go_bits); (with_reducible refine hK _ _ ?_); clear hK K)))
                              iterate 1 (refine Mix.step0 fun K hK => ?_; go_simp; (try (go_bits; try go_simp)); first | ((with_reducible refine hK _ _ ?_); clear hK K) | ((try (simp only [IntWalk.iteOmega]; try go_simp)); (try go_bits); (with_reducible refine hK _ _ ?_); clear hK K))
                              refine Mix.done ?_
                              go_wp2_with fail
                              refine Meet.intro (by kernel_rfl) (hJC _ _ ?rel20)
                              case' rel20 => (try dsimp only [nthV])
                              exact ⟨by rw [HBL.out], HS.out.drew⟩
                          case rest18 =>
                            clear hs hq
                            obtain ⟨rfl, hs⟩ := hrel
                            cases B
                            case true =>
                              have hle : i ≤ j := by have := HBB.out; by_cases h : i ≤ j; exact h; rw [decide_eq_false h] at this; cases this
                              have HP2 := Lib.hid (HP.out.down hle (by
                                have h2 := HBB.out
                                rw [decide_eq_true hle, Bool.true_and] at h2
                                have h3 : decide (D1[j]! < D1[a]!) = false := by revert h2; show _ = Bool.not (decide (D1[j]! < D1[a]!)) → _; cases decide (D1[j]! < D1[a]!) <;> simp
                                have h4 := of_decide_eq_false h3
                                rw [HP.out.at_a] at h4
                                omega))
                              clear HP HBB
                              obtain ⟨k, rfl⟩ : ∃ k, j = k + 1 := ⟨j - 1, by omega⟩
                              go_wp2_with fail
                              refine Round.intro (k) ?measure21 (by kernel_rfl) (hJ5 _ _ _ ?rel21)
                              case' rel21 => (try dsimp only [nthV])
                              case measure21 => have := HR2.out; omega
                              case rel21 => exact ⟨k, by first | go_num | (congr 1; omega), by omega, by omega, rfl, HP2, hs⟩
                            case false =>
                              have HJ := Lib.hid (show i ≤ j → D1[j]! < p from fun hle => by
                                have h2 := HBB.out
                                rw [decide_eq_true hle, Bool.true_and] at h2
                                have h3 : decide (D1[j]! < D1[a]!) = true := by revert h2; show _ = Bool.not (decide (D1[j]! < D1[a]!)) → _; cases decide (D1[j]! < D1[a]!) <;> simp
                                have h4 := of_decide_eq_true h3
                                rw [HP.out.at_a] at h4
                                exact h4)
                              clear HBB
                              have hq : (L.set q (uT g n c D1))[q]? = some (uT g n c D1) := List.getElem?_set_self HQ.out
                              by_cases hij3 : j < i
                              · have HFI := Lib.hid (HP.out.fin HM.out hij3)
                                go_wp2_with fail
                                obtain ⟨xj, xk, u2, yj, yk, y2, hsw⟩ := uT_swap_facts hs hq (j) (a) (by have := HSZ.out; omega) (by have := HSZ.out; omega)
                                have qf := uT_frozen hs hq (by have := HSZ.out; omega)
                                have HSW := Lib.hid hsw
                                clear hsw hs hq
                                go_wp2_with fail
                                refine Mix.region [0, 0, 1, 1, 0, 0, 0, 0, 0, 0, 0, 0, 0, 2, 0, 2] (fun _ => True) (by kernel_rfl) (by kernel_rfl) trivial ?_
                                simp only [List.zip_cons_cons, List.zip_nil_right]
                                iterate 2 (refine Mix.step0 fun K hK => ?_; go_simp; (try (go_bits; try go_simp)); first | ((with_reducible refine hK _ _ ?_); clear hK K) | ((try (simp only [IntWalk.iteOmega]; try go_simp)); (try go_bits); (with_reducible refine hK _ _ ?_); clear hK K))
                                iterate 2 (refine Mix.step1 fun K hK => ?_; go_simp; (try (go_bits; try go_simp)); first | ((with_reducible refine hK _ _ ?_); clear hK K) | ((try (simp only [IntWalk.iteOmega]; try go_simp)); (try go_bits); (with_reducible refine hK _ _ ?_); clear hK K))
                                iterate 9 (refine Mix.step0 fun K hK => ?_; go_simp; (try (go_bits; try go_simp)); first | ((with_reducible refine hK _ _ ?_); clear hK K) | ((try (simp only [IntWalk.iteOmega]; try go_simp)); (try go_bits); (with_reducible refine hK _ _ ?_); clear hK K))
                                refine Mix.step2n (by first | rfl | simp [Region.wanted, yielded]) fun K hK => ?_
                                go_wp2_with fail
                                refine Mix.post_mk (C := (fun _ => True)) trivial (hK _ _ ?_)
                                clear hK K
                                iterate 1 (refine Mix.step0 fun K hK => ?_; go_simp; (try (go_bits; try go_simp)); first | ((with_reducible refine hK _ _ ?_); clear hK K) | ((try (simp only [IntWalk.iteOmega]; try go_simp)); (try go_bits); (with_reducible refine hK _ _ ?_); clear hK K))
                                refine Mix.step2n (by first | rfl | simp [Region.wanted, yielded]) fun K hK => ?_
                                go_wp2_with fail
                                refine Mix.post_mk (C := (fun _ => True)) trivial (hK _ _ ?_)
                                clear hK K
                                refine Mix.done ?_
                                have hsn := HSW.out.drew
                                rw [List.set_set] at hsn
                                clear yj yk y2 qf HSW
                                go_wp2_with fail
                                go_ret2
                                exact ⟨j, false, _, rfl, HFI, hsn⟩
                              · have hlt : i < j := HP.out.ne (by omega) (HI.out (by omega)) (HJ.out (by omega))
                                have HFI := Lib.hid (HP.out.swap HM.out hlt (HI.out (by omega)) (HJ.out (by omega)))
                                obtain ⟨J2, rfl⟩ : ∃ J, j = J + 1 := ⟨j - 1, by omega⟩
                                have hijI2 : ¬ ((J2 + 1 : Nat) : Int) < (i : Int) := by omega
                                go_wp2_with fail
                                obtain ⟨xj, xk, u2, yj, yk, y2, hsw⟩ := uT_swap_facts hs hq (i) (J2 + 1) (by have := HSZ.out; omega) (by have := HSZ.out; omega)
                                have qf := uT_frozen hs hq (by have := HSZ.out; omega)
                                have HSW := Lib.hid hsw
                                clear hsw hs hq
                                go_wp2_with fail
                                refine Mix.region [0, 0, 1, 1, 0, 0, 0, 0, 0, 0, 0, 0, 0, 2, 0, 2] (fun _ => True) (by kernel_rfl) (by kernel_rfl) trivial ?_
                                simp only [List.zip_cons_cons, List.zip_nil_right]
                                iterate 2 (refine Mix.step0 fun K hK => ?_; go_simp; (try (go_bits; try go_simp)); first | ((with_reducible refine hK _ _ ?_); clear hK K) | ((try (simp only [IntWalk.iteOmega]; try go_simp)); (try go_bits); (with_reducible refine hK _ _ ?_); clear hK K))
                                iterate 2 (refine Mix.step1 fun K hK => ?_; go_simp; (try (go_bits; try go_simp)); first | ((with_reducible refine hK _ _ ?_); clear hK K) | ((try (simp only [IntWalk.iteOmega]; try go_simp)); (try go_bits); (with_reducible refine hK _ _ ?_); clear hK K))
                                iterate 9 (refine Mix.step0 fun K hK => ?_; go_simp; (try (go_bits; try go_simp)); first | ((with_reducible refine hK _ _ ?_); clear hK K) | ((try (simp only [IntWalk.iteOmega]; try go_simp)); (try go_bits); (with_reducible refine hK _ _ ?_); clear hK K))
                                refine Mix.step2n (by first | rfl | simp [Region.wanted, yielded]) fun K hK => ?_
                                go_wp2_with fail
                                refine Mix.post_mk (C := (fun _ => True)) trivial (hK _ _ ?_)
                                clear hK K
                                iterate 1 (refine Mix.step0 fun K hK => ?_; go_simp; (try (go_bits; try go_simp)); first | ((with_reducible refine hK _ _ ?_); clear hK K) | ((try (simp only [IntWalk.iteOmega]; try go_simp)); (try go_bits); (with_reducible refine hK _ _ ?_); clear hK K))
                                refine Mix.step2n (by first | rfl | simp [Region.wanted, yielded]) fun K hK => ?_
                                go_wp2_with fail
                                refine Mix.post_mk (C := (fun _ => True)) trivial (hK _ _ ?_)
                                clear hK K
                                refine Mix.done ?_
                                have hsn := HSW.out.drew
                                rw [List.set_set] at hsn
                                clear yj yk y2 qf HSW
                                clear HP HI HJ
                                go_wp2_with fail
                                refine Round.intro ((J2 + 1 - (i + 1))) ?measure22 (by kernel_rfl) (hJ3 _ _ _ ?rel22)
                                case' rel22 => (try dsimp only [nthV])
                                case measure22 => have := HR.out; omega
                                case rel22 => exact ⟨i + 1, J2, _, by go_num, by first | go_num | (congr 1; omega), by omega, by omega, by omega, rfl, HFI, hsn⟩
end
end Go.Proofs.Ythcmkljdhhepgaa
