/-
  The reference's heap (gabletref10), walked: a list in which the first thing is looked for.
-/
import Derived.Test.YtellkmjbpaaclaaHTimesW
namespace Go.Proofs.Ytellkmjbpaaclaa
open Go Go.RowKit Go.Mem Go.HeapP

/-- The reference's heap at block b: the list xs, in whatever order. -/
structure RRep (w : World) (b : Nat) (S : Nat → Prop) (xs : List T) : Prop where
  inS : S b
  low : ∀ j, S j → j < w.heap.size
  mem : ∃ v, w.heap[b]? = some (.cells #[v] 29 (0, 0)) ∧ Row 42 w v xs ∧ v.ownBlock ≠ some b ∧ (∀ g, v.ownBlock = some g → S g)

theorem RRep.frame {w w' : World} {b : Nat} {S S' : Nat → Prop} {xs : List T} (h : RRep w b S xs) (hf : Fr S' w w') (hd : ∀ j, S j → ¬ S' j) : RRep w' b S xs := by
  obtain ⟨v, h1, h2, h3, h4⟩ := h.mem
  exact ⟨h.inS, fun j hj => Nat.lt_of_lt_of_le (h.low j hj) hf.size, v, (hf.block b (h.low b h.inS) (hd b h.inS)).trans h1, h2.frame hf (fun g hg => hd g (h4 g hg)), h3, h4⟩

/-- The place of a first one: below 0 there is none. -/
def FirstAt (xs : List T) (n : Nat) (k : Int) : Prop := (n = 0 ∧ k = -1) ∨ ∃ m : Nat, k = (m : Int) ∧ m < n ∧ ∀ j, j < n → le (nth xs m) (nth xs j)

set_option maxHeartbeats 4000000 in
set_option maxRecDepth 100000 in
theorem rfirst_any (b : Nat) (S : Nat → Prop) (xs : List T) (w : World) (h : RRep w b S xs) (hn : xs.length ≤ 2000) :
    Calls Try.prog 20 #[.pointer (some ⟨b, 0, none⟩)] w fun e w' => Fr (fun _ => False) w w' ∧ ∃ k : Int, e = .returned (.int .i64 k) ∧ FirstAt xs xs.length k := by
  obtain ⟨v, hv, hrow, _, _⟩ := h.mem
  have hb := h.low b h.inS
  obtain ⟨av, cv, hve⟩ := hrow.shape
  subst hve
  go_enter Try.func20, Try.ntmps20
  go_wp2_with fail
  go_loopw [3, 4] (fun kv v wr => ∃ (i : Nat) (k : Int), v = .int .i64 i ∧ kv = .int .i64 k ∧ i ≤ xs.length ∧ FirstAt xs i k ∧ Fr (fun _ => False) w wr) (fun _ v wr => xs.length - (intOf v).toNat)
  case atStart => exact ⟨0, -1, rfl, rfl, Nat.zero_le _, .inl ⟨rfl, rfl⟩, Fr.refl _ _⟩
  case round =>
    obtain ⟨i, k, rfl, rfl, hi, hk, hf⟩ := hrel
    have hc : wr.cell? ⟨b, 0, none⟩ = some (.slice av xs.length cv) := (hf.cell hb id).trans (cell_of hv 0)
    by_cases hlt : i < xs.length
    · obtain ⟨g, cap, hv', hg, hcs⟩ := hrow.get i hlt
      injection hv' with hv1 _ hv2
      subst hv1; subst hv2
      have c1 := (hf.cell hg id).trans (hcs i hlt).1
      have c2 := (hf.cell hg id).trans (hcs i hlt).2
      rcases hk with ⟨rfl, rfl⟩ | ⟨m, rfl, hm, hmin⟩
      · clear hcs
        go_wp2_with fail
        refine Mix.region [0, 0, 0, 0, 0, 0, 0, 0, 0, 0, 0, 0, 0, 0, 0, 0, 0, 0, 0, 0, 0, 0, 0, 0, 0, 0, 0, 0, 0, 0, 0, 0, 0, 0, 0, 0, 0, 0, 0, 0, 0, 0, 0, 0, 0, 0, 0, 0, 0, 0, 0, 0, 0, 0, 0, 0, 0, 0, 0] (fun _ => True) (by kernel_rfl) (by kernel_rfl) trivial ?_
        simp only [List.zip_cons_cons, List.zip_nil_right]
        iterate 3 (refine Mix.step0 fun K hK => ?_; go_simp; (try (go_bits; try go_simp)); first | ((with_reducible refine hK _ _ ?_); clear hK K) | ((try (simp only [IntWalk.iteOmega]; try go_simp)); (try go_bits); (with_reducible refine hK _ _ ?_); clear hK K))
        iterate 17 (first | (refine Mix.stepS rfl fun K hK => ?_; go_simp; (with_reducible refine hK _ _ ?_); clear hK K) | (refine Mix.step0 fun K hK => ?_; go_simp; (try (go_bits; try go_simp)); first | ((with_reducible refine hK _ _ ?_); clear hK K) | ((try (simp only [IntWalk.iteOmega]; try go_simp)); (try go_bits); (with_reducible refine hK _ _ ?_); clear hK K)))
        iterate 2 (refine Mix.step0 fun K hK => ?_; go_simp; (try (go_bits; try go_simp)); first | ((with_reducible refine hK _ _ ?_); clear hK K) | ((try (simp only [IntWalk.iteOmega]; try go_simp)); (try go_bits); (with_reducible refine hK _ _ ?_); clear hK K))
        iterate 36 (first | (refine Mix.stepS rfl fun K hK => ?_; go_simp; (with_reducible refine hK _ _ ?_); clear hK K) | (refine Mix.step0 fun K hK => ?_; go_simp; (try (go_bits; try go_simp)); first | ((with_reducible refine hK _ _ ?_); clear hK K) | ((try (simp only [IntWalk.iteOmega]; try go_simp)); (try go_bits); (with_reducible refine hK _ _ ?_); clear hK K)))
        iterate 1 (refine Mix.step0 fun K hK => ?_; go_simp; (try (go_bits; try go_simp)); first | ((with_reducible refine hK _ _ ?_); clear hK K) | ((try (simp only [IntWalk.iteOmega]; try go_simp)); (try go_bits); (with_reducible refine hK _ _ ?_); clear hK K))
        refine Mix.done ?_
        go_wp2_with fail
        go_roundw
        case rel => exact ⟨1, 0, rfl, rfl, hlt, .inr ⟨0, rfl, Nat.zero_lt_one, fun j hj => by obtain rfl : j = 0 := by omega
                                                                                              exact le_refl _⟩, hf.to_drew⟩
        case measure => simp [intOf]; omega
      · have hml : m < xs.length := by omega
        have c3 := (hf.cell hg id).trans (hcs m hml).1
        have c4 := (hf.cell hg id).trans (hcs m hml).2
        clear hcs
        have hk0 : ¬ ((m : Int) < 0) := by omega
        by_cases h1 : (nth xs i).1 < (nth xs m).1
        · have HQ := Lib.hid (show (nth xs i).1 < (nth xs m).1 ∨ ((nth xs i).1 = (nth xs m).1 ∧ (nth xs i).2 < (nth xs m).2) from .inl h1)
          go_wp2_with fail
          refine Mix.region [0, 0, 0, 0, 0, 0, 0, 0, 0, 0, 0, 0, 0, 0, 0, 0, 0, 0, 0, 0, 0, 0, 0, 0, 0, 0, 0, 0, 0, 0, 0, 0, 0, 0, 0, 0, 0, 0, 0, 0, 0, 0, 0, 0, 0, 0, 0, 0, 0, 0, 0, 0, 0, 0, 0, 0, 0, 0, 0] (fun _ => True) (by kernel_rfl) (by kernel_rfl) trivial ?_
          simp only [List.zip_cons_cons, List.zip_nil_right]
          iterate 3 (refine Mix.step0 fun K hK => ?_; go_simp; (try (go_bits; try go_simp)); first | ((with_reducible refine hK _ _ ?_); clear hK K) | ((try (simp only [IntWalk.iteOmega]; try go_simp)); (try go_bits); (with_reducible refine hK _ _ ?_); clear hK K))
          iterate 17 (first | (refine Mix.stepS rfl fun K hK => ?_; go_simp; (with_reducible refine hK _ _ ?_); clear hK K) | (refine Mix.step0 fun K hK => ?_; go_simp; (try (go_bits; try go_simp)); first | ((with_reducible refine hK _ _ ?_); clear hK K) | ((try (simp only [IntWalk.iteOmega]; try go_simp)); (try go_bits); (with_reducible refine hK _ _ ?_); clear hK K)))
          iterate 2 (refine Mix.step0 fun K hK => ?_; go_simp; (try (go_bits; try go_simp)); first | ((with_reducible refine hK _ _ ?_); clear hK K) | ((try (simp only [IntWalk.iteOmega]; try go_simp)); (try go_bits); (with_reducible refine hK _ _ ?_); clear hK K))
          iterate 36 (first | (refine Mix.stepS rfl fun K hK => ?_; go_simp; (with_reducible refine hK _ _ ?_); clear hK K) | (refine Mix.step0 fun K hK => ?_; go_simp; (try (go_bits; try go_simp)); first | ((with_reducible refine hK _ _ ?_); clear hK K) | ((try (simp only [IntWalk.iteOmega]; try go_simp)); (try go_bits); (with_reducible refine hK _ _ ?_); clear hK K)))
          iterate 1 (refine Mix.step0 fun K hK => ?_; go_simp; (try (go_bits; try go_simp)); first | ((with_reducible refine hK _ _ ?_); clear hK K) | ((try (simp only [IntWalk.iteOmega]; try go_simp)); (try go_bits); (with_reducible refine hK _ _ ?_); clear hK K))
          refine Mix.done ?_
          go_wp2_with fail
          go_roundw
          case rel =>
            exact ⟨i + 1, (i : Nat), by go_num, rfl, hlt, .inr ⟨i, rfl, Nat.lt_succ_self i, fun j hj => by
                    by_cases hji : j = i
                    · subst hji; exact le_refl _
                    · exact le_trans (le_of_lt ((ltB_iff _ _).2 HQ.out)) (hmin j (by omega))⟩, hf.to_drew⟩
          case measure => simp [intOf]; omega
        · have h1' : decide ((nth xs i).1 < (nth xs m).1) = false := by rw [decide_eq_false_iff_not]; exact h1
          by_cases h2 : (nth xs i).1 = (nth xs m).1
          · by_cases h3 : (nth xs i).2 < (nth xs m).2
            · have HQ := Lib.hid (show (nth xs i).1 < (nth xs m).1 ∨ ((nth xs i).1 = (nth xs m).1 ∧ (nth xs i).2 < (nth xs m).2) from .inr ⟨h2, h3⟩)
              rw [h2] at c1
              clear h1 h1' h2
              go_wp2_with fail
              refine Mix.region [0, 0, 0, 0, 0, 0, 0, 0, 0, 0, 0, 0, 0, 0, 0, 0, 0, 0, 0, 0, 0, 0, 0, 0, 0, 0, 0, 0, 0, 0, 0, 0, 0, 0, 0, 0, 0, 0, 0, 0, 0, 0, 0, 0, 0, 0, 0, 0, 0, 0, 0, 0, 0, 0, 0, 0, 0, 0, 0] (fun _ => True) (by kernel_rfl) (by kernel_rfl) trivial ?_
              simp only [List.zip_cons_cons, List.zip_nil_right]
              iterate 3 (refine Mix.step0 fun K hK => ?_; go_simp; (try (go_bits; try go_simp)); first | ((with_reducible refine hK _ _ ?_); clear hK K) | ((try (simp only [IntWalk.iteOmega]; try go_simp)); (try go_bits); (with_reducible refine hK _ _ ?_); clear hK K))
              iterate 17 (first | (refine Mix.stepS rfl fun K hK => ?_; go_simp; (with_reducible refine hK _ _ ?_); clear hK K) | (refine Mix.step0 fun K hK => ?_; go_simp; (try (go_bits; try go_simp)); first | ((with_reducible refine hK _ _ ?_); clear hK K) | ((try (simp only [IntWalk.iteOmega]; try go_simp)); (try go_bits); (with_reducible refine hK _ _ ?_); clear hK K)))
              iterate 2 (refine Mix.step0 fun K hK => ?_; go_simp; (try (go_bits; try go_simp)); first | ((with_reducible refine hK _ _ ?_); clear hK K) | ((try (simp only [IntWalk.iteOmega]; try go_simp)); (try go_bits); (with_reducible refine hK _ _ ?_); clear hK K))
              iterate 36 (first | (refine Mix.stepS rfl fun K hK => ?_; go_simp; (with_reducible refine hK _ _ ?_); clear hK K) | (refine Mix.step0 fun K hK => ?_; go_simp; (try (go_bits; try go_simp)); first | ((with_reducible refine hK _ _ ?_); clear hK K) | ((try (simp only [IntWalk.iteOmega]; try go_simp)); (try go_bits); (with_reducible refine hK _ _ ?_); clear hK K)))
              iterate 1 (refine Mix.step0 fun K hK => ?_; go_simp; (try (go_bits; try go_simp)); first | ((with_reducible refine hK _ _ ?_); clear hK K) | ((try (simp only [IntWalk.iteOmega]; try go_simp)); (try go_bits); (with_reducible refine hK _ _ ?_); clear hK K))
              refine Mix.done ?_
              go_wp2_with fail
              go_roundw
              case rel =>
                exact ⟨i + 1, (i : Nat), by go_num, rfl, hlt, .inr ⟨i, rfl, Nat.lt_succ_self i, fun j hj => by
                        by_cases hji : j = i
                        · subst hji; exact le_refl _
                        · exact le_trans (le_of_lt ((ltB_iff _ _).2 HQ.out)) (hmin j (by omega))⟩, hf.to_drew⟩
              case measure => simp [intOf]; omega
            · have HQ := Lib.hid (show le (nth xs m) (nth xs i) from (le_iff _ _).2 (by omega))
              have H3 := Lib.hid h3
              rw [h2] at c1
              clear h1 h1' h2 h3
              go_wp2_with fail
              have h3 := H3.out
              clear H3
              refine Mix.region [0, 0, 0, 0, 0, 0, 0, 0, 0, 0, 0, 0, 0, 0, 0, 0, 0, 0, 0, 0, 0, 0, 0, 0, 0, 0, 0, 0, 0, 0, 0, 0, 0, 0, 0, 0, 0, 0, 0, 0, 0, 0, 0, 0, 0, 0, 0, 0, 0, 0, 0, 0, 0, 0, 0, 0, 0, 0, 0] (fun _ => True) (by kernel_rfl) (by kernel_rfl) trivial ?_
              simp only [List.zip_cons_cons, List.zip_nil_right]
              iterate 3 (refine Mix.step0 fun K hK => ?_; go_simp; (try (go_bits; try go_simp)); first | ((with_reducible refine hK _ _ ?_); clear hK K) | ((try (simp only [IntWalk.iteOmega]; try go_simp)); (try go_bits); (with_reducible refine hK _ _ ?_); clear hK K))
              iterate 17 (first | (refine Mix.stepS rfl fun K hK => ?_; go_simp; (with_reducible refine hK _ _ ?_); clear hK K) | (refine Mix.step0 fun K hK => ?_; go_simp; (try (go_bits; try go_simp)); first | ((with_reducible refine hK _ _ ?_); clear hK K) | ((try (simp only [IntWalk.iteOmega]; try go_simp)); (try go_bits); (with_reducible refine hK _ _ ?_); clear hK K)))
              iterate 2 (refine Mix.step0 fun K hK => ?_; go_simp; (try (go_bits; try go_simp)); first | ((with_reducible refine hK _ _ ?_); clear hK K) | ((try (simp only [IntWalk.iteOmega]; try go_simp)); (try go_bits); (with_reducible refine hK _ _ ?_); clear hK K))
              iterate 36 (first | (refine Mix.stepS rfl fun K hK => ?_; go_simp; (with_reducible refine hK _ _ ?_); clear hK K) | (refine Mix.step0 fun K hK => ?_; go_simp; (try (go_bits; try go_simp)); first | ((with_reducible refine hK _ _ ?_); clear hK K) | ((try (simp only [IntWalk.iteOmega]; try go_simp)); (try go_bits); (with_reducible refine hK _ _ ?_); clear hK K)))
              iterate 1 (refine Mix.step0 fun K hK => ?_; go_simp; (try (go_bits; try go_simp)); first | ((with_reducible refine hK _ _ ?_); clear hK K) | ((try (simp only [IntWalk.iteOmega]; try go_simp)); (try go_bits); (with_reducible refine hK _ _ ?_); clear hK K))
              refine Mix.done ?_
              go_wp2_with fail
              go_roundw
              case rel =>
                exact ⟨i + 1, (m : Nat), by go_num, rfl, hlt, .inr ⟨m, rfl, by omega, fun j hj => by
                        by_cases hji : j = i
                        · subst hji; exact HQ.out
                        · exact hmin j (by omega)⟩, hf.to_drew⟩
              case measure => simp [intOf]; omega
          · have HQ := Lib.hid (show le (nth xs m) (nth xs i) from (le_iff _ _).2 (by omega))
            have h2' : ((nth xs i).1 == (nth xs m).1) = false := by rw [beq_eq_false_iff_ne]; exact h2
            have H1 := Lib.hid h1
            clear h1 h1' h2
            go_wp2_with fail
            have h1 := H1.out
            clear H1
            refine Mix.region [0, 0, 0, 0, 0, 0, 0, 0, 0, 0, 0, 0, 0, 0, 0, 0, 0, 0, 0, 0, 0, 0, 0, 0, 0, 0, 0, 0, 0, 0, 0, 0, 0, 0, 0, 0, 0, 0, 0, 0, 0, 0, 0, 0, 0, 0, 0, 0, 0, 0, 0, 0, 0, 0, 0, 0, 0, 0, 0] (fun _ => True) (by kernel_rfl) (by kernel_rfl) trivial ?_
            simp only [List.zip_cons_cons, List.zip_nil_right]
            iterate 3 (refine Mix.step0 fun K hK => ?_; go_simp; (try (go_bits; try go_simp)); first | ((with_reducible refine hK _ _ ?_); clear hK K) | ((try (simp only [IntWalk.iteOmega]; try go_simp)); (try go_bits); (with_reducible refine hK _ _ ?_); clear hK K))
            iterate 17 (first | (refine Mix.stepS rfl fun K hK => ?_; go_simp; (with_reducible refine hK _ _ ?_); clear hK K) | (refine Mix.step0 fun K hK => ?_; go_simp; (try (go_bits; try go_simp)); first | ((with_reducible refine hK _ _ ?_); clear hK K) | ((try (simp only [IntWalk.iteOmega]; try go_simp)); (try go_bits); (with_reducible refine hK _ _ ?_); clear hK K)))
            iterate 2 (refine Mix.step0 fun K hK => ?_; go_simp; (try (go_bits; try go_simp)); first | ((with_reducible refine hK _ _ ?_); clear hK K) | ((try (simp only [IntWalk.iteOmega]; try go_simp)); (try go_bits); (with_reducible refine hK _ _ ?_); clear hK K))
            iterate 36 (first | (refine Mix.stepS rfl fun K hK => ?_; go_simp; (with_reducible refine hK _ _ ?_); clear hK K) | (refine Mix.step0 fun K hK => ?_; go_simp; (try (go_bits; try go_simp)); first | ((with_reducible refine hK _ _ ?_); clear hK K) | ((try (simp only [IntWalk.iteOmega]; try go_simp)); (try go_bits); (with_reducible refine hK _ _ ?_); clear hK K)))
            iterate 1 (refine Mix.step0 fun K hK => ?_; go_simp; (try (go_bits; try go_simp)); first | ((with_reducible refine hK _ _ ?_); clear hK K) | ((try (simp only [IntWalk.iteOmega]; try go_simp)); (try go_bits); (with_reducible refine hK _ _ ?_); clear hK K))
            refine Mix.done ?_
            go_wp2_with fail
            go_roundw
            case rel =>
              exact ⟨i + 1, (m : Nat), by go_num, rfl, hlt, .inr ⟨m, rfl, by omega, fun j hj => by
                      by_cases hji : j = i
                      · subst hji; exact HQ.out
                      · exact hmin j (by omega)⟩, hf.to_drew⟩
            case measure => simp [intOf]; omega
    · go_wp2_with fail
      go_ret
      obtain rfl : i = xs.length := by omega
      exact ⟨hf, k, rfl, hk⟩
end Go.Proofs.Ytellkmjbpaaclaa
