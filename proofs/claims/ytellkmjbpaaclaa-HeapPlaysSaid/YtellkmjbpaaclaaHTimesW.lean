/-
  The law's own function 'times', walked: how often a thing is in a list.
-/
import Derived.Test.YtellkmjbpaaclaaHW4
namespace Go.Proofs.Ytellkmjbpaaclaa
open Go Go.RowKit Go.Mem Go.HeapP

/-- A slice of things (of type E), owned: nil, or a row. -/
def Row (E : TypeId) (w : World) (v : Value) (xs : List T) : Prop := w.ownsRow 0 E 2 v xs.length (flat xs)
theorem Row.shape {E : TypeId} {w : World} {v : Value} {xs : List T} (h : Row E w v xs) : ∃ a cap, v = .slice a xs.length cap := by
  rcases h.2 with ⟨rfl, h0⟩ | ⟨g, cap, _, rfl, _⟩
  · exact ⟨none, 0, by rw [h0]⟩
  · exact ⟨_, _, rfl⟩
theorem Row.get {E : TypeId} {w : World} {v : Value} {xs : List T} (h : Row E w v xs) (i : Nat) (hi : i < xs.length) :
    ∃ g cap, v = .slice (some ⟨g, 0, none⟩) xs.length cap ∧ g < w.heap.size ∧ ∀ k, k < xs.length → w.cell? ⟨g, k * 2, none⟩ = some (.int .i64 (nth xs k).1) ∧ w.cell? ⟨g, k * 2 + 1, none⟩ = some (.int .i64 (nth xs k).2) := by
  rcases h.2 with ⟨rfl, h0⟩ | ⟨g, cap, cur, rfl, hb, hg, rest⟩
  · omega
  · refine ⟨g, cap, rfl, lt_of hg, fun k hk => ?_⟩
    have h' : w.ownsRow 0 E 2 (.slice (some ⟨g, 0, none⟩) xs.length cap) xs.length (flat xs) := h
    exact ⟨(h'.cellAt (k * 2) (by omega)).trans (flat_get xs k hk).1, (h'.cellAt (k * 2 + 1) (by omega)).trans (flat_get xs k hk).2⟩
theorem Row.frame {E : TypeId} {S : Nat → Prop} {w w' : World} {v : Value} {xs : List T} (h : Row E w v xs) (hf : Fr S w w') (hS : ∀ g, v.ownBlock = some g → ¬ S g) : Row E w' v xs := owns_frame h hf hS
theorem Row.low {E : TypeId} {w : World} {v : Value} {xs : List T} (h : Row E w v xs) : ∀ g, v.ownBlock = some g → g < w.heap.size := fun g hg => (World.ownsRow.lt h g hg).2

def cnt (xs : List T) (x : T) : Nat := xs.count x
theorem cnt_snoc (xs : List T) (i : Nat) (hi : i < xs.length) (x : T) : cnt (xs.take (i + 1)) x = cnt (xs.take i) x + if nth xs i = x then 1 else 0 := by
  unfold cnt
  rw [List.take_add_one, nth_of hi]
  simp [List.count_append, List.count_singleton]

set_option maxHeartbeats 1000000 in
set_option maxRecDepth 100000 in
theorem times_any (v : Value) (xs : List T) (x1 x2 : Int) (w : World) (h : Row 42 w v xs) (hn : xs.length ≤ 1000) :
    Calls Try.prog 17 #[v, .agg #[.int .i64 x1, .int .i64 x2]] w fun e w' => e = .returned (.int .i64 (cnt xs (x1, x2))) ∧ Below w.heap.size w w' := by
  obtain ⟨av, cv, hv⟩ := h.shape
  subst hv
  go_enter Try.func17, Try.ntmps17
  go_wp2_with fail
  obtain ⟨w0, hw0⟩ : ∃ w0, w0 = w.alloc (Obj.cells #[Value.int IntKind.i64 x1, Value.int IntKind.i64 x2] 42) := ⟨_, rfl⟩
  rw [← hw0]
  have hx0 : w0.heap[w.heap.size]? = some (.cells #[.int .i64 x1, .int .i64 x2] 42 (0, 0)) := by rw [hw0]; exact heap_alloc_new w _
  have hb0 : Below w.heap.size w w0 := by rw [hw0]; exact (Below.refl _ _).alloc (Nat.le_refl _) _
  clear hw0
  go_loopw [5, 6] (fun c v wr => ∃ i : Nat, i ≤ xs.length ∧ v = .int .i64 i ∧ c = .int .i64 (cnt (xs.take i) (x1, x2)) ∧ Fr (fun _ => False) w0 wr) (fun _ v _ => xs.length - (intOf v).toNat)
  case atStart => exact ⟨0, Nat.zero_le _, rfl, rfl, Fr.refl _ _⟩
  case round =>
    obtain ⟨i, hi, rfl, rfl, hf⟩ := hrel
    have hb : Below w.heap.size w wr := hb0.trans (hf.toBelow _ (fun _ _ h => h) hb0.size)
    have hxr : wr.heap[w.heap.size]? = some (.cells #[.int .i64 x1, .int .i64 x2] 42 (0, 0)) := (hf.block _ (lt_of hx0) id).trans hx0
    by_cases hlt : i < xs.length
    · obtain ⟨g, cap, hv, hg, hc⟩ := h.get i hlt
      injection hv with hv1 _ hv2
      subst hv1; subst hv2
      have c1 := cell_of hxr 0
      have c2 := cell_of hxr 1
      simp only [List.getElem?_toArray, List.getElem?_cons_zero, List.getElem?_cons_succ] at c1 c2
      have k1 := (hb.cell (p := ⟨g, i * 2, none⟩) hg).trans (hc i hlt).1
      have k2 := (hb.cell (p := ⟨g, i * 2 + 1, none⟩) hg).trans (hc i hlt).2
      have hcs := cnt_snoc xs i hlt (x1, x2)
      have hcl : cnt (xs.take i) (x1, x2) ≤ 1000 := by
        have : (xs.take i).count (x1, x2) ≤ (xs.take i).length := List.count_le_length
        simp at this; unfold cnt; omega
      have HCS := Lib.hid hcs
      clear hcs hc c2
      have c2 := cell_of hxr 1
      simp only [List.getElem?_toArray, List.getElem?_cons_succ, List.getElem?_cons_zero] at c2
      by_cases e1 : (nth xs i).1 = x1
      · by_cases e2 : (nth xs i).2 = x2
        · have hcs' : cnt (xs.take (i + 1)) (x1, x2) = cnt (xs.take i) (x1, x2) + 1 := by rw [HCS.out, if_pos (Prod.ext e1 e2)]
          have HC := Lib.hid hcs'
          clear HCS hcs'
          subst e1; subst e2
          go_wp2_with fail
          refine Mix.region [0, 0, 0, 0, 0, 0] (fun _ => True) (by kernel_rfl) (by kernel_rfl) trivial ?_
          simp only [List.zip_cons_cons, List.zip_nil_right]
          iterate 6 (refine Mix.step0 fun K hK => ?_; go_simp; (try (go_bits; try go_simp)); first | ((with_reducible refine hK _ _ ?_); clear hK K) | ((try (simp only [IntWalk.iteOmega]; try go_simp)); (try go_bits); (with_reducible refine hK _ _ ?_); clear hK K))
          refine Mix.done ?_
          go_wp2_with fail
          go_roundw
          case rel => exact ⟨i + 1, by omega, by go_num, by rw [HC.out]; go_num, hf.to_drew⟩
          case measure => simp [intOf]; omega
        · have hcs' : cnt (xs.take (i + 1)) (x1, x2) = cnt (xs.take i) (x1, x2) := by rw [HCS.out, if_neg (fun e => e2 (by rw [e]))]; rfl
          have HC := Lib.hid hcs'
          clear HCS hcs'
          subst e1
          go_wp2_with fail
          refine Mix.region [0, 0, 0, 0, 0, 0] (fun _ => True) (by kernel_rfl) (by kernel_rfl) trivial ?_
          simp only [List.zip_cons_cons, List.zip_nil_right]
          iterate 6 (refine Mix.step0 fun K hK => ?_; go_simp; (try (go_bits; try go_simp)); first | ((with_reducible refine hK _ _ ?_); clear hK K) | ((try (simp only [IntWalk.iteOmega]; try go_simp)); (try go_bits); (with_reducible refine hK _ _ ?_); clear hK K))
          refine Mix.done ?_
          go_wp2_with fail
          go_roundw
          case rel => exact ⟨i + 1, by omega, by go_num, by rw [HC.out], hf.to_drew⟩
          case measure => simp [intOf]; omega
      · have hcs' : cnt (xs.take (i + 1)) (x1, x2) = cnt (xs.take i) (x1, x2) := by rw [HCS.out, if_neg (fun e => e1 (by rw [e]))]; rfl
        have HC := Lib.hid hcs'
        clear HCS hcs'
        go_wp2_with fail
        refine Mix.region [0, 0, 0, 0, 0, 0] (fun _ => True) (by kernel_rfl) (by kernel_rfl) trivial ?_
        simp only [List.zip_cons_cons, List.zip_nil_right]
        iterate 6 (refine Mix.step0 fun K hK => ?_; go_simp; (try (go_bits; try go_simp)); first | ((with_reducible refine hK _ _ ?_); clear hK K) | ((try (simp only [IntWalk.iteOmega]; try go_simp)); (try go_bits); (with_reducible refine hK _ _ ?_); clear hK K))
        refine Mix.done ?_
        go_wp2_with fail
        go_roundw
        case rel => exact ⟨i + 1, by omega, by go_num, by rw [HC.out], hf.to_drew⟩
        case measure => simp [intOf]; omega
    · go_wp2_with fail
      go_ret
      have hi' : i = xs.length := by omega
      subst hi'
      exact ⟨by rw [List.take_length]; rfl, hb⟩
end Go.Proofs.Ytellkmjbpaaclaa
