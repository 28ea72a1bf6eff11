/-
  Arguments: slices of structs of any fields, as the walks read them.
-/
import Derived.Test.YtlbpkfjebaelpaaArgs
namespace Go.Mem
open Go Go.RowKit Go.ChangeShapes Go.WideShapes Go.Deep

section
variable {H : Type} {enc : TypeId × Value → H} {P : Program} {w : World} {base : Nat} {spare : Nat → Bool} {held : Bool}
/-- A slice of elements of any form: 'Ok' is what is known of each. -/
theorem open_elems {α : Type} [Inhabited α] (R : Rec α) (Ok : α → Prop) {t e : TypeId} {fuel : Nat} {a : Option Addr} {len cap : Nat} {x : DataW H × List MemPlace} (ht : P.underlying t = some (.slice e)) (hC : P.cellsOf e = R.m)
    (hl : ∀ n cs y, DataW.trod enc P w base spare held n e cs = some y → ∃ x : α, cs = R.cells x ∧ Ok x) (h : DataW.trod enc P w base spare held fuel t [.slice a len cap] = some x) :
    ∃ xs : List α, len = xs.length ∧ RdG R w (.slice a xs.length cap) xs ∧ ∀ x ∈ xs, Ok x := by
  rcases Go.Deep.open_slice ht h with ⟨hcs, _⟩ | ⟨a', len', cap', m, n, D, Pl, hcs, _, hle, hm, hmm, _, hi⟩
  · simp at hcs
    obtain ⟨rfl, rfl, rfl⟩ := hcs
    exact ⟨[], rfl, RdG.nil R w, fun _ h => by simp at h⟩
  · simp at hcs
    obtain ⟨rfl, rfl, rfl⟩ := hcs
    have hlm : len ≤ m := by rw [hmm]; split <;> omega
    have key : ∀ i, ∃ x : α, i < len → Ok x ∧ ∀ j, j < R.m → w.cell? (a'.add (i * R.m + j)) = (R.cells x)[j]? := by
      intro i
      by_cases hil : i < len
      · obtain ⟨cs', hc, htr⟩ := hi i (by omega)
        rw [hC] at hc
        obtain ⟨x, hx, hok⟩ := hl _ _ _ htr
        obtain ⟨_, hcl, hat⟩ := World.cells?_some hc
        refine ⟨x, fun _ => ⟨hok, fun j hj => ?_⟩⟩
        rw [← Go.Deep.add_add, hat j hj, hx]
      · exact ⟨default, fun h => absurd h hil⟩
    have hlen : ((List.range len).map fun i => Classical.choose (key i)).length = len := by simp
    refine ⟨(List.range len).map fun i => Classical.choose (key i), hlen.symm, ?_, fun x hx => ?_⟩
    · refine ⟨some a', cap, rfl, by rw [hlen]; omega, (fun e => by cases e), fun h0 => ?_⟩
      rw [hlen] at h0
      have h1 := (Classical.choose_spec (key 0) h0).2 0 R.pos
      have hp : 0 < (R.cells (Classical.choose (key 0))).length := by rw [R.len]; exact R.pos
      rw [List.getElem?_eq_getElem hp] at h1
      obtain ⟨b, off, spot⟩ := a'
      have hspot : spot = none := by simpa [Addr.add] using World.cell?_spot h1
      subst hspot
      rw [Go.WideShapes.add_plain] at h1
      refine ⟨b, off, rfl, World.block_lt_of_cell? w _ h1, fun i hi j hj => ?_⟩
      rw [hlen] at hi
      have h2 := (Classical.choose_spec (key i) hi).2 j hj
      rw [Go.WideShapes.add_plain] at h2
      rw [Nat.add_assoc, h2]
      simp
    · obtain ⟨i, hi, rfl⟩ := List.mem_map.1 hx
      exact (Classical.choose_spec (key i) (List.mem_range.1 hi)).1
/-- A field of a struct. -/
theorem field_cells {e : TypeId} {fs : Array Field} (he : P.underlying e = some (.struct fs)) {n : Nat} {cs : List Value} {y : DataW H × List MemPlace} (h : DataW.trod enc P w base spare held n e cs = some y) :
    cs.length = P.cellsOf e ∧ ∀ (j : Nat) (f : Field), fs[j]? = some f → ∃ n y, DataW.trod enc P w base spare held n f.type ((cs.drop f.offset).take (P.cellsOf f.type)) = some y := by
  obtain ⟨xs, n', _, _, hlen, hxl, hf⟩ := DataW.trod_struct he h
  refine ⟨hlen, fun j f hj => ?_⟩
  have h1 := hf j f hj
  have hjl : j < xs.length := by have := (Array.getElem?_eq_some_iff.1 hj).1; omega
  rw [List.getElem?_eq_getElem hjl] at h1
  exact ⟨n', _, h1⟩
theorem one_drop {cs : List Value} {j : Nat} (hj : j < cs.length) : (cs.drop j).take 1 = [cs[j]] := by rw [List.drop_eq_getElem_cons hj]; rfl
theorem bool_cell {t : TypeId} {n : Nat} {c : Value} {y : DataW H × List MemPlace} (ht : P.underlying t = some .bool) (h : DataW.trod enc P w base spare held n t [c] = some y) : ∃ x, c = .bool x := by
  cases n with
  | zero => simp [DataW.trod] at h
  | succ n =>
    unfold DataW.trod at h
    rw [ht] at h
    split at h <;> simp_all
end
end Go.Mem
