/-
  Arguments: structs by value, slices of records, as the walks read them.
-/
import Derived.Test.YtfafecgnjjkagaaMemS
import Derived.Test.YtfafecgnjjkagaaRec
import Derived.Lib.SmallJoins
namespace Go.Mem
open Go Go.RowKit Go.ChangeShapes Go.WideShapes Go.Deep

theorem IsRec.rdG {α : Type} (R : Rec α) {ks : List IntKind} (mk : (Nat → Int) → α) (hm : R.m = ks.length) (hc : ∀ (f : Nat → Int) j k, ks[j]? = some k → (R.cells (mk f))[j]? = some (Value.int k (f j)))
    {w : World} {a : Option Addr} {len cap : Nat} {z : Nat → Nat → Int} (h : IsRec ks w a len cap z) :
    ∃ es : List α, len = es.length ∧ RdG R w (.slice a es.length cap) es ∧ ∀ (i : Nat) (hi : i < es.length) (q : Nat) (k : IntKind), ks[q]? = some k → ∃ n, (R.cells es[i])[q]? = some (Value.int k n) ∧ (Lit.int k n).wf = true := by
  have hpos := R.pos
  have hg := h.get (by omega)
  have hw := h.wf
  have hlen : ((List.range len).map fun i => mk (z i)).length = len := by simp
  refine ⟨(List.range len).map fun i => mk (z i), hlen.symm, ⟨a, cap, rfl, ?_, ?_, fun h0 => ?_⟩, fun i hi q k hq => ⟨z i q, by simp [hc _ _ _ hq], hw i (by rw [hlen] at hi; exact hi) q k hq⟩⟩
  · rw [hlen]
    rcases h with ⟨_, rfl, _⟩ | ⟨x, rfl, hl, hm, _⟩
    · simp
    · omega
  · rcases h with ⟨_, _, rfl⟩ | ⟨x, rfl, _⟩
    · exact fun _ => rfl
    · exact fun e => by cases e
  · rw [hlen] at h0
    obtain ⟨b, off, e, hb, hcell⟩ := hg 0 h0
    refine ⟨b, off, e, hb, fun i hi j hj => ?_⟩
    rw [hlen] at hi
    have hj' : j < ks.length := by omega
    have h2 := hcell i hi j ks[j] (by simp [hj'])
    rw [hm, Nat.add_assoc, h2]
    simp [hc _ j ks[j] (by simp [hj'])]

section
variable {H : Type} {enc : TypeId × Value → H} {P : Program} {w : World} {base : Nat} {spare : Nat → Bool} {held : Bool}
theorem slice_cell {t e : TypeId} {n : Nat} {c : Value} {y : DataW H × List MemPlace} (ht : P.underlying t = some (.slice e)) (h : DataW.trod enc P w base spare held n t [c] = some y) : ∃ a len cap, c = .slice a len cap := by
  rcases DataW.trod_slice ht h with ⟨hcs, _⟩ | ⟨a', len', cap', elems, rest, m, _, hcs, _⟩
  · simp at hcs; exact ⟨_, _, _, hcs⟩
  · simp at hcs; exact ⟨_, _, _, hcs⟩
theorem int_cell {t : TypeId} {k : IntKind} {n : Nat} {c : Value} {y : DataW H × List MemPlace} (ht : P.underlying t = some (.int k)) (h : DataW.trod enc P w base spare held n t [c] = some y) : ∃ x, c = .int k x ∧ (Lit.int k x).wf = true := by
  obtain ⟨q, hq, _, hw⟩ := DataW.trod_int ht h
  simp at hq
  exact ⟨q, hq, hw⟩
theorem open_row {t e : TypeId} {k : IntKind} {fuel : Nat} {a : Option Addr} {len cap : Nat} {x : DataW H × List MemPlace} (ht : P.underlying t = some (.slice e)) (he : P.underlying e = some (.int k)) (hc : P.cellsOf e = 1)
    (h : DataW.trod enc P w base (fun _ => true) held fuel t [.slice a len cap] = some x) : ∃ zs, Rd k w (.slice a len cap) zs ∧ ∀ x ∈ zs, (Lit.int k x).wf = true := by
  have hr : ∃ zs, IsRow k w a len cap zs := by
    rcases open_ints ht he hc h with ⟨hcs, _⟩ | ⟨x, l, c, zs, hcs, _, hl, hm, hz, _, hcell, hwz⟩
    · simp at hcs
      obtain ⟨rfl, rfl, rfl⟩ := hcs
      exact ⟨[], .inl ⟨rfl, rfl, rfl, rfl⟩⟩
    · simp at hcs
      obtain ⟨rfl, rfl, rfl⟩ := hcs
      exact ⟨zs, .inr ⟨_, rfl, hl, hm, by simpa using hz, hcell, hwz⟩⟩
  obtain ⟨zs, hz⟩ := hr
  exact ⟨zs.take len, hz.rd⟩
end
end Go.Mem
