/-
  OffsetPlays, walked.
-/
import Derived.Test.YtjijhpflkkicaaaOW21
import Derived.Test.YtjijhpflkkicaaaOC
set_option linter.unusedVariables false
set_option linter.unusedSimpArgs false
namespace Go.OffP
open Go Go.Mem Go.MoneyP Go.BuildP
def tabR (n : Int) (l : List Du) : List (List Int) := if netsE n l = 0 then tableM n.toNat (openL l) else []
def payR (n : Int) (l : List Du) : List Int := if netsE n l = 0 then paysL n.toNat (openL l) else []
def lftR (l : List Du) (ps : List Int) : List Du := if leftE l ps = 0 then leftL l ps else []
end Go.OffP
namespace Go.Proofs.Ytjijhpflkkicaaa
open Go Go.RowKit Go.Mem Go.MoneyP Go.NetP Go.BuildP Go.OffP Go.Shelf
theorem TableD.uni {n : Int} {l : List Du} {w w' : World} {en : Ending} (h : TableD n l w en w') : ∃ v, en = .returned (.tuple #[v, .int .i64 (netsE n l)]) ∧ GridR w' v (tabR n l) ∧ Below w.heap.size w w' := by
  unfold tabR
  rcases h with ⟨h0, rfl, hb⟩ | ⟨h0, v, rfl, G, hG, hs⟩
  · rw [if_neg h0]; exact ⟨_, rfl, GridR.nil _, hb⟩
  · rw [if_pos h0, h0, ← hG]
    exact ⟨v, rfl, Sep.gridR (L := []) (by rw [List.append_nil]; exact hs), hs.below⟩
end Go.Proofs.Ytjijhpflkkicaaa
