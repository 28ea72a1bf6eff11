/-
 OffsetAgain, walked.
-/
import Derived.Test.YtjijhpflkkicaaaOTurnW
set_option linter.unusedVariables false
set_option linter.unusedSimpArgs false
namespace Go.OffP
open Go Go.Mem Go.MoneyP Go.BuildP
/-- The first part of each pay .. -/
def fstP (zs P : List Int) (k : Nat) : Int := if k < zs.length ∧ 1 < P.getD k 0 then zs.getD k 0 % P.getD k 0 else 0
def firstL (zs P : List Int) (i : Nat) : List Int := (List.range P.length).map fun k => if k < i then fstP zs P k else 0
/-- .. and the second one. -/
def sndP (zs P : List Int) (k : Nat) : Int := P.getD k 0 - fstP zs P k
def secondL (zs P : List Int) (i : Nat) : List Int := (List.range i).map (sndP zs P)
end Go.OffP
namespace Go.Proofs.Ytjijhpflkkicaaa
open Go Go.RowKit Go.Mem Go.MoneyP Go.NetP Go.BuildP Go.OffP Go.Shelf
theorem LeftD.yes {l : List Du} {ps : List Int} {w w' : World} {en : Ending} (h : LeftD l ps w en w') (h0 : leftE l ps = 0) : ∃ v, en = .returned (.tuple #[v, .int .i64 0]) ∧ Sep w w' [recT duR 44 v (leftL l ps)] := by
 rcases h with ⟨h1, _, _⟩ | ⟨_, v, rfl, hs⟩
 ·exact absurd h0 h1
 ·exact ⟨v, rfl, hs⟩
theorem PaysD.yes {n : Int} {l : List Du} {w w' : World} {en : Ending} (h : PaysD n l w en w') (h0 : netsE n l = 0) : ∃ v, en = .returned (.tuple #[v, .int .i64 0]) ∧ Sep w w' [intsT .i64 2 v (paysL n.toNat (openL l))] := by
 rcases h with ⟨h1, _, _⟩ | ⟨_, v, rfl, hs⟩
 ·exact absurd h0 h1
 ·exact ⟨v, rfl, hs⟩
theorem RingsD.yes {n : Int} {l : List Du} {w w' : World} {en : Ending} (h : RingsD n l w en w') (h0 : netsE n l = 0) : ∃ (v : Value) (ps : List Int) (r : Nat), en = .returned (.tuple #[v, .int .i64 r, .int .i64 0]) ∧ RingsR (openL l) ps r ∧ Sep w w' [intsT .i64 2 v ps] := by
 rcases h with ⟨h1, _, _⟩ | ⟨_, v, ps, r, rfl, hr, hs⟩
 ·exact absurd h0 h1
 ·exact ⟨v, ps, r, rfl, hr, hs⟩
theorem good_x {n : Nat} {l : List Du} (h : GoodN n l) : ∀ d ∈ l, d.x ≤ 9223372036854775807 := fun d hd => by have := (h.may d hd).x1; omega
end Go.Proofs.Ytjijhpflkkicaaa
