/-
  BuildPlays, walked.
-/
import Derived.Test.YtjijhpflkkicaaaBE
import Derived.Test.YtjijhpflkkicaaaBB
import Derived.Test.YtjijhpflkkicaaaLA
set_option linter.unusedVariables false
set_option linter.unusedSimpArgs false
namespace Go.BuildP
open Go Go.RowKit Go.Mem Go.MoneyP Go.NetP
/-- What Round answers, in one. -/
def rN (rooms : List Int) (l : List Du) : Int := if rightR rooms l then rooms.length + 1 else 0
def rE (rooms : List Int) (l : List Du) (c : Bool) : List Ed := if rightR rooms l then edgesL rooms l c else []
def rI (rooms : List Int) (l : List Du) : List Int := if rightR rooms l then (openL l).map (·.id) else []
def rErr (rooms : List Int) (l : List Du) : Int := if rightR rooms l then 0 else 1
theorem payQ_of {rooms : List Int} {l : List Du} {c : Bool} {ps : List Int} (h : permitB rooms l c ps = true) : PayQ (openL l) ps := by
  simp only [permitB, Bool.and_eq_true, decide_eq_true_eq, permitQ] at h
  have hq := roundQ h.1.1 h.1.2
  exact ⟨h.1.2, fun q hq' => (hq.may q hq').1, h.2.1, hq.sum⟩
end Go.BuildP
namespace Go.Proofs.Ytjijhpflkkicaaa
open Go Go.RowKit Go.Mem Go.MoneyP Go.NetP Go.BuildP
/-- Round's answer, in one. -/
def RoundU (rooms : List Int) (l : List Du) (c : Bool) (w : World) (en : Ending) (w' : World) : Prop :=
  ∃ ae ce ai ci, en = .returned (.tuple #[.agg #[.int .i64 (rN rooms l), .slice ae (rE rooms l c).length ce], .slice ai (rI rooms l).length ci, .int .i64 (rErr rooms l)]) ∧ Sep w w' [recT edR 77 (.slice ae (rE rooms l c).length ce) (rE rooms l c), intsT .u64 42 (.slice ai (rI rooms l).length ci) (rI rooms l)]
end Go.Proofs.Ytjijhpflkkicaaa
