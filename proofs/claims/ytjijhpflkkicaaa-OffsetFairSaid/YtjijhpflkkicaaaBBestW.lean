/-
  BuildBest, walked.
-/
import Derived.Test.YtjijhpflkkicaaaBPlaysW
import Derived.Test.YtjijhpflkkicaaaBFlP
import Derived.Test.YtjijhpflkkicaaaSWk
set_option linter.unusedVariables false
set_option linter.unusedSimpArgs false
namespace Go.Mem
open Go Go.RowKit
theorem IOwn.cap {k : IntKind} {E : TypeId} {w : World} {v : Value} {zs : List Int} (h : IOwn k E w v zs) : ∀ a n c, v = .slice a n c → n ≤ c := by
  intro a n c e
  rcases h.2 with ⟨rfl, h0⟩ | ⟨g, cap, cur, rfl, hb, hgg, hnc, hcm, rest⟩
  · injection e with _ e1 e2; omega
  · injection e with _ e1 e2; omega
end Go.Mem
namespace Go.BuildP
open Go Go.Mem Go.NetP Go.MoneyP Go.CertP
/-- The theorem: what the best flow pays is permitted, and no rival is worth more. -/
theorem best_pays {rooms : List Int} {l : List Du} {c : Bool} {fl pot : List Int} (h : rightR rooms l = true) (hck : checkB (rooms.length + 1) (edgesL rooms l c) fl pot = true) :
    permitB rooms l c (fl.take (openL l).length) = true ∧ (openL l).length ≤ fl.length ∧ ∀ rv, permitB rooms l c rv = true → worthQ ((openL l).zip rv) ≤ worthQ ((openL l).zip (fl.take (openL l).length)) := by
  have hf : flowsB (rooms.length + 1) (edgesL rooms l c) fl = true := by
    simp only [checkB, Bool.and_eq_true] at hck; exact hck.1.1.2
  obtain ⟨h1, h2, h3⟩ := flows_pay h hf
  refine ⟨h1, h2, fun rv hrv => ?_⟩
  obtain ⟨g1, g2⟩ := pay_flows hrv
  have := best g1 hck
  omega
end Go.BuildP
namespace Go.Proofs.Ytjijhpflkkicaaa
open Go Go.RowKit Go.Mem Go.MoneyP Go.NetP Go.BuildP Go.CertP
end Go.Proofs.Ytjijhpflkkicaaa
