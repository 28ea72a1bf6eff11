/-
  The statements of solve: what Best answers; the chapter's example.
-/
import Derived.Test.YtjijhpflkkicaaaSW9
import Derived.Test.YtjijhpflkkicaaaCW5
set_option linter.unusedVariables false
set_option linter.unusedSimpArgs false
namespace Go.SolveP
open Go Go.Mem Go.NetP Go.RestP Go.CertP Go.PathP
/-- What Best answers. -/
def BD (nn : Int) (es : List Ed) (fl pot : List Int) (st er : Int) : Prop :=
  (rightB nn es = false ∧ fl = [] ∧ pot = [] ∧ st = 0 ∧ er = 1) ∨ (rightB nn es = true ∧ er = 0 ∧ ∃ S, Ph nn.toNat es (mostF es es.length) 0 S ∧ fl = S.fl ∧ pot = S.pot ∧ st = S.steps)
theorem BD.yes {nn : Int} {es : List Ed} {fl pot : List Int} {st er : Int} (h : BD nn es fl pot st er) (hr : rightB nn es = true) : er = 0 ∧ checkB nn es fl pot = true ∧ 0 ≤ st ∧ st ≤ 53 * es.length ∧ fl.length = es.length := by
  rcases h with ⟨a, _⟩ | ⟨a, rfl, S, hS, rfl, rfl, rfl⟩
  · rw [a] at hr; cases hr
  · have hn := (right_cap hr).1
    obtain ⟨N, rfl⟩ : ∃ N : Nat, nn = N := ⟨nn.toNat, by omega⟩
    rw [Int.toNat_natCast] at hS
    obtain ⟨h1, h2, h3, _⟩ := hS.check hr (most_none hr)
    have h5 := mostF_le es (fun j => (cap53 hr j).2) es.length
    have h6 : mostF es es.length * es.length ≤ 53 * es.length := Nat.mul_le_mul_right _ h5
    exact ⟨rfl, h1, by omega, by omega, h3⟩
theorem BD.no {nn : Int} {es : List Ed} {fl pot : List Int} {st er : Int} (h : BD nn es fl pot st er) (hr : rightB nn es = false) : er = 1 ∧ fl = [] ∧ pot = [] ∧ st = 0 := by
  rcases h with ⟨a, rfl, rfl, rfl, rfl⟩ | ⟨a, _⟩
  · exact ⟨rfl, rfl, rfl, rfl⟩
  · rw [a] at hr; cases hr
theorem check_cost {n : Int} {es : List Ed} {x p y q : List Int} (h : checkB n es x p = true) (h' : checkB n es y q = true) : costV n es x = costV n es y := by
  have f := h
  have f' := h'
  simp only [checkB, Bool.and_eq_true] at f f'
  exact Int.le_antisymm (best f'.1.1.2 h) (best f.1.1.2 h')
theorem BD.two {fl pot : List Int} {st er : Int} (h : BD 2 [⟨0, 1, 5, -2⟩, ⟨1, 0, 3, 0⟩] fl pot st er) : er = 0 ∧ checkB 2 [⟨0, 1, 5, -2⟩, ⟨1, 0, 3, 0⟩] fl pot = true ∧ costV 2 [⟨0, 1, 5, -2⟩, ⟨1, 0, 3, 0⟩] fl = -6 := by
  obtain ⟨h1, h2, _⟩ := h.yes (by decide)
  refine ⟨h1, h2, ?_⟩
  rw [check_cost h2 (show checkB 2 [⟨0, 1, 5, -2⟩, ⟨1, 0, 3, 0⟩] [3, 3] [0, -2] = true by decide)]
  decide
end Go.SolveP
namespace Go.Proofs.Ytjijhpflkkicaaa
open Go Go.RowKit Go.Mem Go.NetP Go.RestP Go.CertP Go.PathP Go.SolveP Go.Shelf
theorem best_uni (nn : Int) (a : Option Addr) (c : Nat) (es : List Ed) (w : World) (h : RdG edR w (.slice a es.length c) es) :
    Calls Try.prog 21 #[.agg #[.int .i64 nn, .slice a es.length c]] w fun e w' => ∃ af cf ap cp fl pot st er, BD nn es fl pot st er ∧ e = .returned (.tuple #[.agg #[.slice af fl.length cf, .slice ap pot.length cp], .int .i64 st, .int .i64 er]) ∧
      Sep w w' [intsT .i64 2 (.slice af fl.length cf) fl, intsT .i64 2 (.slice ap pot.length cp) pot] := by
  refine (best_any nn a c es w h).mono ?_
  rintro e w' (⟨h1, rfl, hb⟩ | ⟨h1, S, vf, vp, hS, rfl, hs⟩)
  · exact ⟨none, 0, none, 0, [], [], 0, 1, .inl ⟨h1, rfl, rfl, rfl, rfl⟩, rfl, ((Sep.ofBelow hb).nilInts .i64 _).nilInts .i64 _⟩
  · obtain ⟨af, cf, rfl⟩ := (hs.rdInts 0 rfl).shape
    obtain ⟨ap, cp, rfl⟩ := (hs.rdInts 1 rfl).shape
    exact ⟨af, cf, ap, cp, S.fl, S.pot, S.steps, 0, .inr ⟨h1, rfl, S, hS, rfl, rfl, rfl⟩, rfl, hs⟩
end Go.Proofs.Ytjijhpflkkicaaa
