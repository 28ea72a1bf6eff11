/-
  The statements of solve: what Best answers; the chapter's example.
-/
import Derived.Test.YtacbfpgijmpilaaSW9
import Derived.Test.YtacbfpgijmpilaaCW5
set_option linter.unusedVariables false
set_option linter.unusedSimpArgs false
namespace Go.SolveP
open Go Go.Mem Go.NetP Go.RestP Go.CertP Go.PathP
/-- What Best answers. -/
def BD (nn : Int) (es : List Ed) (fl pot : List Int) (st er : Int) : Prop :=
  (rightB nn es = false ∧ fl = [] ∧ pot = [] ∧ st = 0 ∧ er = 1) ∨ (rightB nn es = true ∧ er = 0 ∧ ∃ S, Ph nn.toNat es (mostF es es.length) 0 S ∧ fl = S.fl ∧ pot = S.pot ∧ st = S.steps)
theorem BD.det {nn : Int} {es : List Ed} {fl pot fl' pot' : List Int} {st er st' er' : Int} (h : BD nn es fl pot st er) (h' : BD nn es fl' pot' st' er') : fl = fl' ∧ pot = pot' ∧ st = st' ∧ er = er' := by
  rcases h with ⟨a, rfl, rfl, rfl, rfl⟩ | ⟨a, rfl, S, hS, rfl, rfl, rfl⟩
  · rcases h' with ⟨b, rfl, rfl, rfl, rfl⟩ | ⟨b, _⟩
    · exact ⟨rfl, rfl, rfl, rfl⟩
    · rw [a] at b; cases b
  · rcases h' with ⟨b, _⟩ | ⟨b, rfl, S', hS', rfl, rfl, rfl⟩
    · rw [a] at b; cases b
    · obtain rfl := hS.det S' hS'
      exact ⟨rfl, rfl, rfl, rfl⟩
theorem BD.yes {nn : Int} {es : List Ed} {fl pot : List Int} {st er : Int} (h : BD nn es fl pot st er) (hr : rightB nn es = true) : er = 0 ∧ checkB nn es fl pot = true ∧ 0 ≤ st ∧ st ≤ 53 * es.length ∧ fl.length = es.length := by
  rcases h with ⟨a, _⟩ | ⟨a, rfl, S, hS, rfl, rfl, rfl⟩
  · rw [a] at hr; cases hr
  · have hn := (right_cap hr).1
    obtain ⟨N, rfl⟩ : ∃ N : Nat, nn = N := ⟨nn.toNat, by omega⟩
    rw [Int.toNat_natCast] at hS
    obtain ⟨h1, h2, h3, _⟩ := hS.check hr (most_none hr)
    have h5 := mostF_le es (fun j => (cap53 hr j).2) es.length
    have h6 : mostF es es.length * es.length ≤ 53 * es.length := Nat.mul_le_mul_right _ h5
    exact ⟨rfl, h1, by omega, by omega, h3⟩
theorem BD.no {nn : Int} {es : List Ed} {fl pot : List Int} {st er : Int} (h : BD nn es fl pot st er) (hr : rightB nn es = false) : er = 1 ∧ fl = [] ∧ pot = [] ∧ st = 0 := by
  rcases h with ⟨a, rfl, rfl, rfl, rfl⟩ | ⟨a, _⟩
  · exact ⟨rfl, rfl, rfl, rfl⟩
  · rw [a] at hr; cases hr
theorem check_cost {n : Int} {es : List Ed} {x p y q : List Int} (h : checkB n es x p = true) (h' : checkB n es y q = true) : costV n es x = costV n es y := by
  have f := h
  have f' := h'
  simp only [checkB, Bool.and_eq_true] at f f'
  exact Int.le_antisymm (best f'.1.1.2 h) (best f.1.1.2 h')
theorem BD.two {fl pot : List Int} {st er : Int} (h : BD 2 [⟨0, 1, 5, -2⟩, ⟨1, 0, 3, 0⟩] fl pot st er) : er = 0 ∧ checkB 2 [⟨0, 1, 5, -2⟩, ⟨1, 0, 3, 0⟩] fl pot = true ∧ costV 2 [⟨0, 1, 5, -2⟩, ⟨1, 0, 3, 0⟩] fl = -6 := by
  obtain ⟨h1, h2, _⟩ := h.yes (by decide)
  refine ⟨h1, h2, ?_⟩
  rw [check_cost h2 (show checkB 2 [⟨0, 1, 5, -2⟩, ⟨1, 0, 3, 0⟩] [3, 3] [0, -2] = true by decide)]
  decide
end Go.SolveP
namespace Go.Proofs.Ytacbfpgijmpilaa
open Go Go.RowKit Go.Mem Go.NetP Go.RestP Go.CertP Go.PathP Go.SolveP Go.Shelf
theorem best_uni (nn : Int) (a : Option Addr) (c : Nat) (es : List Ed) (w : World) (h : RdG edR w (.slice a es.length c) es) :
    Calls Try.prog 10 #[.agg #[.int .i64 nn, .slice a es.length c]] w fun e w' => ∃ af cf ap cp fl pot st er, BD nn es fl pot st er ∧ e = .returned (.tuple #[.agg #[.slice af fl.length cf, .slice ap pot.length cp], .int .i64 st, .int .i64 er]) ∧
      Sep w w' [intsT .i64 2 (.slice af fl.length cf) fl, intsT .i64 2 (.slice ap pot.length cp) pot] := by
  refine (best_any nn a c es w h).mono ?_
  rintro e w' (⟨h1, rfl, hb⟩ | ⟨h1, S, vf, vp, hS, rfl, hs⟩)
  · exact ⟨none, 0, none, 0, [], [], 0, 1, .inl ⟨h1, rfl, rfl, rfl, rfl⟩, rfl, ((Sep.ofBelow hb).nilInts .i64 _).nilInts .i64 _⟩
  · obtain ⟨af, cf, rfl⟩ := (hs.rdInts 0 rfl).shape
    obtain ⟨ap, cp, rfl⟩ := (hs.rdInts 1 rfl).shape
    exact ⟨af, cf, ap, cp, S.fl, S.pot, S.steps, 0, .inr ⟨h1, rfl, S, hS, rfl, rfl, rfl⟩, rfl, hs⟩
set_option maxRecDepth 100000 in
set_option maxHeartbeats 400000 in
theorem works_any (w : World) : Calls Try.prog 9 #[] w fun en w' => en = .returned (.bool true) ∧ Below w.heap.size w w' := by
  have hs := ((Sep.start w).litRecs edR 34 [⟨0, 1, 5, -2⟩, ⟨1, 0, 3, 0⟩] (by simp [maxLen])).newCells #[.int .i64 2, .slice (some ⟨w.heap.size, 0, none⟩) 2 2] 24
  replace hs : Sep w ((w.alloc (.cells #[.int .i64 0, .int .i64 1, .int .i64 5, .int .i64 (-2), .int .i64 1, .int .i64 0, .int .i64 3, .int .i64 0] 34)).alloc (.cells #[.int .i64 2, .slice (some ⟨w.heap.size, 0, none⟩) 2 2] 24)) [cellsT (w.heap.size + 1) #[.int .i64 2, .slice (some ⟨w.heap.size, 0, none⟩) 2 2] 24, recT edR 34 (.slice (some ⟨w.heap.size, 0, none⟩) 2 2) [⟨0, 1, 5, -2⟩, ⟨1, 0, 3, 0⟩]] := by
    simp only [World.size_alloc] at hs
    exact hs
  go_enter Try.func9, Try.ntmps9
  have n0 := cell_of (hs.cells 0 rfl) 0
  have n1 := cell_of (hs.cells 0 rfl) 1
  simp only [List.getElem?_toArray, List.getElem?_cons_zero, List.getElem?_cons_succ] at n0 n1
  go_wp2_with fail
  refine (best_uni 2 _ _ [⟨0, 1, 5, -2⟩, ⟨1, 0, 3, 0⟩] _ (hs.rdRecs 1 rfl)).mono ?_
  rintro en w1 ⟨af, cf, ap, cp, fl, pot, st, er, hbd, rfl, k1⟩
  obtain ⟨he, hck, hco⟩ := hbd.two
  subst he
  have HCK := Lib.hid hck
  have HCO := Lib.hid hco
  clear hbd hck hco n0 n1
  have hs1 := (hs.join k1).newCells #[.slice af fl.length cf, .slice ap pot.length cp] 29
  simp only [List.cons_append, List.nil_append] at hs1
  clear hs k1
  go_upto_region 3 with fail
  obtain ⟨B2, hB2⟩ : ∃ B2, B2 = w1.heap.size := ⟨_, rfl⟩
  rw [← hB2] at hs1 ⊢
  clear hB2
  generalize World.alloc w1 _ = W2 at hs1 ⊢
  go_wp2_with fail
  refine (best_uni 0 none 0 [] _ (((Sep.start _).nilRecs edR 34).rdRecs 0 rfl)).mono ?_
  rintro en w3 ⟨af', cf', ap', cp', fl', pot', st', er', hbd, rfl, k1⟩
  obtain ⟨rfl, rfl, rfl, rfl⟩ := hbd.no (by decide)
  simp only [List.length_nil] at k1 ⊢
  have hs := (hs1.join k1).newCells #[.slice af' 0 cf', .slice ap' 0 cp'] 29
  simp only [List.cons_append, List.nil_append] at hs
  clear hs1 k1 hbd
  go_upto_region 4 with fail
  generalize World.alloc w3 _ = W4 at hs ⊢
  have n0 := cell_of (hs.cells 6 rfl) 0
  have n1 := cell_of (hs.cells 6 rfl) 1
  have c0 := cell_of (hs.cells 3 rfl) 0
  have c1 := cell_of (hs.cells 3 rfl) 1
  simp only [List.getElem?_toArray, List.getElem?_cons_zero, List.getElem?_cons_succ] at n0 n1 c0 c1
  go_wp2_with fail
  refine (rcheck_any 2 _ _ [⟨0, 1, 5, -2⟩, ⟨1, 0, 3, 0⟩] _ fl _ pot _ (hs.rdRecs 7 rfl) (hs.rdInts 4 rfl) (hs.rdInts 5 rfl)).mono ?_
  rintro en w5 ⟨rfl, hb⟩
  rw [HCK.out]
  have hs2 := hs.belowStep hb
  clear hs hb n0 n1 c0 c1
  have hs := hs2
  clear hs2
  have n0 := cell_of (hs.cells 6 rfl) 0
  have n1 := cell_of (hs.cells 6 rfl) 1
  have c0 := cell_of (hs.cells 3 rfl) 0
  have c1 := cell_of (hs.cells 3 rfl) 1
  simp only [List.getElem?_toArray, List.getElem?_cons_zero, List.getElem?_cons_succ] at n0 n1 c0 c1
  go_wp2_with fail
  refine (rcost_any 2 _ _ [⟨0, 1, 5, -2⟩, ⟨1, 0, 3, 0⟩] _ fl _ (hs.rdRecs 7 rfl) (hs.rdInts 4 rfl)).mono ?_
  rintro en w6 ⟨rfl, hb⟩
  rw [HCO.out]
  have hs2 := hs.belowStep hb
  clear hs hb n0 n1 c0 c1
  go_wp2_with fail
  go_ret
  exact ⟨rfl, hs2.below⟩
end Go.Proofs.Ytacbfpgijmpilaa
