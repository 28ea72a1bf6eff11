/-
 OffsetTurned, walked.
-/
import Derived.Test.YtjijhpflkkicaaaOPlaysW
import Derived.Test.YtjijhpflkkicaaaOF
set_option linter.unusedVariables false
set_option linter.unusedSimpArgs false
namespace Go.OffP
open Go Go.Mem Go.MoneyP Go.BuildP
theorem may29_parts {n : Int} {l : List Du} (h : may29 n l = true) : (0 ≤ n ∧ n ≤ 16) ∧ allB l = true ∧ belowB n l = true := by
 unfold may29 at h
 simp only [Bool.and_eq_true, decide_eq_true_eq] at h
 exact ⟨⟨h.1.1.1, h.1.1.2⟩, h.1.2, h.2⟩
theorem may29_nets {n : Int} {l : List Du} (h : may29 n l = true) : netsE n l = 0 ∨ netsE n l = 13 := by
 obtain ⟨h1, h2, h3⟩ := may29_parts h
 rw [netsE_sum h1 h2 h3]
 split
 ·right; rfl
 ·left; rfl
theorem good_open {n : Nat} {l : List Du} (h : GoodN n l) : ∀ d ∈ openL l, MayD d ∧ d.f < n ∧ d.t < n := fun d hd => ⟨h.may d (open_mem hd), h.inn d (open_mem hd)⟩
theorem tableM_len (n : Nat) (O : List Du) : (tableM n O).length = n := by unfold tableM; simp
end Go.OffP
namespace Go.Proofs.Ytjijhpflkkicaaa
open Go Go.RowKit Go.Mem Go.MoneyP Go.NetP Go.BuildP Go.OffP Go.Shelf
/-- One cell of a table. -/
theorem GridR.two {W : World} {A : Option Addr} {n c : Nat} {O : List Du} (h : GridR W (.slice A n c) (tableM 16 O)) {a b : Nat} (ha : a < 16) (hb : b < 16) :
  ∃ b0 o0 b1 o1 c1, A = some ⟨b0, o0, none⟩ ∧ W.cell? ⟨b0, o0 + a, none⟩ = some (.slice (some ⟨b1, o1, none⟩) 16 c1) ∧ W.cell? ⟨b1, o1 + b, none⟩ = some (.int .i64 (owesS O a b)) := by
 obtain ⟨_, h2⟩ := gridR_at h
 obtain ⟨s, b0, o0, e, hc, hr⟩ := h2 a (by rw [tableM_len]; exact ha)
 have e2 : (tableM 16 O)[a]'(by rw [tableM_len]; exact ha) = owesRow 16 O a := by unfold tableM; simp
 rw [e2] at hr
 have hn := hr.len
 rw [owesRow_len] at hn
 obtain ⟨b1, o1, e1, _, hc1⟩ := hr.at b (by rw [owesRow_len]; exact hb)
 rw [rowM_at hb] at hc1
 refine ⟨b0, o0, b1, o1, s.c, e, ?_, hc1⟩
 rw [hc, e1, hn]
theorem GridR.len16 {W : World} {A : Option Addr} {n c : Nat} {O : List Du} (h : GridR W (.slice A n c) (tableM 16 O)) : n = 16 := by
 rw [(gridR_at h).1, tableM_len]
theorem GridR.shape {W : World} {v : Value} {M : List (List Int)} (h : GridR W v M) : ∃ A n c, v = .slice A n c := by
 obtain ⟨G, _, h2, _⟩ := h
 obtain ⟨a, c, e⟩ := h2.shape
 exact ⟨a, _, c, e⟩
end Go.Proofs.Ytjijhpflkkicaaa
