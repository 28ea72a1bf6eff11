/-
  A row of keys that is sorted in place: how it lies; a swap; less.
-/
import Derived.Test.YthcmkljdhhepgaaLD
import Derived.Test.YthcmkljdhhepgaaLC
import Derived.Test.YthcmkljdhhepgaaChecked
import Derived.Sort.AssemblyPlain
set_option linter.unusedVariables false
set_option linter.unusedSimpArgs false
namespace Go.Proofs.Ythcmkljdhhepgaa
open Go Go.RowKit Go.Mem Go.Sort
attribute [local go_sem] Oper.semAt_some
/-- A row of keys. -/
abbrev uT (g n c : Nat) (d : Array Int) : Thing := intsT .u64 28 (.slice (some ⟨g, 0, none⟩) n c) d.toList
section
variable {w0 w : World} {L : List Thing} {i g n c : Nat} {d : Array Int}
theorem uT_len (hs : Sep w0 w L) (hi : L[i]? = some (uT g n c d)) : n = d.size ∧ d.size ≤ maxLen := by
  have h := hs.rdInts i hi
  have h1 := h.len
  have h2 := h.le'
  rw [Array.length_toList] at h1 h2
  exact ⟨h1, h2⟩
theorem uT_cell (hs : Sep w0 w L) (hi : L[i]? = some (uT g n c d)) {k : Nat} (hk : k < d.size) : w.cell? ⟨g, k, none⟩ = some (.int .u64 d[k]!) := by
  obtain ⟨g', cg, eg, _, hcR, _⟩ := (hs.ints i hi).get k (by rw [Array.length_toList]; exact hk)
  injection eg with e1
  injection e1 with e1
  injection e1 with e1
  subst e1
  rw [hcR k (by rw [Array.length_toList]; exact hk)]
  congr 2
  rw [List.getD_eq_getElem?_getD, Array.getElem?_toList, Array.getElem?_eq_getElem hk, getElem!_pos d k hk]; rfl
theorem uT_frozen (hs : Sep w0 w L) (hi : L[i]? = some (uT g n c d)) (h0 : 0 < d.size) (k : Nat) : w.frozen? ⟨g, k, none⟩ = false := by
  obtain ⟨g', cg, eg, _, _, hf⟩ := (hs.ints i hi).get 0 (by rw [Array.length_toList]; exact h0)
  injection eg with e1
  injection e1 with e1
  injection e1 with e1
  subst e1
  exact hf k
theorem Sep.uSwp (hs : Sep w0 w L) (hi : L[i]? = some (uT g n c d)) (j k : Nat) : Sep w0 ((w.setCell ⟨g, j, none⟩ (.int .u64 d[k]!)).setCell ⟨g, k, none⟩ (.int .u64 d[j]!)) (L.set i (uT g n c (swp d j k))) := by
  have h1 := hs.setInts (k := .u64) (j := j) i hi d[k]!
  have h2 := h1.setInts (k := .u64) (j := k) i (by rw [List.getElem?_set_self (List.getElem?_eq_some_iff.1 hi).1]) d[j]!
  rw [List.set_set] at h2
  unfold swp uT
  rw [Array.toList_setIfInBounds, Array.toList_setIfInBounds]
  exact h2
end
theorem isNaN_u (x : Int) (w : World) : Calls Try.prog 75 #[.int .u64 x] w fun en w' => en = .returned (.bool false) ∧ w' = w := by
  go_enter Try.func75, Try.ntmps75
  go_wp2_with fail
  go_ret
  exact ⟨rfl, rfl⟩
theorem less_u (x y : Int) (w : World) : Calls Try.prog 65 #[.int .u64 x, .int .u64 y] w fun en w' => en = .returned (.bool (ltInt x y)) ∧ w' = w := by
  go_enter Try.func65, Try.ntmps65
  go_wp2_with fail
  refine (isNaN_u _ _).mono ?_
  rintro en w1 ⟨rfl, rfl⟩
  go_wp2_with fail
  go_ret
  exact ⟨rfl, rfl⟩
end Go.Proofs.Ythcmkljdhhepgaa
