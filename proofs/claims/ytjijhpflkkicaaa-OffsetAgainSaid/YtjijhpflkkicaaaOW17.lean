/-
  A field of a record in a window; appends where there is room, as equations.
-/
import Derived.Test.YtjijhpflkkicaaaOW16
import Derived.Test.YtjijhpflkkicaaaWin
import Derived.Test.YtjijhpflkkicaaaWin2
import Derived.Test.YtjijhpflkkicaaaMix5
import Derived.Test.YtjijhpflkkicaaaObj
import Derived.ArgAppend
set_option linter.unusedVariables false
set_option linter.unusedSimpArgs false
namespace Go.Mem
open Go Go.RowKit
section
variable {α : Type} {R : Rec α} {w w0 : World} {L : List Thing} {xs : List α} {g n cap : Nat}
theorem WOwn.inCap (h : WOwn R w (.slice (some ⟨g, 0, none⟩) n cap) xs) : xs.length ≤ cap ∧ cap ≤ maxLen ∧ g < w.heap.size ∧ (∀ j, j < cap * R.m → (w.cell? ⟨g, j, none⟩).isSome = true) ∧ (∀ j, w.frozen? ⟨g, j, none⟩ = false) ∧ ∀ j, j < xs.length * R.m → w.cell? ⟨g, j, none⟩ = (R.flat xs)[j]? := by
  rcases h with ⟨e, _⟩ | ⟨g', off', cap', e, h1, h2, hg, h3, h4, h5⟩
  · cases e
  · injection e with e1 e2 e3
    injection e1 with e1
    injection e1 with e1 e4 _
    subst e1; subst e2; subst e3; subst e4
    refine ⟨h1, h2, hg, fun j hj => ?_, h4, fun j hj => ?_⟩
    · have := h3 j hj
      rwa [Nat.zero_add] at this
    · have := h5 j hj
      rwa [Nat.zero_add] at this
theorem cell_set1 (w : World) (g o j : Nat) (u : Value) (h : (w.cell? ⟨g, o, none⟩).isSome = true) : (w.setCell ⟨g, o, none⟩ u).cell? ⟨g, j, none⟩ = if j = o then some u else w.cell? ⟨g, j, none⟩ := by
  by_cases e : j = o
  · subst e
    rw [if_pos rfl]
    have := World.cell?_setCells_in g [u] j w (fun q hq => by
      have : q = 0 := by simpa using hq
      subst this; exact h) 0 (by simp)
    exact this
  · rw [if_neg e]
    have := World.cell?_setCells_out g [u] o w ⟨g, j, none⟩ (fun _ _ => by simp; omega)
    exact this
theorem WOwn.setField (h : WOwn R w (.slice (some ⟨g, 0, none⟩) n cap) xs) (k : Nat) (hk : k < xs.length) (o : Nat) (ho : o < R.m) (y : α) (u : Value) (hy : R.cells y = (R.cells xs[k]).set o u) :
    WOwn R (w.setCell ⟨g, k * R.m + o, none⟩ u) (.slice (some ⟨g, 0, none⟩) n cap) (xs.set k y) := by
  obtain ⟨h1, h2, hg, h3, h4, h5⟩ := h.inCap
  have hn : n = xs.length := by
    rcases h with ⟨e, _⟩ | ⟨_, _, _, e, _⟩
    · cases e
    · injection e
  have hkm : k * R.m + R.m ≤ xs.length * R.m := by
    have : (k + 1) * R.m ≤ xs.length * R.m := Nat.mul_le_mul_right _ hk
    rwa [Nat.add_mul, Nat.one_mul] at this
  have hcm : xs.length * R.m ≤ cap * R.m := Nat.mul_le_mul_right _ h1
  have hs1 := h3 (k * R.m + o) (by omega)
  refine .inr ⟨g, 0, cap, by rw [List.length_set, hn], by rw [List.length_set]; exact h1, h2, Nat.lt_of_lt_of_le hg (Fr.set1 w g _ u).size, fun j hj => ?_, fun j => ?_, fun j hj => ?_⟩
  · rw [Nat.zero_add, cell_set1 _ _ _ _ _ hs1]
    split
    · rfl
    · exact h3 j hj
  · have := World.frozen?_setCells g [u] (k * R.m + o) w ⟨g, j, none⟩
    have e : w.setCells g (k * R.m + o) [u] = w.setCell ⟨g, k * R.m + o, none⟩ u := rfl
    rw [e] at this
    rw [this]; exact h4 j
  · rw [List.length_set] at hj
    rw [Nat.zero_add, cell_set1 _ _ _ _ _ hs1, R.flat_set xs k hk o y u ho hy, List.getElem?_set]
    by_cases e : j = k * R.m + o
    · rw [if_pos e, if_pos e.symm, if_pos (by rw [R.flat_length]; omega)]
    · rw [if_neg e, if_neg (fun q => e q.symm)]; exact h5 j hj
theorem Sep.setRowW (h : Sep w0 w L) (i : Nat) (hi : L[i]? = some (winT R (.slice (some ⟨g, 0, none⟩) n cap) xs)) (k : Nat) (hk : k < xs.length) (o : Nat) (ho : o < R.m) (y : α) (u : Value) (hy : R.cells y = (R.cells xs[k]).set o u) :
    Sep w0 (w.setCell ⟨g, k * R.m + o, none⟩ u) (L.set i (winT R (.slice (some ⟨g, 0, none⟩) n cap) (xs.set k y))) :=
  h.turn i hi fun S hS => by
    obtain ⟨rfl, hS⟩ := hS
    exact ⟨_, ⟨rfl, hS.setField k hk o ho y u hy⟩, Fr.setCell _ _ _ rfl, fun j hj => .inl hj⟩
/-- 'append(s[:c], x)' where there is room, of records. -/
theorem run_appRoomW {P : Program} (t ty e : TypeId) (i : TypeInfo) (ht : P.underlying t = some (.slice e)) (hi : P.info? e = some i) (hsize : i.size = R.m) (hs : Sep w0 w L) (j : Nat) (hj : L[j]? = some (winT R (.slice (some ⟨g, 0, none⟩) n cap) xs)) (c : Nat) (hc : c < xs.length) (q : α) (B m' : Nat) (cs : Array Value) (hcs : cs = (R.cells q).toArray) (hB : w.heap[B]? = some (.cells cs e (0, 0))) :
    ∃ w', (Builtin.append_ #[t, t] ty #[.slice (some ⟨g, 0, none⟩) c cap, .slice (some ⟨B, 0, none⟩) 1 m']).run P w = .ok (.slice (some ⟨g, 0, none⟩) (c + 1) cap) w' ∧ Sep w0 w' (L.set j (winT R (.slice (some ⟨g, 0, none⟩) n cap) (xs.set c q))) := by
  subst hcs
  have hw := hs.win j hj
  obtain ⟨h1, h2, hg, h3, h4, h5⟩ := hw.inCap
  have hqc : (R.cells q).length = 1 * R.m := by rw [R.len, Nat.one_mul]
  have hnews : ∀ j u, (R.cells q)[j]? = some u → w.cell? ((⟨B, 0, none⟩ : Addr).add j) = some u := by
    intro j u hj
    have hadd : (⟨B, 0, none⟩ : Addr).add j = ⟨B, j, none⟩ := by unfold Addr.add; split <;> simp_all
    rw [hadd, cell_of hB]
    simpa using hj
  have hcm : (c + 1) * R.m ≤ cap * R.m := Nat.mul_le_mul_right _ (by omega)
  rw [Nat.add_mul, Nat.one_mul] at hcm
  have hr := run_append_room_cells (P := P) w t ty e i ht hi g 0 c cap ⟨B, 0, none⟩ 1 m' (R.cells q) (by rw [hsize]; exact hqc) hnews (R.one q) (by omega)
    (fun j hj => by rw [R.len] at hj; rw [hsize, Nat.zero_add]; exact h3 _ (by omega)) (fun j _ => h4 _)
  rw [hsize] at hr
  exact ⟨_, hr, hs.setRecW j hj c hc q⟩
end
section
variable {w w0 : World} {L : List Thing} {g n cap : Nat} {zs : List Int}
/-- .. and of numbers. -/
theorem run_appRoomI {P : Program} (t ty e : TypeId) (i : TypeInfo) (ht : P.underlying t = some (.slice e)) (hi : P.info? e = some i) (hsize : i.size = 1) {k : IntKind} (hs : Sep w0 w L) (j : Nat) (hj : L[j]? = some (intsT k e (.slice (some ⟨g, 0, none⟩) n cap) zs)) (c : Nat) (hc : c < zs.length) (q : Int) (B m' : Nat) (hB : w.heap[B]? = some (.cells #[.int k q] e (0, 0))) :
    ∃ w', (Builtin.append_ #[t, t] ty #[.slice (some ⟨g, 0, none⟩) c cap, .slice (some ⟨B, 0, none⟩) 1 m']).run P w = .ok (.slice (some ⟨g, 0, none⟩) (c + 1) cap) w' ∧ Sep w0 w' (L.set j (intsT k e (.slice (some ⟨g, 0, none⟩) n cap) (zs.set c q))) := by
  have hw := hs.ints j hj
  unfold IOwn at hw
  rcases hw.2 with ⟨e1, _⟩ | ⟨g', cap', cur, e1, h1, h2, h3, h4, h5, h6⟩
  · cases e1
  · injection e1 with e1 e2 e3
    injection e1 with e1
    injection e1 with e1
    subst e1; subst e2; subst e3
    have hnews : ∀ j u, [Value.int k q][j]? = some u → w.cell? ((⟨B, 0, none⟩ : Addr).add j) = some u := by
      intro j u hj
      have hadd : (⟨B, 0, none⟩ : Addr).add j = ⟨B, j, none⟩ := by unfold Addr.add; split <;> simp_all
      rw [hadd, cell_of hB]
      simpa using hj
    have hr := run_append_room_cells (P := P) w t ty e i ht hi g 0 c cap ⟨B, 0, none⟩ 1 m' [.int k q] (by rw [hsize]; rfl) hnews (by intro u hu; simp at hu; subst hu; rfl) (by omega)
      (fun j hj => by
        have : j = 0 := by simpa using hj
        subst this
        rw [hsize, cell_of h2, Array.getElem?_eq_getElem (by omega)]; rfl) (fun j _ => frozen_of h2 _)
    rw [hsize] at hr
    simp only [Nat.zero_add, Nat.mul_one] at hr
    have e : w.setCells g c [Value.int k q] = w.setCell ⟨g, c, none⟩ (.int k q) := rfl
    rw [e] at hr
    exact ⟨_, hr, hs.setInts j hj q⟩
end
end Go.Mem
