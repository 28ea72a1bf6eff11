/-
  A map from numbers, as a thing in memory: looked up, written, struck, cleared; as what 'ownsMap' says. Plain lemmas.
-/
import Derived.Test.YthcmkljdhhepgaaDMap
import Derived.Maps.Own
set_option linter.unusedVariables false
set_option linter.unusedSimpArgs false
namespace Go.Mem
open Go Go.RowKit Go.Maps Go.MapKept Go.ChangeMaps
section
variable {α : Type} {kk : IntKind} {kf : α → Int} {vf : α → Value} {P : Program} {w0 w : World} {L : List Thing} {xs : List α} {b : Nat} {t k e : TypeId}
theorem ents_len {es : Array MapEntry} (h : entsOf es = pairsOf kk kf vf xs) : es.size = xs.length := by
  have := congrArg List.length h
  simpa [entsOf, pairsOf] using this
theorem ents_at {es : Array MapEntry} (h : entsOf es = pairsOf kk kf vf xs) {j : Nat} {x : MapEntry} (hx : es.toList[j]? = some x) : ∃ hj : j < xs.length, x.key = .int kk (kf xs[j]) ∧ x.val = vf xs[j] := by
  have hl := ents_len h
  have hj : j < xs.length := by
    have := (List.getElem?_eq_some_iff.1 hx).1
    rw [Array.length_toList] at this
    omega
  have := congrArg (fun l => l[j]?) h
  simp only [entsOf, pairsOf, List.getElem?_map, hx, Option.map_some, List.getElem?_eq_getElem hj] at this
  injection this with this
  injection this with h1 h2
  exact ⟨hj, h1, h2⟩
theorem ents_keys (hk : P.underlying k = some (.int kk)) {es : Array MapEntry} (he : entsOf es = pairsOf kk kf vf xs) (hwf : ∀ d ∈ xs, (Lit.int kk (kf d)).wf = true) : ∀ x ∈ es.toList, ∃ l, keyOf P k x.key = some l := fun x hx => by
  obtain ⟨d, hd, e1, _⟩ := ents_key he x hx
  exact ⟨_, by rw [e1]; exact keyOf_int_mk (P := P) hk (hwf d hd)⟩
/-- Where a key stands. -/
theorem ents_find {es : Array MapEntry} {clock : Nat} (hst : Stamped es clock) (he : entsOf es = pairsOf kk kf vf xs) {j : Nat} (hj : j < xs.length) {i : Nat} {x : MapEntry} (hx : es.toList[i]? = some x) (hkey : x.key = .int kk (kf xs[j])) : i = j := by
  obtain ⟨hi, e1, _⟩ := ents_at he hx
  have hn := hst.2.2
  have hl := ents_len he
  have hjs : j < (es.toList.map (·.key)).length := by rw [List.length_map, Array.length_toList]; omega
  have his : i < (es.toList.map (·.key)).length := by rw [List.length_map, Array.length_toList]; omega
  have hjx : ∃ y, es.toList[j]? = some y := ⟨_, List.getElem?_eq_getElem (by rw [Array.length_toList]; omega)⟩
  obtain ⟨y, hy⟩ := hjx
  obtain ⟨_, e2, _⟩ := ents_at he hy
  refine (List.getElem_inj hn (h₀ := his) (h₁ := hjs)).1 ?_
  have ex : (es.toList.map (·.key))[i] = x.key := by
    rw [List.getElem_map]; congr 1
    rw [List.getElem?_eq_getElem (by rw [List.length_map] at his; exact his)] at hx
    exact Option.some.inj hx
  have ey : (es.toList.map (·.key))[j] = y.key := by
    rw [List.getElem_map]; congr 1
    rw [List.getElem?_eq_getElem (by rw [List.length_map] at hjs; exact hjs)] at hy
    exact Option.some.inj hy
  rw [ex, ey, hkey, e2]
theorem find_yes (w : World) (K : Keyed P k) (hk : P.underlying k = some (.int kk)) {es : Array MapEntry} {clock : Nat} (hst : Stamped es clock) (he : entsOf es = pairsOf kk kf vf xs) (hwf : ∀ d ∈ xs, (Lit.int kk (kf d)).wf = true) {j : Nat} (hj : j < xs.length) :
    (Instr.findKey k (.int kk (kf xs[j])) es.toList).run P w = .ok (some (j, vf xs[j])) w := by
  have hkey := keyOf_int_mk (P := P) hk (hwf _ (List.getElem_mem hj))
  rcases K.find w hkey es.toList (ents_keys hk he hwf) with ⟨_, h2⟩ | ⟨i, x, h1, h2, h3⟩
  · have hl := ents_len he
    have hjx : j < es.toList.length := by rw [Array.length_toList]; omega
    have hy := List.getElem?_eq_getElem hjx
    obtain ⟨_, e2, _⟩ := ents_at he hy
    exact absurd e2 (h2 _ (List.getElem_mem hjx))
  · obtain rfl := ents_find hst he hj h2 h3
    obtain ⟨_, _, e3⟩ := ents_at he h2
    rw [h1, e3]
theorem find_no (w : World) (K : Keyed P k) (hk : P.underlying k = some (.int kk)) {es : Array MapEntry} (he : entsOf es = pairsOf kk kf vf xs) (hwf : ∀ d ∈ xs, (Lit.int kk (kf d)).wf = true) {id : Int} (hw : (Lit.int kk id).wf = true) (hn : ∀ d ∈ xs, kf d ≠ id) :
    (Instr.findKey k (.int kk id) es.toList).run P w = .ok none w := by
  rcases K.find w (keyOf_int_mk (P := P) hk hw) es.toList (ents_keys hk he hwf) with ⟨h1, _⟩ | ⟨i, x, _, h2, h3⟩
  · exact h1
  · obtain ⟨hi, e1, _⟩ := ents_at he h2
    rw [h3] at e1
    injection e1 with _ e1
    exact absurd e1.symm (hn _ (List.getElem_mem hi))
/-- 'm[k]', 'v, ok := m[k]'. -/
theorem Sep.lookYes (h : Sep w0 w L) (i : Nat) (hi : L[i]? = some (dmapT kk kf vf b xs)) (K : Keyed P k) (hk : P.underlying k = some (.int kk)) (ht : P.underlying t = some (.map k e)) (ok : Bool) {j : Nat} (hj : j < xs.length) :
    (Instr.lookup t (.map (some b)) (.int kk (kf xs[j])) ok).run P w = .ok (if ok = true then .tuple #[vf xs[j], .bool true] else vf xs[j]) w := by
  obtain ⟨S, _, es, clock, hb, hst, he, hwf⟩ := h.at i hi
  have hkey := keyOf_int_mk (P := P) hk (hwf _ (List.getElem_mem hj))
  have hch := K.check w es.isEmpty hkey
  cases ok <;> simp [Instr.lookup, run_underlying ht, MapKept.run_getObj_map hb, hch, find_yes w K hk hst he hwf hj, Result.andThen]
theorem Sep.lookNo (h : Sep w0 w L) (i : Nat) (hi : L[i]? = some (dmapT kk kf vf b xs)) (K : Keyed P k) (hk : P.underlying k = some (.int kk)) (ht : P.underlying t = some (.map k e)) {z : Value} (hz : ∀ u : World, (zeroValue e).run P u = .ok z u) (ok : Bool) {id : Int} (hw : (Lit.int kk id).wf = true) (hn : ∀ d ∈ xs, kf d ≠ id) :
    (Instr.lookup t (.map (some b)) (.int kk id) ok).run P w = .ok (if ok = true then .tuple #[z, .bool false] else z) w := by
  obtain ⟨S, _, es, clock, hb, hst, he, hwf⟩ := h.at i hi
  have hch := K.check w es.isEmpty (keyOf_int_mk (P := P) hk hw)
  cases ok <;> simp [Instr.lookup, run_underlying ht, MapKept.run_getObj_map hb, hch, find_no w K hk he hwf hw hn, hz, Result.andThen]
/-- 'm[k] = v', k new .. -/
theorem Sep.mapAdd (h : Sep w0 w L) (i : Nat) (hi : L[i]? = some (dmapT kk kf vf b xs)) (K : Keyed P k) (hk : P.underlying k = some (.int kk)) (ht : P.underlying t = some (.map k e)) (d : α) (hw : (Lit.int kk (kf d)).wf = true) (hn : ∀ x ∈ xs, kf x ≠ kf d) :
    ∃ w', (Instr.mapUpdate t (.map (some b)) (.int kk (kf d)) (vf d)).run P w = .ok () w' ∧ Sep w0 w' (L.set i (dmapT kk kf vf b (xs ++ [d]))) := by
  obtain ⟨S, ⟨hS, es, clock, hb, hst, he, hwf⟩, hu⟩ := h.use i hi
  have hch := K.check w false (keyOf_int_mk (P := P) hk hw)
  have hne : ∀ x ∈ es.toList, x.key ≠ .int kk (kf d) := fun x hx e1 => by
    obtain ⟨q, hq, e2, _⟩ := ents_key he x hx
    rw [e2] at e1
    injection e1 with _ e3
    exact hn q hq e3
  refine ⟨setBlock w b (.map (es.push ⟨.int kk (kf d), vf d, clock⟩) (clock + 1)), ?_, ?_⟩
  · simp [Instr.mapUpdate, run_underlying ht, MapKept.run_getObj_map hb, hch, find_no w K hk he hwf hw hn, MapKept.run_setObj_map _ hb, Result.andThen, Go.ChangeMaps.setBlock]
  · refine hu _ _ S ⟨hS, _, _, (heap_set hb).1, stamped_push hst hne, ?_, fun q hq => ?_⟩ ⟨Fr.setBlock hb (by rw [hS]), fun j hj => .inl hj⟩
    · unfold entsOf pairsOf at *
      rw [Array.toList_push, List.map_append, List.map_append, he]
      rfl
    · rcases List.mem_append.1 hq with hq | hq
      · exact hwf q hq
      · rw [List.mem_singleton.1 hq]; exact hw
/-- .. or there already. -/
theorem Sep.mapPut (h : Sep w0 w L) (i : Nat) (hi : L[i]? = some (dmapT kk kf vf b xs)) (K : Keyed P k) (hk : P.underlying k = some (.int kk)) (ht : P.underlying t = some (.map k e)) {j : Nat} (hj : j < xs.length) (d : α) (hd : kf d = kf xs[j]) :
    ∃ w', (Instr.mapUpdate t (.map (some b)) (.int kk (kf d)) (vf d)).run P w = .ok () w' ∧ Sep w0 w' (L.set i (dmapT kk kf vf b (xs.set j d))) := by
  obtain ⟨S, ⟨hS, es, clock, hb, hst, he, hwf⟩, hu⟩ := h.use i hi
  have hkey := keyOf_int_mk (P := P) hk (hwf _ (List.getElem_mem hj))
  have hch := K.check w false hkey
  have hl := ents_len he
  have hjl : j < es.size := by omega
  have hjx : es.toList[j]? = some es[j] := by rw [Array.getElem?_toList, Array.getElem?_eq_getElem hjl]
  obtain ⟨_, e1, _⟩ := ents_at he hjx
  have hstay := K.stays w hkey
  refine ⟨setBlock w b (.map (es.modify j fun q => { q with key := .int kk (kf xs[j]), val := vf d }) clock), ?_, ?_⟩
  · rw [hd]
    simp [Instr.mapUpdate, run_underlying ht, MapKept.run_getObj_map hb, hch, find_yes w K hk hst he hwf hj, hjl, e1, hstay, MapKept.run_setObj_map _ hb, Result.andThen, Go.ChangeMaps.setBlock]
  · refine hu _ _ S ⟨hS, _, _, (heap_set hb).1, stamped_modify hst j _ (fun _ _ => rfl) (fun q _ hq => ?_), ?_, fun q hq => ?_⟩ ⟨Fr.setBlock hb (by rw [hS]), fun j hj => .inl hj⟩
    · rw [Array.getElem?_eq_getElem hjl] at hq
      rw [← Option.some.inj hq]
      exact e1.symm
    · refine List.ext_getElem? fun m => ?_
      have hm := congrArg (fun l => l[m]?) he
      unfold entsOf pairsOf at hm ⊢
      simp only [List.getElem?_map, Array.getElem?_toList, Array.getElem?_modify, List.getElem?_set] at hm ⊢
      by_cases hmj : j = m
      · subst hmj
        rw [if_pos rfl, if_pos rfl, if_pos hj, Array.getElem?_eq_getElem hjl]
        simp [hd]
      · rw [if_neg hmj, if_neg hmj]
        exact hm
    · rcases List.mem_or_eq_of_mem_set hq with hq | rfl
      · exact hwf q hq
      · rw [hd]; exact hwf _ (List.getElem_mem hj)
/-- 'delete(m, k)'. -/
theorem Sep.mapDel (h : Sep w0 w L) (i : Nat) (hi : L[i]? = some (dmapT kk kf vf b xs)) (K : Keyed P k) (hk : P.underlying k = some (.int kk)) (ht : P.underlying t = some (.map k e)) (kt : TypeId) {j : Nat} (hj : j < xs.length) :
    ∃ w', (∀ ty, (Builtin.delete_ #[t, kt] ty #[.map (some b), .int kk (kf xs[j])]).run P w = .ok (.tuple #[]) w') ∧ Sep w0 w' (L.set i (dmapT kk kf vf b (xs.eraseIdx j))) := by
  obtain ⟨S, ⟨hS, es, clock, hb, hst, he, hwf⟩, hu⟩ := h.use i hi
  have hkey := keyOf_int_mk (P := P) hk (hwf _ (List.getElem_mem hj))
  have hch := K.check w es.isEmpty hkey
  have hl := ents_len he
  refine ⟨setBlock w b (.map (es.eraseIdxIfInBounds j) clock), ?_, ?_⟩
  · intro ty
    simp [Builtin.delete_, run_underlying ht, MapKept.run_getObj_map hb, hch, find_yes w K hk hst he hwf hj, MapKept.run_setObj_map _ hb, Result.andThen, Go.ChangeMaps.setBlock]
  · refine hu _ _ S ⟨hS, _, _, (heap_set hb).1, stamped_erase hst j, ?_, fun q hq => hwf q (List.mem_of_mem_eraseIdx hq)⟩ ⟨Fr.setBlock hb (by rw [hS]), fun j hj => .inl hj⟩
    unfold entsOf pairsOf at *
    unfold Array.eraseIdxIfInBounds
    rw [dif_pos (by omega), Array.toList_eraseIdx, List.eraseIdx_eq_take_drop_succ, List.eraseIdx_eq_take_drop_succ, List.map_append, List.map_append, List.map_take, List.map_drop, he, List.map_take, List.map_drop]
/-- 'clear(m)'. -/
theorem Sep.mapClear (h : Sep w0 w L) (i : Nat) (hi : L[i]? = some (dmapT kk kf vf b xs)) (ht : P.underlying t = some (.map k e)) 
    : ∃ w', (∀ ty, (Builtin.clear_ #[t] ty #[.map (some b)]).run P w = .ok (.tuple #[]) w') ∧ Sep w0 w' (L.set i (dmapT kk kf vf b [])) := by
  obtain ⟨S, ⟨hS, es, clock, hb, hst, he, hwf⟩, hu⟩ := h.use i hi
  refine ⟨setBlock w b (.map #[] clock), fun ty => ?_, hu _ _ S ⟨hS, _, _, (heap_set hb).1, stamped_empty clock, rfl, fun q hq => by cases hq⟩ ⟨Fr.setBlock hb (by rw [hS]), fun j hj => .inl hj⟩⟩
  simp [Builtin.clear_, run_underlying ht, MapKept.run_getObj_map hb, MapKept.run_setObj_map _ hb, Result.andThen, Go.ChangeMaps.setBlock]
end
end Go.Mem
