/-
  'copy' of numbers into a row of one's own; bytes.Clone; Device.Read, walked.
-/
import Derived.Test.YtpjbafpbgacnkaaDvW1
import Derived.Laws.IdiomCopy
import Derived.Laws.CopyRow
set_option linter.unusedVariables false
set_option linter.unusedSimpArgs false
namespace Go.Mem
open Go Go.RowKit
/-- 'copy(dst, src)' of numbers, into a row of the call's own. -/
theorem wpList_copyInts {P : Program} {w0 w : World} {L : List Thing} {ops : Array Oper} {rest : List Oper} {o : Oper} {a : Act} {Q : Exit → Act → World → Prop} (hgd : o.guard = none) (d s : Operand) (dT sT : TypeId) (k : IntKind)
    (ho : o.op = .call { callee := .builtin .copy, args := #[d, s], argTypes := #[dT, sT] }) (E : TypeId) (i : TypeInfo) (hu : P.underlying dT = some (.slice E)) (hi0 : P.info? E = some i) (hi1 : i.size = 1)
    (g n c : Nat) (zs : List Int) (y : Value) (ys : List Int) (hsep : Sep w0 w L) (j : Nat) (hj : L[j]? = some (intsT k E (.slice (some ⟨g, 0, none⟩) n c) zs)) (hr : Rd k w y ys) (hl : ys.length ≤ zs.length)
    (hd : a.eval d = .slice (some ⟨g, 0, none⟩) n c) (hs : a.eval s = y)
    (h : ∀ w', Sep w0 w' (L.set j (intsT k E (.slice (some ⟨g, 0, none⟩) n c) (setAll zs 0 ys))) → wpList P ops Q rest (a.put o.dst (goInt ys.length)) w') :
    wpList P ops Q (o :: rest) a w := by
  have hown := hsep.ints j hj
  have hn : n = zs.length := by obtain ⟨_, _, e⟩ := hown.shape; injection e with _ e _
  obtain ⟨ad, cap, rfl, h63, hnc, hc⟩ := hr
  have hsz : (P.info? E).map (·.size) = some 1 := by rw [hi0]; simp [hi1]
  have key : ∃ w', (Builtin.copy_ #[dT, sT] o.type #[.slice (some ⟨g, 0, none⟩) n c, .slice ad ys.length cap]).run P w = .ok (goInt ys.length) w' ∧ Sep w0 w' (L.set j (intsT k E (.slice (some ⟨g, 0, none⟩) n c) (setAll zs 0 ys))) := by
    by_cases h0 : ys.length = 0
    · obtain rfl := List.eq_nil_of_length_eq_zero h0
      refine ⟨w, ?_, ?_⟩
      · exact run_copy_none w dT sT o.type E _ _ n c _ _ hu hsz (by simp)
      · rw [setAll, set_same hj]; exact hsep
    · obtain ⟨b, off, rfl, hb, hc⟩ := hc (by omega)
      refine ⟨_, ?_, hsep.setIntsAll ys 0 w L j zs hj⟩
      have := run_copy_cells (P := P) w dT sT o.type E g 0 n c ⟨b, off, none⟩ ys.length cap (ys.map (Value.int k)) hu hsz (by rw [List.length_map, hn]; exact (Nat.min_eq_left hl).symm) (fun m v hv => ?_) (fun m hm => ?_) (fun m hm => ?_) (fun v hv => ?_)
      · rw [List.length_map] at this
        exact this
      · rw [List.getElem?_map] at hv
        cases hx : ys[m]? with
        | none => rw [hx] at hv; cases hv
        | some x =>
          rw [hx] at hv
          have hm := (List.getElem?_eq_some_iff.1 hx).1
          have := hc m hm
          rw [List.getD_eq_getElem?_getD, hx] at this
          rw [← Option.some.inj hv]
          have ha : (⟨b, off, none⟩ : Addr).add m = ⟨b, off + m, none⟩ := by unfold Addr.add; split <;> simp_all
          rw [ha]; exact this
      · rw [List.length_map] at hm
        obtain ⟨g', c', e, _, hcell, _⟩ := hown.get m (by omega)
        injection e with e _ _
        injection e with e
        injection e with e
        subst e
        rw [Nat.zero_add, hcell m (by omega)]; rfl
      · rw [List.length_map] at hm
        obtain ⟨g', c', e, _, _, hfr⟩ := hown.get m (by omega)
        injection e with e _ _
        injection e with e
        injection e with e
        subst e
        exact hfr _
      · obtain ⟨x, _, rfl⟩ := List.mem_map.1 hv
        rfl
  obtain ⟨w', hrun, hsep'⟩ := key
  refine wpList_plain hgd fun K hK => ?_
  unfold Oper.wp execOp
  simp only [ho, resolve, invoke, builtin, Sem.run_bind, Sem.run_pure, Result.andThen_ok, List.map_toArray, List.map_cons, List.map_nil, hd, hs, hrun]
  exact hK _ _ (h w' hsep')
theorem setAll_full {zs ys : List Int} (h : ys.length = zs.length) : setAll zs 0 ys = ys := by
  refine List.ext_getElem? fun j => ?_
  rw [setAll_at ys zs 0 j (by omega)]
  by_cases q : j < ys.length
  · rw [if_pos ⟨Nat.zero_le _, by omega⟩, Nat.sub_zero]
  · rw [if_neg (by omega), List.getElem?_eq_none (by omega), List.getElem?_eq_none (by omega)]
end Go.Mem
namespace Go.Proofs.Ytpjbafpbgacnkaa
open Go Go.RowKit Go.Mem Go.DevP
theorem bclone_dev (v : Value) (xs : List Int) (w : World) (h : Rd .u8 w v xs) (hsm : xs.length ≤ 1000000) (hn : 0 < xs.length) :
    Calls Try.prog 32 #[v] w fun en w' => ∃ u, en = .returned u ∧ Sep w w' [intsT .u8 5 u xs] := by
  obtain ⟨i0, hi0, hz0, hz1, hz2⟩ := info_parts Try.infoU8v
  obtain ⟨a, c, hx⟩ := h.shape
  cases a with
  | none =>
    subst hx
    obtain ⟨_, _, e, _, _, h3⟩ := h
    injection e with e1 _ _
    obtain ⟨b, o, e4, _⟩ := h3 hn
    rw [← e1] at e4
    cases e4
  | some a =>
    subst hx
    have he := fun w : World => Lib.run_eql_slice_nil (P := Try.prog) w 41 5 (some a) xs.length c 0 0 Try.underlying41
    simp at he
    have hs2 := (Sep.start w).litInts .u8 5 [] (by simp [maxLen])
    simp only [List.map_cons, List.map_nil, List.length_cons, List.length_nil, Nat.reduceAdd, World.size_alloc] at hs2
    go_enter Try.func32, Try.ntmps32
    go_wp2_with (at_builtin; refine wpList_appRd rfl (.tmp 5) (.tmp 6) 41 rfl 5 i0 _ 1 Try.underlying41 hi0 hz0 hz1 hz2 rfl _ [] .u8 _ xs hs2 0 rfl (hs2.rd h) rfl rfl ?c3 ?c4 ?grow)
    case c3 => (try simp); (try simp only [maxLen]); (try omega)
    case c4 => (try simp); (try simp only [maxLen]); (try omega)
    case grow =>
      intro v' w2 hs3
      (try simp only [List.set_cons_zero, List.nil_append] at hs3)
      clear he
      go_wp2_with fail
      go_ret
      exact ⟨_, rfl, hs3⟩
end Go.Proofs.Ytpjbafpbgacnkaa
