/-
  Package solve: bits.Len64.
-/
import Derived.Test.YtacbfpgijmpilaaSW6
import Derived.Test.YtacbfpgijmpilaaSE
import Derived.Shelf.Small.Bits
namespace Go.Mem
open Go Go.RowKit
section
variable {P : Program} {w w0 : World} {L : List Thing} {ρ : Operand → Value} {α : Type}
/-- 'append([]T{}, ys...)' of records, onto a row that has just been laid. -/
theorem exec_appNew (R : Rec α) (o : Oper) (s x : Operand) (t : TypeId)
    (ho : o.op = .call { callee := .builtin .append, args := #[s, x], argTypes := #[t, t] })
    (e : TypeId) (i : TypeInfo) (z : Value) (bytes : Nat) (ht : P.underlying t = some (.slice e)) (hi : P.info? e = some i) (hz : i.zero = some z)
    (hsize : i.size = R.m) (hby : i.bytes = bytes) (hzs : z.cells.size = R.m)
    (g0 : Nat) (y : Value) (ys : List α) (hsep : Sep w0 w L) (j : Nat) (hj : L[j]? = some (recT R e (.slice (some ⟨g0, 0, none⟩) 0 0) [])) (hr : RdG R w y ys)
    (hs : ρ s = .slice (some ⟨g0, 0, none⟩) 0 0) (hx : ρ x = y) (h63 : ys.length ≤ maxLen) (hbytes : ys.length * bytes ≤ 140737488355328) :
    ∃ g c w', (execOp ρ o).run P w = .ok (.value (.slice (some ⟨g, 0, none⟩) ys.length c)) w' ∧ Sep w0 w' (L.set j (recT R e (.slice (some ⟨g, 0, none⟩) ys.length c) ys)) := by
  have hown := hsep.recs j hj
  unfold ROwn at hown
  obtain ⟨ad, cap, rfl, hlm, hnc, hc⟩ := hr
  match ad, hnc, hc with
  | none, hnc, hc =>
    have hc0 := hnc rfl
    have hy0 : ys = [] := by
      rcases ys with _ | ⟨q, ys⟩
      · rfl
      · obtain ⟨b, off, e, _⟩ := hc (by simp); cases e
    subst hy0; subst hc0
    have hr := run_append_none (P := P) t o.type e i R.m ht hi (.slice (some ⟨g0, 0, none⟩) 0 0) 0 _ hown
    refine ⟨g0, 0, w, ?_, ?_⟩
    · unfold execOp
      simp only [ho, resolve, invoke, builtin, Sem.run_bind, Sem.run_pure, Result.andThen_ok, List.map_toArray, List.map_cons, List.map_nil, hs, hx, List.length_nil, hr]
    · have : L.set j (recT R e (.slice (some ⟨g0, 0, none⟩) 0 0) []) = L := by obtain ⟨hlt, he⟩ := List.getElem?_eq_some_iff.1 hj; rw [← he]; exact List.set_getElem_self _
      rw [List.length_nil, this]; exact hsep
  | some ad, hnc, hc =>
    have hnews : ∀ j u, (R.flat ys)[j]? = some u → w.cell? (ad.add j) = some u := by
      intro j u hu
      have hj : j < ys.length * R.m := by have := (List.getElem?_eq_some_iff.1 hu).1; rwa [R.flat_length] at this
      have hp := R.pos
      have hy0 : 0 < ys.length := by
        rcases Nat.eq_zero_or_pos ys.length with h | h
        · rw [h] at hj; simp at hj
        · exact h
      obtain ⟨b, off, e, hb, hcell⟩ := hc hy0
      injection e with e
      subst e
      have hadd : (⟨b, off, none⟩ : Addr).add j = ⟨b, off + j, none⟩ := by unfold Addr.add; split <;> simp_all
      have hq : j / R.m < ys.length := (Nat.div_lt_iff_lt_mul hp).2 hj
      have hr : j % R.m < R.m := Nat.mod_lt _ hp
      have hjj : j / R.m * R.m + j % R.m = j := by rw [Nat.mul_comm]; exact Nat.div_add_mod j R.m
      have h1 := hcell (j / R.m) hq (j % R.m) hr
      rw [Nat.add_assoc, hjj] at h1
      have h2 := R.flat_get ys (j / R.m) hq (j % R.m) hr
      rw [hjj, hu] at h2
      rw [hadd, h1, ← h2]
    obtain ⟨v', w', hr, hA⟩ := run_append (P := P) (w := w) t o.type e i z R.m bytes ht hi hz hsize hby hzs R.pos (.slice (some ⟨g0, 0, none⟩) 0 0) 0 _ hown ad ys.length cap (R.flat ys) (R.flat_length ys) hnews
      (R.flat_one ys) (by omega) (by rw [Nat.zero_add]; exact hbytes)
    have hsh : ∃ g c, v' = .slice (some ⟨g, 0, none⟩) ys.length c := by
      rcases Nat.eq_zero_or_pos ys.length with h0 | h0
      · rcases hown.2 with ⟨h, _⟩ | ⟨g, cap2, cur, h, hbg, hg, hnc2, hcm, hcs, htake⟩
        · cases h
        · have hr2 := run_append_room (P := P) w t o.type e i ht hi g 0 cap2 cur hg ad ys.length cap (R.flat ys) (by rw [R.flat_length, hsize]) hnews (R.flat_one ys) (by omega) (by rw [R.flat_length, h0]; omega)
          have h' : Value.slice (some ⟨g0, 0, none⟩) 0 0 = .slice (some ⟨g, 0, none⟩) 0 cap2 := h
          rw [← h', hr] at hr2
          injection hr2 with e1 e2
          exact ⟨g, cap2, by rw [e1]; simp⟩
      · obtain ⟨g, c, h⟩ := hA.shape (by omega)
        exact ⟨g, c, by rw [h]; simp⟩
    obtain ⟨g, c, rfl⟩ := hsh
    refine ⟨g, c, w', ?_, ?_⟩
    · unfold execOp
      simp only [ho, resolve, invoke, builtin, Sem.run_bind, Sem.run_pure, Result.andThen_ok, List.map_toArray, List.map_cons, List.map_nil, hs, hx, hr]
    · have := hsep.appRecs j hj rfl (by simpa using hA)
      simpa using this
end
end Go.Mem
namespace Go.Proofs.Ytacbfpgijmpilaa
open Go Go.Shelf
def lays129s_ren : Go.Shelf.Ren := ⟨fun | 129 => 19 | n => n, fun | 53 => 50 | 3 => 3 | 4 => 4 | 46 => 62 | 5 => 5 | 9 => 9 | n => n, fun | n => n⟩
theorem lays129s : Go.Proofs.Lays.n129 Try.prog lays129s_ren := {
  mixed := by kernel_rfl
  f129 := Try.func19.trans (congrArg some (by kernel_rfl))
  t3 := Try.underlying3
  a3 := Try.isAgg3
  z3 := Try.sizeOf3
  v3 := Try.zeroValue3
  t4 := Try.underlying4
  a4 := Try.isAgg4
  z4 := Try.sizeOf4
  v4 := Try.zeroValue4
  t5 := Try.underlying5
  a5 := Try.isAgg5
  z5 := Try.sizeOf5
  v5 := Try.zeroValue5
  t9 := Try.underlying9
  a9 := Try.isAgg9
  z9 := Try.sizeOf9
  v9 := Try.zeroValue9
  t46 := Try.underlying62
  a46 := Try.isAgg62
  z46 := Try.sizeOf62
  v46 := Try.zeroValue62
  t53 := Try.underlying50
  a53 := Try.isAgg50
  z53 := Try.sizeOf50
  v53 := Try.zeroValue50 }
theorem bits64_any (x : Int) (w : World) (h0 : 0 ≤ x) (h1 : x ≤ 18446744073709551615) :
    Calls Try.prog 19 #[.int .u64 x] w fun e w' => e = .returned (.int .i64 (Lib.bitLen x.toNat)) ∧ w' = w := Any.bits_Len64 lays129s x w h0 h1
end Go.Proofs.Ytacbfpgijmpilaa
