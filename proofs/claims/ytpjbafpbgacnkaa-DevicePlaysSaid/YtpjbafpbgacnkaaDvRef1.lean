/-
  The document's device: Stands, Read, Arm, Off.
-/
import Derived.Test.YtpjbafpbgacnkaaDvRefT
import Derived.Test.YtpjbafpbgacnkaaRangeV
set_option linter.unusedVariables false
set_option linter.unusedSimpArgs false
namespace Go.Proofs.Ytpjbafpbgacnkaa
open Go Go.RowKit Go.Mem Go.DevP
attribute [local go_sem] Oper.semAt_some
/-- A value that says this string, as long as thing A lies. -/
def ConvA (A : Thing) (v : Value) (s : ByteArray) : Prop := ∀ (w0 W : World) (R : List Thing) (j : Nat), Sep w0 W R → R[j]? = some A → (convert 41 9 v).run Try.prog W = .ok (.string s) W
theorem convA_nil : ConvA (intsT .u8 5 (.slice none 0 0) []) (.slice none 0 0) (strOfNums []) := fun w0 W R j hs hj => by
  have := run_convert_bytes_nil W 41 5 Try.underlying41 Try.underlying5 0 0 9 Try.underlying9
  exact this
theorem convA_new (B : Nat) (s : ByteArray) (cap : Nat) (fr : Nat × Nat) : ConvA (defT B (.cells (bytesRow s cap) 5 fr)) (.slice (some ⟨B, 0, none⟩) s.size cap) s := fun w0 W R j hs hj => by
  have ho := hs.obj_ j hj
  have hsz : s.data.toList.length = s.size := by rw [Array.length_toList]; rfl
  have := run_convert_bytes_back (P := Try.prog) W 41 9 5 ⟨B, 0, none⟩ cap s.data.toList Try.underlying41 Try.underlying5 Try.underlying9 (fun q hq => by
    have h1 : W.cell? ⟨B, 0 + q, none⟩ = (bytesRow s cap)[q]? := by
      rw [Nat.zero_add]
      exact cell_of ho q
    have h2 : q < s.data.size := by simpa using hq
    have hplain : (⟨B, 0, none⟩ : Addr).add q = ⟨B, 0 + q, none⟩ := by unfold Addr.add; split <;> simp_all
    rw [hplain, h1]
    unfold bytesRow
    rw [Array.getElem?_append_left (by simpa using h2), Array.getElem?_map, Array.getElem?_eq_getElem h2]
    simp)
  rw [hsz] at this
  rw [this]
theorem rstands_any (p : Sl × Blk) (w : World) (hr : RdG strR w p.1.val p.2.loose) : Calls Try.prog 36 #[.agg #[.string (strOfNums p.2.sure), .slice p.1.a p.1.n p.1.c]] w fun en w' => en = .returned (.string (strOfNums p.2.stands)) ∧ w' = w.alloc (.cells #[.string (strOfNums p.2.sure), .slice p.1.a p.1.n p.1.c] 61) := by
  obtain ⟨⟨a, n, c⟩, ⟨sure, loose⟩⟩ := p
  dsimp only at hr ⊢
  have hs := (Sep.start w).newCells #[.string (strOfNums sure), .slice a n c] 61
  have hr2 := hs.rdG hr
  obtain ⟨_, _, ex⟩ := hr.shape
  injection ex with q1 ex q2
  clear q1 q2
  subst ex
  have c0 := cell_of (hs.cells 0 rfl) 0
  have c1 := cell_of (hs.cells 0 rfl) 1
  simp only [List.getElem?_toArray, List.getElem?_cons_zero, List.getElem?_cons_succ] at c0 c1
  have hle := hr.le'
  by_cases h0 : loose.length = 0
  · have H := Lib.hid (show (⟨sure, loose⟩ : Blk).stands = sure by
      obtain rfl := List.eq_nil_of_length_eq_zero h0; rfl)
    rw [h0] at c1 ⊢
    clear hs hr hr2 h0
    go_enter Try.func36, Try.ntmps36
    go_wp2_with fail
    go_ret
    exact ⟨by rw [H.out]; rfl, rfl⟩
  · obtain ⟨bq, oq, eq, _, hc1⟩ := hr2.at (loose.length - 1) (by omega)
    subst eq
    have z0 := hc1 0 (by decide)
    have hlast : loose.length - 1 < loose.length := by omega
    simp only [strR, List.getElem?_cons_zero, Nat.mul_one, Nat.add_zero] at z0
    have H := Lib.hid (show (⟨sure, loose⟩ : Blk).stands = loose[loose.length - 1] by
      unfold Blk.stands
      dsimp only
      rw [List.getLastD_eq_getLast?, List.getLast?_eq_getElem?, List.getElem?_eq_getElem hlast]; rfl)
    obtain ⟨q, hq⟩ : ∃ q, q = loose[loose.length - 1] := ⟨_, rfl⟩
    rw [← hq] at z0 H
    have hn0 : (0 : Int) < loose.length := by omega
    have hn1 : 0 < loose.length := by omega
    clear hs hr hr2 hc1 hq hlast h0
    go_enter Try.func36, Try.ntmps36
    go_wp2_with fail
    go_ret
    exact ⟨by rw [H.out]; rfl, rfl⟩
section
variable {w0 w : World} {L : List Thing} {i b : Nat} {d : Dv}
theorem refL_row {rb : Nat} {v : Value} {rs : List (Sl × Blk)} {left : Int} {off : Bool} {R : List Thing} {k : Nat} (h : k < rs.length) : (refL rb v rs left off ++ R)[k + 2]? = some (recT strR 9 (rs[k]).1.val (rs[k]).2.loose) := by
  unfold refL
  simp only [List.cons_append, List.getElem?_cons_succ]
  rw [List.getElem?_append_left (by unfold rowsR; rw [List.length_map]; exact h)]
  unfold rowsR
  rw [List.getElem?_map, List.getElem?_eq_getElem h]; rfl
theorem rarm_any (hs : Sep w0 w L) (hi : L[i]? = some (refT b d)) (n : Int) : Calls Try.prog 26 #[.pointer (some ⟨b, 0, none⟩), .int .i64 n] w fun en w' => en = .returned (.int .i64 (onE d.off)) ∧ Sep w0 w' (L.set i (refT b (d.armD n))) := by
  obtain ⟨v, rs, hB, hs⟩ := Sep.refOpen hs hi
  have c0 := cell_of (hs.cells 0 rfl) 0
  have c1 := cell_of (hs.cells 0 rfl) 1
  have c2 := cell_of (hs.cells 0 rfl) 2
  simp only [List.getElem?_toArray, List.getElem?_cons_zero, List.getElem?_cons_succ] at c0 c1 c2
  have qf := fun j => frozen_of (hs.cells 0 rfl) j
  have hs2 := hs.setC 0 rfl 1 (.int .i64 (max n (-1))) #[v, .int .i64 (max n (-1)), .bool (!d.off)] rfl
  have HC := Lib.hid (Sep.refClose (d := { d with left := max n (-1) }) hi (v := v) (rs := rs) hs2 hB)
  have HS := Lib.hid (Sep.refClose (d := d) hi (v := v) (rs := rs) hs hB)
  clear hs hs2 hi hB
  obtain ⟨B, left, off⟩ := d
  dsimp only at c0 c1 c2
  cases off
  · go_enter Try.func26, Try.ntmps26
    go_wp2_with fail
    go_ret
    exact ⟨rfl, HC.out⟩
  · go_enter Try.func26, Try.ntmps26
    go_wp2_with fail
    go_ret
    exact ⟨rfl, HS.out⟩
theorem roff_any (hs : Sep w0 w L) (hi : L[i]? = some (refT b d)) : Calls Try.prog 27 #[.pointer (some ⟨b, 0, none⟩)] w fun en w' => en = .returned (.int .i64 (onE d.off)) ∧ Sep w0 w' (L.set i (refT b d.offD)) := by
  obtain ⟨v, rs, hB, hs⟩ := Sep.refOpen hs hi
  have c2 := cell_of (hs.cells 0 rfl) 2
  simp only [List.getElem?_toArray, List.getElem?_cons_zero, List.getElem?_cons_succ] at c2
  have qf := fun j => frozen_of (hs.cells 0 rfl) j
  have hs2 := hs.setC 0 rfl 2 (.bool false) #[v, .int .i64 d.left, .bool false] rfl
  have HC := Lib.hid (Sep.refClose (d := d.offD) hi (v := v) (rs := rs) hs2 hB)
  have HS := Lib.hid (show d.off = true → Sep w0 w (L.set i (refT b d.offD)) from fun e => Sep.refClose (d := d.offD) hi (v := v) (rs := rs) (by rw [e] at hs; exact hs) hB)
  clear hs hs2 hi hB
  obtain ⟨B, left, off⟩ := d
  dsimp only at c2
  cases off
  · go_enter Try.func27, Try.ntmps27
    go_wp2_with fail
    go_ret
    exact ⟨rfl, HC.out⟩
  · go_enter Try.func27, Try.ntmps27
    go_wp2_with fail
    go_ret
    exact ⟨rfl, HS.out trivial⟩
end
end Go.Proofs.Ytpjbafpbgacnkaa
