/-
  The document's device, as it lies in memory; its small functions.
-/
import Derived.Test.YtpjbafpbgacnkaaDvKeep
set_option linter.unusedVariables false
set_option linter.unusedSimpArgs false
namespace Go.DevP
open Go Go.Mem
def strR : Rec (List Int) where
  m := 1
  cells x := [.string (strOfNums x)]
  len _ := rfl
  one p u hu := by
    simp only [List.mem_cons, List.not_mem_nil, or_false] at hu
    subst hu; rfl
  pos := by decide
def rbR : Rec (Sl × Blk) where
  m := 2
  cells p := [.string (strOfNums p.2.sure), .slice p.1.a p.1.n p.1.c]
  len _ := rfl
  one p u hu := by
    simp only [List.mem_cons, List.not_mem_nil, or_false] at hu
    rcases hu with rfl | rfl <;> rfl
  pos := by decide
def rowsR (E : TypeId) (rs : List (Sl × Blk)) : List Thing := rs.map fun p => recT strR E p.1.val p.2.loose
theorem rowsR_set {E : TypeId} {rs : List (Sl × Blk)} {k : Nat} {p : Sl × Blk} : rowsR E (rs.set k p) = (rowsR E rs).set k (recT strR E p.1.val p.2.loose) := by
  unfold rowsR; rw [List.map_set]
end Go.DevP
namespace Go.Proofs.Ytpjbafpbgacnkaa
open Go Go.RowKit Go.Mem Go.DevP
attribute [local go_sem] Oper.semAt_some
abbrev rvC (b : Nat) (v : Value) (left : Int) (off : Bool) : Thing := cellsT b #[v, .int .i64 left, .bool (!off)] 38
def refL (b : Nat) (v : Value) (rs : List (Sl × Blk)) (left : Int) (off : Bool) : List Thing :=
  rvC b v left off :: recT rbR 61 v rs :: rowsR 9 rs
def refT (b : Nat) (d : Dv) : Thing := exT (fun p : Value × List (Sl × Blk) => p.2.map (·.2) = d.B) fun p => packT (refL b p.1 p.2 d.left d.off)
theorem Sep.refOpen {w0 w : World} {L : List Thing} {b i : Nat} {d : Dv} (h : Sep w0 w L) (hi : L[i]? = some (refT b d)) : ∃ v rs, rs.map (·.2) = d.B ∧ Sep w0 w (refL b v rs d.left d.off ++ L.eraseIdx i) := by
  obtain ⟨p, hp, hs⟩ := (h.front hi).exOut
  exact ⟨p.1, p.2, hp, hs.unpack⟩
theorem Sep.refClose {w0 w : World} {L : List Thing} {b i : Nat} {d : Dv} {A : Thing} (hi : L[i]? = some A) {v : Value} {rs : List (Sl × Blk)} (h : Sep w0 w (refL b v rs d.left d.off ++ L.eraseIdx i)) (hl : rs.map (·.2) = d.B) : Sep w0 w (L.set i (refT b d)) :=
  (h.pack.exIn (a := (v, rs)) (P := fun p : Value × List (Sl × Blk) => p.2.map (·.2) = d.B) (T := fun p => packT (refL b p.1 p.2 d.left d.off)) hl).back hi
section
variable {w0 w : World} {L : List Thing} {i b : Nat} {v : Value} {left : Int} {off : Bool} {d : Dv}
theorem rhas_any {a : Option Addr} {n c : Nat} (hs : Sep w0 w L) (hi : L[i]? = some (rvC b (.slice a n c) left off)) (k : Int) : Calls Try.prog 34 #[.pointer (some ⟨b, 0, none⟩), .int .i64 k] w fun en w' => en = .returned (.bool (hasB n k)) ∧ w' = w := by
  have c0 := cell_of (hs.cells i hi) 0
  have c1 := cell_of (hs.cells i hi) 1
  have c2 := cell_of (hs.cells i hi) 2
  simp only [List.getElem?_toArray, List.getElem?_cons_zero, List.getElem?_cons_succ] at c0 c1 c2
  by_cases h0 : 0 ≤ k
  · by_cases h1 : k < n
    · have H := Lib.hid (show hasB n k = true by simp [hasB, h0, h1])
      go_enter Try.func34, Try.ntmps34
      go_wp2_with fail
      go_ret
      exact ⟨by rw [H.out]; rfl, rfl⟩
    · have H := Lib.hid (show hasB n k = false by simp [hasB, h1])
      go_enter Try.func34, Try.ntmps34
      go_wp2_with fail
      go_ret
      exact ⟨by rw [H.out]; rfl, rfl⟩
  · have H := Lib.hid (show hasB n k = false by simp [hasB, h0])
    go_enter Try.func34, Try.ntmps34
    go_wp2_with fail
    go_ret
    exact ⟨by rw [H.out]; rfl, rfl⟩
theorem rgoes_any (hs : Sep w0 w L) (hi : L[i]? = some (rvC b v left off)) (hl : -1 ≤ left ∧ left ≤ 9223372036854775807) :
    Calls Try.prog 35 #[.pointer (some ⟨b, 0, none⟩)] w fun en w' => en = .returned (.bool (decide (left = 0))) ∧ Sep w0 w' (L.set i (rvC b v (cntL left) (cntO left off))) := by
  have c0 := cell_of (hs.cells i hi) 0
  have c1 := cell_of (hs.cells i hi) 1
  have c2 := cell_of (hs.cells i hi) 2
  simp only [List.getElem?_toArray, List.getElem?_cons_zero, List.getElem?_cons_succ] at c0 c1 c2
  have qf := fun j => frozen_of (hs.cells i hi) j
  by_cases h1 : left = -1
  · subst h1
    have HS := Lib.hid (show Sep w0 w (L.set i (rvC b v (cntL (-1)) (cntO (-1) off))) by
      have : L.set i (rvC b v (cntL (-1)) (cntO (-1) off)) = L := by
        obtain ⟨hlt, he⟩ := List.getElem?_eq_some_iff.1 hi
        show L.set i (rvC b v (-1) off) = L
        rw [← he]; exact List.set_getElem_self _
      rw [this]; exact hs)
    clear hs
    go_enter Try.func35, Try.ntmps35
    go_wp2_with fail
    go_ret
    exact ⟨rfl, HS.out⟩
  by_cases h0 : left = 0
  · subst h0
    have hs2 := hs.setC i hi 2 (.bool false) #[v, .int .i64 0, .bool false] rfl
    have HS := Lib.hid hs2
    clear hs hs2
    go_enter Try.func35, Try.ntmps35
    go_wp2_with fail
    go_ret
    exact ⟨rfl, HS.out⟩
  · have hp : 0 < left := by omega
    have hs2 := hs.setC i hi 1 (.int .i64 (left - 1)) #[v, .int .i64 (left - 1), .bool (!off)] rfl
    have HS := Lib.hid (show Sep w0 _ (L.set i (rvC b v (cntL left) (cntO left off))) by
      rw [show cntL left = left - 1 by simp [cntL, h1, h0], show cntO left off = off by simp [cntO, h0]]; exact hs2)
    have HD := Lib.hid (show decide (left = 0) = false by simp [h0])
    clear hs hs2
    go_enter Try.func35, Try.ntmps35
    go_wp2_with fail
    go_ret
    exact ⟨by rw [HD.out]; rfl, HS.out⟩
end
end Go.Proofs.Ytpjbafpbgacnkaa
