/-
  The law HeapNil, walked.
-/
import Derived.Test.YtellkmjbpaaclaaHW4
namespace Go.Proofs.Ytellkmjbpaaclaa
open Go Go.RowKit Go.Mem Go.HeapP

set_option maxHeartbeats 1000000 in
set_option maxRecDepth 100000 in
theorem heapNil_any (k i : Int) (w : World) (_ : (Lit.int .i64 k).wf = true) (_ : (Lit.int .i64 i).wf = true) : Calls Try.prog 6 #[.int .i64 k, .int .i64 i] w fun e w' => e = .returned (.bool true) ∧ Below w.heap.size w w' := by
  go_enter Try.func6, Try.ntmps6
  go_wp2_with fail
  refine (pop_nil _).mono ?_
  rintro e w1 ⟨rfl, rfl⟩
  go_wp2_with fail
  refine (peek_nil _).mono ?_
  rintro e w1 ⟨rfl, rfl⟩
  go_wp2_with fail
  refine (new_any _).mono ?_
  rintro e w1 ⟨rfl, ha, hb1⟩
  go_wp2_with fail
  refine (new_any _).mono ?_
  rintro e w2 ⟨rfl, hb, hb2⟩
  go_wp2_with fail
  refine (push_nil _ _ _).mono ?_
  rintro e w3 ⟨rfl, rfl⟩
  go_wp2_with fail
  refine (len_nil _).mono ?_
  rintro e w3 ⟨rfl, rfl⟩
  have hsz := hb1.size
  have ha2 : HRep w2 w.heap.size (· = w.heap.size) [] := ha.frame (S' := fun _ => False) (Fr.below hb2) (fun _ _ h => h)
  go_wp2_with fail
  refine (push_any _ _ _ _ _ _ ha2 (by simp)).mono ?_
  rintro e w4 ⟨rfl, Sa, xa, ha3, pa, ta⟩
  have hne := ha.low w.heap.size rfl
  have hb4 : HRep w4 w1.heap.size (· = w1.heap.size) [] := hb.frame ta.fr (fun j hj e => by omega)
  go_wp2_with fail
  refine (peek_any _ _ _ _ hb4 (by simp)).mono ?_
  rintro e w5 ⟨rfl, m, hm⟩
  have hb5 : HRep w5 w1.heap.size (· = w1.heap.size) [] := by rw [hm]; exact hb4.frame (S' := fun _ => False) (Fr.drewN _ _) (fun _ _ h => h)
  have ha5 : HRep w5 w.heap.size Sa xa := by rw [hm]; exact ha3.frame (S' := fun _ => False) (Fr.drewN _ _) (fun _ _ h => h)
  have hf5 : Fr (fun _ => False) w4 w5 := by rw [hm]; exact Fr.drewN _ _
  clear hm
  unfold peekV
  go_wp2_with fail
  refine (len_any _ _ _ _ hb5).mono ?_
  rintro e w6 ⟨rfl, rfl⟩
  go_wp2_with fail
  refine (len_any _ _ _ _ ha5).mono ?_
  rintro e w6 ⟨rfl, rfl⟩
  rw [pa.length_eq]
  go_wp2_with fail
  refine (works_any _).mono ?_
  rintro e w6 ⟨rfl, hb6⟩
  go_wp2_with fail
  go_ret
  refine ⟨rfl, ?_⟩
  have h1 : Below w.heap.size w w2 := hb1.trans (hb2.mono hsz)
  have h2 : Below w.heap.size w2 _ := ta.fr.toBelow _ (fun i hi e => by omega) h1.size
  have h3 : Below w.heap.size _ w5 := hf5.toBelow _ (fun _ _ h => h) (h1.trans h2).size
  exact ((h1.trans h2).trans h3).trans (hb6.mono ((h1.trans h2).trans h3).size)
end Go.Proofs.Ytellkmjbpaaclaa
