/-
  Package device: what touches its own block alone, walked.
-/
import Derived.Test.YtpjbafpbgacnkaaDvT
import Derived.Test.YtpjbafpbgacnkaaRows
import Derived.Test.YtpjbafpbgacnkaaLB
import Derived.Deep.LoopGhost
import Derived.WalkLawsBesides
import Derived.WalkSpells
import Derived.Lib.SmallJoins
set_option linter.unusedVariables false
set_option linter.unusedSimpArgs false
namespace Go.Proofs.Ytpjbafpbgacnkaa
open Go Go.RowKit Go.Mem Go.DevP
theorem Try.infoU8v : (Try.prog.info? 5).map (fun i => (i.zero, i.size, i.bytes)) = some (some (.int .u8 0), 1, 1) := by kernel_rfl
theorem Try.infoRowv : (Try.prog.info? 41).map (fun i => (i.zero, i.size, i.bytes)) = some (some (.slice none 0 0), 1, 24) := by kernel_rfl
section
variable {w0 w : World} {L : List Thing} {i b bm : Nat} {ss : Value} {left : Int} {off : Bool}
theorem on_nil (w : World) : Calls Try.prog 29 #[.pointer none] w fun en w' => en = .returned (.int .i64 2) ∧ w' = w := by
  go_enter Try.func29, Try.ntmps29
  go_wp2_with fail
  go_ret
  exact ⟨rfl, rfl⟩
theorem on_any (hs : Sep w0 w L) (hi : L[i]? = some (dvC b ss bm left off)) : Calls Try.prog 29 #[.pointer (some ⟨b, 0, none⟩)] w fun en w' => en = .returned (.int .i64 (onE off)) ∧ w' = w := by
  have c0 := cell_of (hs.cells i hi) 0
  have c1 := cell_of (hs.cells i hi) 1
  have c2 := cell_of (hs.cells i hi) 2
  have c3 := cell_of (hs.cells i hi) 3
  simp only [List.getElem?_toArray, List.getElem?_cons_zero, List.getElem?_cons_succ] at c0 c1 c2 c3
  cases off
  · go_enter Try.func29, Try.ntmps29
    go_wp2_with fail
    go_ret
    exact ⟨rfl, rfl⟩
  · go_enter Try.func29, Try.ntmps29
    go_wp2_with fail
    go_ret
    exact ⟨rfl, rfl⟩
theorem has_any (hs : Sep w0 w L) {a : Option Addr} {n c : Nat} (hi : L[i]? = some (dvC b (.slice a n c) bm left off)) (k : Int) : Calls Try.prog 30 #[.pointer (some ⟨b, 0, none⟩), .int .i64 k] w fun en w' => en = .returned (.bool (hasB n k)) ∧ w' = w := by
  have c0 := cell_of (hs.cells i hi) 0
  have c1 := cell_of (hs.cells i hi) 1
  have c2 := cell_of (hs.cells i hi) 2
  have c3 := cell_of (hs.cells i hi) 3
  simp only [List.getElem?_toArray, List.getElem?_cons_zero, List.getElem?_cons_succ] at c0 c1 c2 c3
  by_cases h0 : 0 ≤ k
  · by_cases h1 : k < n
    · have H := Lib.hid (show hasB n k = true by simp [hasB, h0, h1])
      go_enter Try.func30, Try.ntmps30
      go_wp2_with fail
      go_ret
      exact ⟨by rw [H.out]; rfl, rfl⟩
    · have H := Lib.hid (show hasB n k = false by simp [hasB, h1])
      have e1 : decide (k < n) = false := decide_eq_false h1
      go_enter Try.func30, Try.ntmps30
      go_wp2_with fail
      go_ret
      exact ⟨by rw [H.out]; rfl, rfl⟩
  · have H := Lib.hid (show hasB n k = false by simp [hasB, h0])
    have e1 : decide (0 ≤ k) = false := decide_eq_false h0
    go_enter Try.func30, Try.ntmps30
    go_wp2_with fail
    go_ret
    exact ⟨by rw [H.out]; rfl, rfl⟩
theorem counts_any (hs : Sep w0 w L) (hi : L[i]? = some (dvC b ss bm left off)) (hl : -1 ≤ left ∧ left ≤ 9223372036854775807) :
    Calls Try.prog 31 #[.pointer (some ⟨b, 0, none⟩)] w fun en w' => en = .returned (.int .i64 (cntE left)) ∧ Sep w0 w' (L.set i (dvC b ss bm (cntL left) (cntO left off))) := by
  have c0 := cell_of (hs.cells i hi) 0
  have c1 := cell_of (hs.cells i hi) 1
  have c2 := cell_of (hs.cells i hi) 2
  have c3 := cell_of (hs.cells i hi) 3
  simp only [List.getElem?_toArray, List.getElem?_cons_zero, List.getElem?_cons_succ] at c0 c1 c2 c3
  have qf := fun j => frozen_of (hs.cells i hi) j
  by_cases h1 : left = -1
  · subst h1
    go_enter Try.func31, Try.ntmps31
    go_wp2_with fail
    go_ret
    exact ⟨rfl, by show Sep w0 w (L.set i (dvC b ss bm (-1) off)); rw [set_same hi]; exact hs⟩
  · have e1 : (left == -1) = false := by simpa using h1
    by_cases h0 : left = 0
    · subst h0
      have hs2 := hs.setC i hi 3 (.bool true) #[ss, .map (some bm), .int .i64 0, .bool true] rfl
      go_enter Try.func31, Try.ntmps31
      go_wp2_with fail
      go_ret
      exact ⟨rfl, hs2⟩
    · have e0 : (left == 0) = false := by simpa using h0
      have hs2 := hs.setC i hi 2 (.int .i64 (left - 1)) #[ss, .map (some bm), .int .i64 (left - 1), .bool off] rfl
      have HL := Lib.hid (show cntL left = left - 1 by unfold cntL; rw [if_neg h1, if_neg h0])
      have HE := Lib.hid (show cntE left = 0 by unfold cntE; rw [if_neg h0])
      have HO := Lib.hid (show cntO left off = off by unfold cntO; rw [if_neg h0])
      obtain ⟨h2, h3⟩ := hl
      go_enter Try.func31, Try.ntmps31
      go_wp2_with fail
      go_ret
      exact ⟨by rw [HE.out]; rfl, by rw [HL.out, HO.out]; exact hs2⟩
theorem size_nil (w : World) : Calls Try.prog 13 #[.pointer none] w fun en w' => en = .returned (.int .i64 0) ∧ w' = w := by
  go_enter Try.func13, Try.ntmps13
  go_wp2_with fail
  go_ret
  exact ⟨rfl, rfl⟩
theorem power_nil (w : World) : Calls Try.prog 12 #[.pointer none] w fun en w' => en = .returned (.bool false) ∧ w' = w := by
  go_enter Try.func12, Try.ntmps12
  go_wp2_with fail
  go_ret
  exact ⟨rfl, rfl⟩
theorem off_nil (w : World) : Calls Try.prog 17 #[.pointer none] w fun en w' => en = .returned (.int .i64 2) ∧ w' = w := by
  go_enter Try.func17, Try.ntmps17
  go_wp2_with fail
  refine (on_nil _).mono ?_
  rintro en w1 ⟨rfl, rfl⟩
  go_wp2_with fail
  go_ret
  exact ⟨rfl, rfl⟩
theorem arm_nil (n : Int) (w : World) : Calls Try.prog 20 #[.pointer none, .int .i64 n] w fun en w' => en = .returned (.int .i64 2) ∧ w' = w := by
  go_enter Try.func20, Try.ntmps20
  go_wp2_with fail
  refine (on_nil _).mono ?_
  rintro en w1 ⟨rfl, rfl⟩
  go_wp2_with fail
  go_ret
  exact ⟨rfl, rfl⟩
end
section
variable {w0 w : World} {L : List Thing} {i b : Nat} {d : Dv}
theorem size_any (hs : Sep w0 w L) (hi : L[i]? = some (devT b d)) : Calls Try.prog 13 #[.pointer (some ⟨b, 0, none⟩)] w fun en w' => en = .returned (.int .i64 d.B.length) ∧ w' = w := by
  obtain ⟨l, ok, hs⟩ := Sep.devOpen hs hi
  have hn := ok.len
  obtain ⟨a, c, e⟩ := (hs.rdRecs (R := slR) (E := 41) 1 rfl).shape
  rw [List.length_map, hn] at e
  have HS := Lib.hid e
  have c0 := cell_of (hs.cells 0 rfl) 0
  have c1 := cell_of (hs.cells 0 rfl) 1
  have c2 := cell_of (hs.cells 0 rfl) 2
  have c3 := cell_of (hs.cells 0 rfl) 3
  simp only [List.getElem?_toArray, List.getElem?_cons_zero, List.getElem?_cons_succ] at c0 c1 c2 c3
  rw [HS.out] at c0
  clear hs ok hn e hi
  go_enter Try.func13, Try.ntmps13
  go_wp2_with fail
  go_ret
  exact ⟨rfl, rfl⟩
theorem power_any (hs : Sep w0 w L) (hi : L[i]? = some (devT b d)) : Calls Try.prog 12 #[.pointer (some ⟨b, 0, none⟩)] w fun en w' => en = .returned (.bool (!d.off)) ∧ w' = w := by
  obtain ⟨l, ok, hs⟩ := Sep.devOpen hs hi
  have c0 := cell_of (hs.cells 0 rfl) 0
  have c1 := cell_of (hs.cells 0 rfl) 1
  have c2 := cell_of (hs.cells 0 rfl) 2
  have c3 := cell_of (hs.cells 0 rfl) 3
  simp only [List.getElem?_toArray, List.getElem?_cons_zero, List.getElem?_cons_succ] at c0 c1 c2 c3
  clear hs ok hi
  obtain ⟨B, left, off⟩ := d
  dsimp only at c3 ⊢
  cases off
  · go_enter Try.func12, Try.ntmps12
    go_wp2_with fail
    go_ret
    exact ⟨rfl, rfl⟩
  · go_enter Try.func12, Try.ntmps12
    go_wp2_with fail
    go_ret
    exact ⟨rfl, rfl⟩
theorem off_any (hs : Sep w0 w L) (hi : L[i]? = some (devT b d)) : Calls Try.prog 17 #[.pointer (some ⟨b, 0, none⟩)] w fun en w' => en = .returned (.int .i64 (onE d.off)) ∧ Sep w0 w' (L.set i (devT b d.offD)) := by
  obtain ⟨l, ok, hs⟩ := Sep.devOpen hs hi
  have HON := Lib.hid (on_any hs (i := 0) rfl)
  have c0 := cell_of (hs.cells 0 rfl) 0
  have c1 := cell_of (hs.cells 0 rfl) 1
  have c2 := cell_of (hs.cells 0 rfl) 2
  have c3 := cell_of (hs.cells 0 rfl) 3
  simp only [List.getElem?_toArray, List.getElem?_cons_zero, List.getElem?_cons_succ] at c0 c1 c2 c3
  have qf := fun j => frozen_of (hs.cells 0 rfl) j
  have hs2 := hs.setC 0 rfl 3 (.bool true) #[l.ss.val, .map (some l.bm), .int .i64 d.left, .bool true] rfl
  have HC := Lib.hid (Sep.devClose (d := d.offD) hi (l := l) hs2 ⟨ok.len, ok.sure, ok.es, ok.nd, ok.no, ok.m512⟩)
  have HS := Lib.hid (show d.off = true → Sep w0 w (L.set i (devT b d.offD)) from fun e => Sep.devClose (d := d.offD) hi (l := l) (by rw [e] at hs; exact hs) ⟨ok.len, ok.sure, ok.es, ok.nd, ok.no, ok.m512⟩)
  clear hs hs2 ok hi
  obtain ⟨B, left, off⟩ := d
  dsimp only at c3 HON HC HS ⊢
  cases off
  · go_enter Try.func17, Try.ntmps17
    go_wp2_with fail
    refine (HON.out).mono ?_
    rintro en w1 ⟨rfl, rfl⟩
    go_wp2_with fail
    go_ret
    exact ⟨rfl, HC.out⟩
  · go_enter Try.func17, Try.ntmps17
    go_wp2_with fail
    refine (HON.out).mono ?_
    rintro en w1 ⟨rfl, rfl⟩
    go_wp2_with fail
    go_ret
    exact ⟨rfl, HS.out trivial⟩
theorem arm_any (hs : Sep w0 w L) (hi : L[i]? = some (devT b d)) (n : Int) : Calls Try.prog 20 #[.pointer (some ⟨b, 0, none⟩), .int .i64 n] w fun en w' => en = .returned (.int .i64 (onE d.off)) ∧ Sep w0 w' (L.set i (devT b (d.armD n))) := by
  obtain ⟨l, ok, hs⟩ := Sep.devOpen hs hi
  have HON := Lib.hid (on_any hs (i := 0) rfl)
  have c0 := cell_of (hs.cells 0 rfl) 0
  have c1 := cell_of (hs.cells 0 rfl) 1
  have c2 := cell_of (hs.cells 0 rfl) 2
  have c3 := cell_of (hs.cells 0 rfl) 3
  simp only [List.getElem?_toArray, List.getElem?_cons_zero, List.getElem?_cons_succ] at c0 c1 c2 c3
  have qf := fun j => frozen_of (hs.cells 0 rfl) j
  have hs2 := hs.setC 0 rfl 2 (.int .i64 (max n (-1))) #[l.ss.val, .map (some l.bm), .int .i64 (max n (-1)), .bool d.off] rfl
  have HC := Lib.hid (Sep.devClose (d := { d with left := max n (-1) }) hi (l := l) hs2 ⟨ok.len, ok.sure, ok.es, ok.nd, ok.no, ok.m512⟩)
  have HS := Lib.hid (Sep.devClose (d := d) hi (l := l) hs ok)
  clear hs hs2 ok hi
  obtain ⟨B, left, off⟩ := d
  dsimp only at c3 HON HC HS ⊢
  cases off
  · by_cases hn : n < -1
    · have e : max n (-1) = -1 := by omega
      rw [e] at HC
      have HE := Lib.hid (show (⟨B, left, false⟩ : Dv).armD n = ⟨B, -1, false⟩ by unfold Dv.armD; simp [e])
      go_enter Try.func20, Try.ntmps20
      go_wp2_with fail
      refine (HON.out).mono ?_
      rintro en w1 ⟨rfl, rfl⟩
      go_wp2_with fail
      go_ret
      exact ⟨rfl, by rw [HE.out]; exact HC.out⟩
    · have e : max n (-1) = n := by omega
      rw [e] at HC
      have HE := Lib.hid (show (⟨B, left, false⟩ : Dv).armD n = ⟨B, n, false⟩ by unfold Dv.armD; simp [e])
      clear e
      have hn2 : (n < -1) = False := eq_false hn
      go_enter Try.func20, Try.ntmps20
      go_wp2_with fail
      refine (HON.out).mono ?_
      rintro en w1 ⟨rfl, rfl⟩
      go_wp2_with fail
      go_ret
      exact ⟨rfl, by rw [HE.out]; exact HC.out⟩
  · go_enter Try.func20, Try.ntmps20
    go_wp2_with fail
    refine (HON.out).mono ?_
    rintro en w1 ⟨rfl, rfl⟩
    go_wp2_with fail
    go_ret
    exact ⟨rfl, HS.out⟩
end
end Go.Proofs.Ytpjbafpbgacnkaa
