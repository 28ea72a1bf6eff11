/-
  DevicePlays, walked.
-/
import Derived.Test.YtpjbafpbgacnkaaDvDo4
import Derived.Test.YtpjbafpbgacnkaaMix5
set_option linter.unusedVariables false
set_option linter.unusedSimpArgs false
namespace Go.DevP
open Go Go.Mem
/-- A step. -/
structure St where
  q : Int
  k : Int
  n : Int
  c : Int
  e : Int
  sh : Bool
  a : Option Addr
  pc : Nat
  ps : List Int
instance : Inhabited St := ⟨⟨0, 0, 0, 0, 0, false, none, 0, []⟩⟩
def stR : Rec St where
  m := 7
  cells s := [.int .i64 s.q, .int .i64 s.k, .int .i64 s.n, .int .u8 s.c, .int .u8 s.e, .bool s.sh, .slice s.a s.ps.length s.pc]
  len _ := rfl
  one p u hu := by
    simp only [List.mem_cons, List.not_mem_nil, or_false] at hu
    rcases hu with rfl | rfl | rfl | rfl | rfl | rfl | rfl <;> rfl
  pos := by decide
structure St.Ok (w : World) (s : St) : Prop where
  rd : Rd .i64 w (.slice s.a s.ps.length s.pc) s.ps
  n : s.n ≤ 9223372036854775807
def fewL (l : List St) : Bool := decide (l.length ≤ 200) && l.all fun s => decide (s.ps.length ≤ 200)
theorem len_write (d : Dv) (k : Int) (x : List Int) : (d.writeD k x).B.length = d.B.length := by
  unfold Dv.writeD
  split
  · rfl
  · split
    · split
      · rfl
      · exact put_len _ _ _
    · rfl
theorem len_flush (d : Dv) : d.flushD.B.length = d.B.length := by
  unfold Dv.flushD
  split
  · rfl
  · split
    · rfl
    · simp
theorem len_arm (d : Dv) (n : Int) : (d.armD n).B.length = d.B.length := by unfold Dv.armD; split <;> rfl
theorem len_comes (d : Dv) (ps : List Int) : (d.comesD ps).B.length = d.B.length := by
  unfold Dv.comesD
  split
  · simp [comesB]
  · rfl
/-- What a step does. -/
def doD (d : Dv) (s : St) : Dv :=
  if s.q = 1 then d.writeD s.k (Go.DevP.stW s.c s.e s.sh) else if s.q = 2 then d.flushD else if s.q = 4 then d.armD s.n else if s.q = 5 then d.offD else if s.q = 6 then d.comesD s.ps else d
end Go.DevP
namespace Go.Proofs.Ytpjbafpbgacnkaa
open Go Go.RowKit Go.Mem Go.DevP
attribute [local go_sem] Oper.semAt_some
theorem ref_on {w0 w : World} {L : List Thing} {rb i : Nat} {d : Dv} (hs : Sep w0 w L) (hi : L[i]? = some (refT rb d)) : w.cell? ⟨rb, 2, none⟩ = some (.bool (!d.off)) := by
  obtain ⟨v, rs, _, hs⟩ := Sep.refOpen hs hi
  exact cell_of (hs.cells 0 rfl) 2
theorem few_any (l : List St) (v : Value) (w : World) (h : RdG stR w v l) : Calls Try.prog 7 #[v] w fun en w' => en = .returned (.bool (fewL l)) ∧ w' = w := by
  obtain ⟨a, c, rfl⟩ := h.shape
  have hle := h.le'
  by_cases h200 : l.length ≤ 200
  rotate_left
  · have d0 : decide ((200 : Int) < l.length) = true := decide_eq_true (by omega)
    have HF := Lib.hid (show fewL l = false by simp [fewL, h200])
    clear h200
    go_enter Try.func7, Try.ntmps7
    go_wp2_with fail
    go_ret
    exact ⟨by rw [HF.out]; rfl, rfl⟩
  have d0 : decide ((200 : Int) < l.length) = false := decide_eq_false (by omega)
  have HL := Lib.hid h200
  clear h200
  go_enter Try.func7, Try.ntmps7
  go_wp2_with fail
  refine wp_loopM [none, none, some 2, some 3, none, none, none, some 7, some 8, some 9, some 10, some 11, some 12, some 13, some 14, some 15, some 16, some 17, some 18, some 19] (fun (r : Nat) (f : Nat → Value) (wr : World) => (fun (v : Value) => ∃ i : Nat, v = .int .i64 i ∧ i ≤ l.length ∧ r = l.length - i ∧ Hid (∀ s ∈ l.take i, s.ps.length ≤ 200) ∧ wr = w) (f 3)) (l.length) (by kernel_rfl) ?atStart1 ?round1
  case' atStart1 => (try dsimp only [nthV])
  case' round1 =>
    intro gk f wr l hl hrel J1 K1 hJ1 hK1
    (try simp only [mask] at hl)
    generalize f 3 = u3 at hl hrel
    subst hl
    (try dsimp only at hrel)
  case atStart1 => exact ⟨0, rfl, Nat.zero_le _, rfl, Lib.hid (by simp), rfl⟩
  case round1 =>
    obtain ⟨i, rfl, hi, rfl, HA, rfl⟩ := hrel
    by_cases hlt : i < l.length
    · obtain ⟨b1, o1, e1, _, hc1⟩ := h.at i hlt
      subst e1
      have x6 := hc1 6 (by decide)
      simp only [stR, List.getElem?_cons_zero, List.getElem?_cons_succ] at x6
      obtain ⟨s, hs⟩ : ∃ s, s = l[i] := ⟨_, rfl⟩
      have HS := Lib.hid hs
      rw [← hs] at x6
      clear hs hc1
      obtain ⟨q, k, n, c', e, sh, sa, spc, ps⟩ := s
      dsimp only at x6
      by_cases hp : ps.length ≤ 200
      · have d1 : decide ((200 : Int) < ps.length) = false := decide_eq_false (by omega)
        have HP := Lib.hid hp
        clear hp
        go_wp2_with fail
        refine Round.intro (l.length - (i + 1)) ?measure2 (by kernel_rfl) (hJ1 _ _ _ ?rel2)
        case' rel2 => (try dsimp only [nthV])
        case measure2 => omega
        case rel2 => exact ⟨i + 1, by go_num, hlt, rfl, Lib.hid (by
          intro s hs
          rw [List.take_add_one, List.getElem?_eq_getElem hlt, ← HS.out] at hs
          rcases List.mem_append.1 hs with hs | hs
          · exact HA.out s hs
          · simp only [Option.toList, List.mem_singleton] at hs
            subst hs; exact HP.out), rfl⟩
      · have d1 : decide ((200 : Int) < ps.length) = true := decide_eq_true (by omega)
        have HF := Lib.hid (show fewL l = false by
          unfold fewL
          rw [Bool.and_eq_false_iff]
          refine .inr (List.all_eq_false.2 ⟨l[i], List.getElem_mem hlt, ?_⟩)
          rw [← HS.out]
          simpa using hp)
        clear hp
        go_wp2_with fail
        go_ret
        exact ⟨by rw [HF.out]; rfl, rfl⟩
    · obtain rfl : l.length = i := by omega
      have HF := Lib.hid (show fewL l = true by
        unfold fewL
        rw [Bool.and_eq_true]
        refine ⟨decide_eq_true HL.out, List.all_eq_true.2 fun s hs => decide_eq_true (HA.out s (by rw [List.take_length]; exact hs))⟩)
      go_wp2_with fail
      go_ret
      exact ⟨by rw [HF.out]; rfl, rfl⟩
theorem do_any {w0 w : World} {b rb : Nat} {d : Dv} {m : Nat} (hs0 : Sep w0 w [devT b d, refT rb d]) (hg : d.Good) (hbig : d.Big m) (hm : m ≤ 1000) (s : St) (hok : s.Ok w0) (hpl : s.ps.length ≤ 200) :
    Calls Try.prog 11 #[.pointer (some ⟨b, 0, none⟩), .pointer (some ⟨rb, 0, none⟩), stV s.q s.k s.n s.c s.e s.sh (.slice s.a s.ps.length s.pc)] w fun en w' => en = .returned (.bool true) ∧ Sep w0 w' [devT b (doD d s), refT rb (doD d s)] := by
  have hb6 : d.Big 1000000 := hbig.le (by omega)
  obtain ⟨q, k, n, c, e, sh, sa, spc, ps⟩ := s
  dsimp only at hpl ⊢
  by_cases h1 : q = 1
  · subst h1
    exact do_write hs0 hg hb6
  by_cases h2 : q = 2
  · subst h2
    exact do_flush hs0 hg
  by_cases h3 : q = 3
  · subst h3
    exact do_read hs0 hg
  by_cases h4 : q = 4
  · subst h4
    exact do_arm hs0
  by_cases h5 : q = 5
  · subst h5
    exact do_off hs0
  by_cases h6 : q = 6
  · subst h6
    exact do_on hs0 hg hb6 ps hok.rd hpl
  · have e1 : doD d ⟨q, k, n, c, e, sh, sa, spc, ps⟩ = d := by
      unfold doD
      rw [if_neg h1, if_neg h2, if_neg h4, if_neg h5, if_neg h6]
    rw [e1]
    exact do_none hs0 h1 h2 h3 h4 h5 h6
theorem doD_ok {w0 : World} {d : Dv} {m : Nat} (hg : d.Good) (hbig : d.Big m) (s : St) (hok : s.Ok w0) : (doD d s).Good ∧ (doD d s).Big (m + 1) ∧ (doD d s).B.length = d.B.length := by
  unfold doD
  split
  · exact ⟨hg.write _ _, hbig.write _ _, len_write _ _ _⟩
  · split
    · exact ⟨hg.flush, hbig.flush.le (Nat.le_succ _), len_flush _⟩
    · split
      · exact ⟨hg.arm hok.n, (hbig.arm _).le (Nat.le_succ _), len_arm _ _⟩
      · split
        · exact ⟨hg.offD, hbig.offD.le (Nat.le_succ _), rfl⟩
        · split
          · exact ⟨hg.comes _, (hbig.comes _).le (Nat.le_succ _), len_comes _ _⟩
          · exact ⟨hg, hbig.le (Nat.le_succ _), rfl⟩
end Go.Proofs.Ytpjbafpbgacnkaa
