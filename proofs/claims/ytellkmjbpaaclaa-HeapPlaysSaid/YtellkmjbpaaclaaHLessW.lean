/-
  The law HeapLess, walked.
-/
import Derived.Test.YtellkmjbpaaclaaHW4
namespace Go.Proofs.Ytellkmjbpaaclaa
open Go Go.RowKit Go.Mem Go.HeapP

theorem Turned.below {S S' : Nat → Prop} {w a b : World} (h : Turned S S' a b) (hb : Below w.heap.size w a) (hS : ∀ j, S j → w.heap.size ≤ j) : Below w.heap.size w b ∧ ∀ j, S' j → w.heap.size ≤ j := by
  refine ⟨hb.trans (h.fr.toBelow _ (fun i hi hs => ?_) hb.size), fun j hj => ?_⟩
  · have := hS i hs; omega
  · rcases h.new j hj with h1 | h1
    · exact hS j h1
    · have := hb.size; omega

/-- What is popped behind a push. -/
theorem less_law {xs ys : List T} {x : T} (h : IsH xs) (hy : IsH ys) (hp : ys.Perm (x :: xs)) : ∃ m r, ys = m :: r ∧ r.length = xs.length ∧ ((xs = [] ∧ m = x) ∨ ∃ y q, xs = y :: q ∧ ((ltB y x = true ∧ m = y) ∨ (ltB y x = false ∧ m = x))) := by
  match xs, h, hp with
  | [], h, hp =>
    obtain ⟨r, rfl, hr⟩ := head_of hy hp (by simp)
    exact ⟨x, r, rfl, hr.length_eq, .inl ⟨rfl, rfl⟩⟩
  | y :: q, h, hp =>
    have hle : ∀ z ∈ y :: q, le y z := fun z hz => by have := least_mem h z hz; simpa [nth] using this
    cases hc : ltB y x with
    | true =>
      obtain ⟨r, rfl, hr⟩ := head_of hy (hp.trans (List.Perm.swap y x q)) (fun z hz => by
        rcases List.mem_cons.1 hz with rfl | hz
        · exact le_of_lt hc
        · exact hle z (List.mem_cons_of_mem _ hz))
      exact ⟨y, r, rfl, by rw [hr.length_eq]; simp, .inr ⟨y, q, rfl, .inl ⟨hc, rfl⟩⟩⟩
    | false =>
      obtain ⟨r, rfl, hr⟩ := head_of hy hp (fun z hz => le_trans hc (hle z hz))
      exact ⟨x, r, rfl, hr.length_eq, .inr ⟨y, q, rfl, .inr ⟨hc, rfl⟩⟩⟩

set_option maxHeartbeats 1000000 in
set_option maxRecDepth 100000 in
theorem heapLess_any (a0 : Option Addr) (len0 cap0 : Nat) (z0 : List Int) (a1 a2 : Int) (w : World) (h0 : IsRow .i64 w a0 len0 cap0 z0) (_ : (Lit.int .i64 a1).wf = true) (_ : (Lit.int .i64 a2).wf = true) :
    Calls Try.prog 5 #[.slice a0 len0 cap0, .int .i64 a1, .int .i64 a2] w fun e w' => e = .returned (.bool true) ∧ Below w.heap.size w w' := by
  by_cases hlen : 200 < len0
  · go_enter Try.func5, Try.ntmps5
    go_wp2_with fail
    refine (works_any _).mono ?_
    rintro e w1 ⟨rfl, hb⟩
    go_wp2_with fail
    go_ret
    exact ⟨rfl, hb⟩
  · go_enter Try.func5, Try.ntmps5
    go_wp2_with fail
    refine (new_any _).mono ?_
    rintro e w1 ⟨rfl, hr1, hb1⟩
    go_wp2_with fail
    go_loopw [8] (fun v wr => ∃ (i : Nat) (S : Nat → Prop) (xs : List T), v = .int .i64 i ∧ i ≤ len0 ∧ HRep wr w.heap.size S xs ∧ xs.length = i ∧ Below w.heap.size w wr ∧ ∀ j, S j → w.heap.size ≤ j) (fun v wr => len0 - (intOf v).toNat)
    case atStart => exact ⟨0, _, [], rfl, Nat.zero_le _, hr1, rfl, hb1, fun j hj => by omega⟩
    case round =>
      obtain ⟨i, S, xs, rfl, hi, hr, hxl, hb, hS⟩ := hrel
      have HXL := Lib.hid hxl
      clear hxl
      by_cases hlt : i < len0
      · obtain ⟨b, off, rfl, hbl, hc⟩ := h0.get i hlt
        have hci := (hb.cell (p := ⟨b, off + i, none⟩) hbl).trans (hc i hlt)
        clear hc
        go_wp2_with fail
        refine (push_any _ _ _ _ _ _ hr (by have := HXL.out; omega)).mono ?_
        rintro e w2 ⟨rfl, S2, xs2, hr2, hp2, ht2⟩
        obtain ⟨hb2, hS2⟩ := ht2.below hb hS
        have HP2 := Lib.hid hp2
        clear hp2
        go_wp2_with fail
        go_roundw
        case rel => exact ⟨i + 1, S2, xs2, by go_num, by omega, hr2, by rw [HP2.out.length_eq]; simp [HXL.out], hb2, hS2⟩
        case measure => simp [intOf]; omega
      · go_wp2_with fail
        have hi' : i = len0 := by omega
        have HI := Lib.hid hi'
        clear hi'
        refine (peek_any _ _ _ _ hr (by have := HXL.out; omega)).mono ?_
        rintro e w2 ⟨rfl, m, hm⟩
        have hr2 : HRep w2 w.heap.size S xs := by rw [hm]; exact hr.frame (S' := fun _ => False) (Fr.drewN _ _) (fun _ _ h => h)
        have hb2 : Below w.heap.size w w2 := by rw [hm]; exact hb.trans ((Fr.drewN (S := fun _ => False) wr m).toBelow _ (fun _ _ h => h) hb.size)
        clear hm hr
        obtain ⟨pa, pb, pe, hpv, hpc⟩ : ∃ pa pb pe : Int, peekV xs = .tuple #[.int .i64 pa, .int .i64 pb, .int .i64 pe] ∧ ((xs = [] ∧ pe = 4) ∨ ∃ q, xs = (pa, pb) :: q ∧ pe = 0) := by
          match xs with
          | [] => exact ⟨_, _, _, rfl, .inl ⟨rfl, rfl⟩⟩
          | y :: q => exact ⟨_, _, _, rfl, .inr ⟨q, rfl, rfl⟩⟩
        rw [hpv]
        clear hpv
        have HPC := Lib.hid hpc
        clear hpc
        go_wp2_with fail
        refine (push_any _ _ _ _ _ _ hr2 (by have := HXL.out; omega)).mono ?_
        rintro e w3 ⟨rfl, S3, xs3, hr3, hp3, ht3⟩
        obtain ⟨hb3, hS3⟩ := ht3.below hb2 hS
        have hl3 := hp3.length_eq
        obtain ⟨mm, rr, rfl, hrl, hcase⟩ := less_law hr2.isH hr3.isH hp3
        have HP3 := Lib.hid hp3
        have HC := Lib.hid hcase
        have HRL := Lib.hid hrl
        have HL3 := Lib.hid hl3
        clear hp3 hcase hrl hl3
        go_wp2_with fail
        refine (pop_any _ _ _ _ hr3 (by have := HL3.out; have := HXL.out; simp only [List.length_cons] at *; omega)).mono ?_
        rintro e w4 ⟨rfl, xs4, hr4, hp4, hf4⟩
        unfold peekV
        have HP4 := Lib.hid hp4
        clear hp4
        have hb4 : Below w.heap.size w w4 := hb3.trans (hf4.toBelow _ (fun i hi hs => by have := hS3 i hs; omega) hb3.size)
        go_wp2_with fail
        refine (len_any _ _ _ _ hr4).mono ?_
        rintro e w5 ⟨rfl, rfl⟩
        have hl4 : xs4.length = len0 := by rw [HP4.out.length_eq]; simp [HRL.out, HXL.out, HI.out]
        rw [hl4]
        have HL4 := Lib.hid hl4
        clear hl4
        have hpc := HPC.out
        have hc := HC.out
        have key : (pe = 0 ∧ 0 < len0 ∧ ((pa < a1 ∧ mm = (pa, pb)) ∨ (¬ pa < a1 ∧ pa = a1 ∧ pb < a2 ∧ mm = (pa, pb)) ∨ (¬ pa < a1 ∧ pa = a1 ∧ ¬ pb < a2 ∧ mm = (a1, a2)) ∨ (¬ pa < a1 ∧ pa ≠ a1 ∧ mm = (a1, a2)))) ∨ (pe = 4 ∧ len0 = 0 ∧ mm = (a1, a2)) := by
          have hx := HXL.out
          have hii := HI.out
          rcases hpc with ⟨h1, h2⟩ | ⟨q, h1, h2⟩
          · right
            rw [h1] at hx
            rcases hc with ⟨_, h3⟩ | ⟨y, q, h3, _⟩
            · exact ⟨h2, by simpa [hii] using hx.symm, h3⟩
            · rw [h1] at h3; cases h3
          · left
            rw [h1] at hx
            refine ⟨h2, by simp at hx; omega, ?_⟩
            rcases hc with ⟨h3, _⟩ | ⟨y, q', h3, h4⟩
            · rw [h1] at h3; cases h3
            · rw [h1] at h3
              injection h3 with h5 _
              subst h5
              rcases h4 with ⟨h4, h6⟩ | ⟨h4, h6⟩
              · rw [ltB_iff] at h4
                by_cases hq : pa < a1
                · exact .inl ⟨hq, h6⟩
                · exact .inr (.inl ⟨hq, by omega, by omega, h6⟩)
              · rw [ltB_not] at h4
                by_cases hq : pa = a1
                · exact .inr (.inr (.inl ⟨by omega, hq, by omega, h6⟩))
                · exact .inr (.inr (.inr ⟨by omega, hq, h6⟩))
        clear hpc hc
        have fin : ∀ w6, Below w4.heap.size w4 w6 → Below w.heap.size w w6 := fun w6 h => hb4.trans (h.mono hb4.size)
        have FIN := Lib.hid fin
        clear fin
        clear HPC HC HL4 HI HRL HL3 HXL HP3 HP4 hb2 hb3 hb4 hb hS hS3 hf4 ht3 hr2 hr3 hr4 hr1 hb1
        rcases key with ⟨rfl, h1, ⟨h2, rfl⟩ | ⟨h2, rfl, h3, rfl⟩ | ⟨h2, rfl, h3, rfl⟩ | ⟨h2, h3, rfl⟩⟩ | ⟨rfl, h1, rfl⟩
        · go_wp2_with fail
          refine (works_any _).mono ?_
          rintro e w6 ⟨rfl, hb6⟩
          go_wp2_with fail
          go_ret
          exact ⟨rfl, FIN.out _ hb6⟩
        · go_wp2_with fail
          refine (works_any _).mono ?_
          rintro e w6 ⟨rfl, hb6⟩
          go_wp2_with fail
          go_ret
          exact ⟨rfl, FIN.out _ hb6⟩
        · go_wp2_with fail
          refine (works_any _).mono ?_
          rintro e w6 ⟨rfl, hb6⟩
          go_wp2_with fail
          go_ret
          exact ⟨rfl, FIN.out _ hb6⟩
        · have h3' : (pa == a1) = false := by simpa using h3
          clear h3
          go_wp2_with fail
          refine (works_any _).mono ?_
          rintro e w6 ⟨rfl, hb6⟩
          go_wp2_with fail
          go_ret
          exact ⟨rfl, FIN.out _ hb6⟩
        · subst h1
          go_wp2_with fail
          refine (works_any _).mono ?_
          rintro e w6 ⟨rfl, hb6⟩
          go_wp2_with fail
          go_ret
          exact ⟨rfl, FIN.out _ hb6⟩
end Go.Proofs.Ytellkmjbpaaclaa
