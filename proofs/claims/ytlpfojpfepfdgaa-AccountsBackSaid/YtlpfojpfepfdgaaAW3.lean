/-
  Package accounts, walked: Open, Of.
-/
import Derived.Test.YtlpfojpfepfdgaaAW2
namespace Go.Proofs.Ytlpfojpfepfdgaa
open Go Go.RowKit Go.Mem Go.MoneyP Go.AcctP

set_option maxHeartbeats 1000000 in
theorem open_any {w0 w : World} {L : List Thing} (hs : Sep w0 w L) (i b : Nat) (xs : List Ac) (hi : L[i]? = some (accT b xs)) (hsm : xs.length ≤ 1000000) :
    Calls Try.prog 17 #[.pointer (some ⟨b, 0, none⟩)] w fun en w' => en = .returned (.tuple #[.int .i64 (openV xs), .int .i64 (openE xs)]) ∧ Sep w0 w' (L.set i (accT b (openL xs))) := by
  obtain ⟨i0, hi0, hz0, hz1, hz2⟩ := info_parts Try.infoAcct
  obtain ⟨v, hb, ho, hn, hlow, _⟩ := hs.objUse i hi
  obtain ⟨a, c, rfl⟩ := ho.shape
  have hbl := lt_of hb
  have hc := cell_of hb 0
  have hfz := frozen_of hb 0
  simp only [List.getElem?_toArray, List.getElem?_cons_zero] at hc
  by_cases hl : 16 ≤ xs.length
  · have H := Lib.hid (show openV xs = 0 ∧ openE xs = 6 ∧ openL xs = xs by simp [openV, openE, openL, hl])
    have hset : L.set i (accT b xs) = L := by obtain ⟨hlt, he⟩ := List.getElem?_eq_some_iff.1 hi; rw [← he]; exact List.set_getElem_self _
    have HS := Lib.hid hset
    clear hset hb ho hn
    go_enter Try.func17, Try.ntmps17
    go_wp2_with fail
    go_ret2
    exact ⟨by rw [H.out.1, H.out.2.1]; rfl, by rw [H.out.2.2, HS.out]; exact hs⟩
  · have H := Lib.hid (show openV xs = xs.length ∧ openE xs = 0 ∧ openL xs = xs ++ [⟨0, 0⟩] by simp [openV, openE, openL, hl])
    have HO := Lib.hid ho
    have HNB := Lib.hid hn
    have HBB := Lib.hid hb
    clear hb ho hn
    go_enter Try.func17, Try.ntmps17
    go_wp2_with (at_builtin; refine wpList_append1 rfl (.tmp 18) (.tmp 20) 25 rfl 27 i0 _ 2 16 Try.underlying25 hi0 hz0 hz1 hz2 rfl (by decide) _ xs.length _ rfl (World.ownsRow.alloc HO.out _) w.heap.size #[.int .i64 0, .int .i64 0] 27 (0, 0) rfl (heap_alloc_new w _) rfl (by simp [Value.oneCell']) ?c3 ?c4 ?grow)
    case c3 => (try simp); (try simp only [maxLen]); (try omega)
    case c4 => (try simp); (try simp only [maxLen]); (try omega)
    case grow =>
      intro v' w2 hA
      have HA := Lib.hid hA
      have hbl2 : b < (w.alloc (.cells #[.int .i64 0, .int .i64 0] 27)).heap.size := by simp; omega
      have hcc := (hA.fr.cell (b := b) (o := 0) hbl2 HNB.out)
      have hff := (hA.fr.frozen (b := b) (o := 0) hbl2 HNB.out)
      have hcc2 : (w.alloc (.cells #[.int .i64 0, .int .i64 0] 27)).cell? ⟨b, 0, none⟩ = w.cell? ⟨b, 0, none⟩ := (Fr.alloc (S := fun _ => False) w _).cell hbl (fun e => e)
      have hff2 : (w.alloc (.cells #[.int .i64 0, .int .i64 0] 27)).frozen? ⟨b, 0, none⟩ = w.frozen? ⟨b, 0, none⟩ := (Fr.alloc (S := fun _ => False) w _).frozen hbl (fun e => e)
      have c0 := hcc.trans (hcc2.trans hc)
      have f0 := hff.trans (hff2.trans hfz)
      obtain ⟨g, cap, rfl⟩ := hA.shape (by omega)
      have hfin := hs.objApp (w1 := w2) i hi one_inj HBB.out (ys := [⟨0, 0⟩]) (n := xs.length + 1) (by simp) (Fr.alloc w (.cells #[.int .i64 0, .int .i64 0] 27)) (by simpa [Rec.flat, acR] using hA) 0 (fun x => rfl)
      have HFIN := Lib.hid hfin
      clear hA hcc hff hcc2 hff2 hfin
      go_wp2_with fail
      go_ret2
      exact ⟨by rw [H.out.1, H.out.2.1]; simp, by rw [H.out.2.2]; exact HFIN.out⟩
set_option maxHeartbeats 2000000 in
theorem of_any (v : Value) (xs : List Ac) (w : World) (h : RdG acR w v xs) (hsm : xs.length ≤ 1000000) :
    Calls Try.prog 8 #[v] w fun en w' => (ofE xs = 0 ∧ ∃ b, en = .returned (.tuple #[.pointer (some ⟨b, 0, none⟩), .int .i64 0]) ∧ Sep w w' [accT b xs]) ∨ (ofE xs ≠ 0 ∧ en = .returned (.tuple #[.pointer none, .int .i64 (ofE xs)]) ∧ Below w.heap.size w w') := by
  obtain ⟨a, c, rfl⟩ := h.shape
  by_cases hl : 16 < xs.length
  · have H := Lib.hid (show ofE xs = 6 by simp [ofE, hl])
    go_enter Try.func8, Try.ntmps8
    go_wp2_with fail
    go_ret2
    exact .inr ⟨by rw [H.out]; decide, by rw [H.out]; rfl, Below.refl _ _⟩
  · have d16 : decide (16 < (xs.length : Int)) = false := by simp; omega
    go_enter Try.func8, Try.ntmps8
    go_wp2_with fail
    refine (clone_any _ xs _ h hsm).mono ?_
    rintro en w2 ⟨u, rfl, hs⟩
    obtain ⟨au, cu, rfl⟩ := (hs.rdRecs 0 rfl).shape
    replace hs := Sep.objNew (f := fun v => #[v]) (hs.newCells #[.slice au xs.length cu] 57)
    go_wp2_with fail
    generalize w2.heap.size = b at hs ⊢
    refine wp_loopM [none, none, some 2, some 3, none, none, some 6, none, none, none, none, none, none, none, none, none, none, none, some 18, some 19, some 20, some 21, some 22, some 23, some 24, some 25, some 26, some 27, some 28, some 29, some 30, some 31, some 32, none, none, none, none, none, none, none, none, none, none] (fun (r : Nat) (f : Nat → Value) (wr : World) => (fun (v : Value) => ∃ (i : Nat), v = .int .i64 i ∧ i ≤ xs.length ∧ r = xs.length - i ∧ (xs.take i).all okA = true ∧ Sep w wr [accT b xs]) (f 18)) (xs.length) (by kernel_rfl) ?atStart1 ?round1
    case' atStart1 => (try dsimp only [nthV])
    case' round1 =>
      intro gk f wr l hl hrel J1 K1 hJ1 hK1
      (try simp only [mask] at hl)
      generalize f 18 = u18 at hl hrel
      subst hl
      (try dsimp only at hrel)
    case atStart1 => exact ⟨0, rfl, Nat.zero_le _, rfl, by simp, hs⟩
    case round1 =>
      clear hs
      obtain ⟨i, rfl, hi, rfl, hall, hs⟩ := hrel
      have HALL := Lib.hid hall
      clear hall
      by_cases hlt : i < xs.length
      · obtain ⟨b1, o1, e1, hb1, hc1⟩ := (hs.rdG h).at i hlt
        subst e1
        have x0 := hc1 0 (by decide)
        have x1 := hc1 1 (by decide)
        simp only [acR, Nat.add_zero, List.getElem?_toArray, List.getElem?_cons_zero, List.getElem?_cons_succ] at x0 x1
        obtain ⟨B, hB⟩ : ∃ B, B = xs[i].bal := ⟨_, rfl⟩
        obtain ⟨R, hR⟩ : ∃ R, R = xs[i].res := ⟨_, rfl⟩
        have hok : okA xs[i] = (mayB B && mayB R) := by rw [hB, hR]; rfl
        rw [← hB] at x0
        rw [← hR] at x1
        have HOK := Lib.hid hok
        clear hB hR hc1 hok
        replace hs := hs.newCells #[.int .i64 B, .int .i64 R] 27
        cases hmb : mayB B
        · have HE := Lib.hid (show ofE xs = 1 by simp [ofE, hl, all_stop hlt (by rw [HOK.out, hmb]; rfl)])
          go_wp2_with fail
          refine (may_any B _).mono ?_
          rintro en w3 ⟨rfl, rfl⟩
          rw [hmb]
          go_wp2_with fail
          go_ret2
          exact .inr ⟨by rw [HE.out]; decide, by rw [HE.out]; rfl, hs.below⟩
        · cases hmr : mayB R
          · have HE := Lib.hid (show ofE xs = 1 by simp [ofE, hl, all_stop hlt (by rw [HOK.out, hmb, hmr]; rfl)])
            go_wp2_with fail
            refine (may_any B _).mono ?_
            rintro en w3 ⟨rfl, rfl⟩
            rw [hmb]
            go_wp2_with fail
            refine (may_any R _).mono ?_
            rintro en w3 ⟨rfl, rfl⟩
            rw [hmr]
            go_wp2_with fail
            go_ret2
            exact .inr ⟨by rw [HE.out]; decide, by rw [HE.out]; rfl, hs.below⟩
          · have HST := Lib.hid (all_step hlt HALL.out (by rw [HOK.out, hmb, hmr]; rfl))
            go_wp2_with fail
            refine (may_any B _).mono ?_
            rintro en w3 ⟨rfl, rfl⟩
            rw [hmb]
            go_wp2_with fail
            refine (may_any R _).mono ?_
            rintro en w3 ⟨rfl, rfl⟩
            rw [hmr]
            go_wp2_with fail
            refine Round.intro (xs.length - (i + 1)) ?measure2 (by kernel_rfl) (hJ1 _ _ _ ?rel2)
            case' rel2 => (try dsimp only [nthV])
            case measure2 => omega
            case rel2 => exact ⟨i + 1, by go_num, hlt, rfl, HST.out, hs.tail⟩
      · obtain rfl : i = xs.length := by omega
        obtain ⟨v2, hb2, hr2⟩ := hs.obj 0 rfl
        have hc2 := cell_of hb2 0
        simp only [List.getElem?_toArray, List.getElem?_cons_zero] at hc2
        have HE := Lib.hid (show ofE xs = sumE (bals xs) by have := HALL.out; rw [List.take_length] at this; simp [ofE, hl, this])
        clear hb2
        go_wp2_with fail
        refine (balances_any b _ xs _ hc2 hr2 hsm).mono ?_
        rintro en w3 ⟨u3, rfl, k3⟩
        replace hs := hs.join k3
        go_wp2_with fail
        refine (sum_any _ (bals xs) _ (hs.rdInts 0 rfl)).mono ?_
        rintro en w4 ⟨rfl, rfl⟩
        obtain ⟨E, hE⟩ : ∃ E, E = sumE (bals xs) := ⟨_, rfl⟩
        rw [← hE] at HE ⊢
        by_cases hz : E = 0
        · subst hz
          clear hE
          go_wp2_with fail
          go_ret2
          exact .inl ⟨HE.out, _, rfl, hs.tail⟩
        · have hnz : (E != 0) = true := by simpa using hz
          have HZ := Lib.hid hz
          clear hE hz
          go_wp2_with fail
          go_ret2
          exact .inr ⟨by rw [HE.out]; exact HZ.out, by rw [HE.out]; rfl, hs.below⟩
end Go.Proofs.Ytlpfojpfepfdgaa
