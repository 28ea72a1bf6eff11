/-
  Package accounts, walked: Get, List, Rooms, New, Open, Of.
-/
import Derived.Test.YtlpfojpfepfdgaaAW1
namespace Go.Proofs.Ytlpfojpfepfdgaa
open Go Go.RowKit Go.Mem Go.MoneyP Go.AcctP

set_option maxHeartbeats 1000000 in
theorem get_any (b : Nat) (v : Value) (xs : List Ac) (k : Int) (w : World) (hb : w.cell? ⟨b, 0, none⟩ = some v) (h : RdG acR w v xs) :
    Calls Try.prog 10 #[.pointer (some ⟨b, 0, none⟩), .int .i64 k] w fun en w' => en = .returned (.tuple #[.agg #[.int .i64 (getV xs k).bal, .int .i64 (getV xs k).res], .bool (bankB xs.length k)]) ∧ Below w.heap.size w w' := by
  have hlt := World.block_lt_of_cell? w _ hb
  obtain ⟨a, c, rfl⟩ := h.shape
  have hle := h.le'
  by_cases h0 : k < 0
  · have H : bankB xs.length k = false := (bankB_no _ _).2 (.inl h0)
    have H2 := Lib.hid (show getV xs k = ⟨0, 0⟩ by simp [getV, H])
    have H1 := Lib.hid H
    clear H
    go_enter Try.func10, Try.ntmps10
    go_wp2_with fail
    refine bodyPost_ret (v := .tuple #[.agg #[.int .i64 0, .int .i64 0], .bool false]) (by simp [results, Try.results10, go_sem]) rfl ⟨by rw [H2.out, H1.out], ?_⟩
    exact (Below.refl _ _).alloc (Nat.le_refl _) _
  · by_cases h1 : (xs.length : Int) ≤ k
    · have H : bankB xs.length k = false := (bankB_no _ _).2 (.inr h1)
      have H2 := Lib.hid (show getV xs k = ⟨0, 0⟩ by simp [getV, H])
      have H1 := Lib.hid H
      clear H
      go_enter Try.func10, Try.ntmps10
      go_wp2_with fail
      refine bodyPost_ret (v := .tuple #[.agg #[.int .i64 0, .int .i64 0], .bool false]) (by simp [results, Try.results10, go_sem]) rfl ⟨by rw [H2.out, H1.out], ?_⟩
      exact (Below.refl _ _).alloc (Nat.le_refl _) _
    · obtain ⟨i, rfl⟩ : ∃ i : Nat, k = i := ⟨k.toNat, by omega⟩
      have hi : i < xs.length := by omega
      have H : bankB xs.length i = true := (bankB_iff _ _).2 ⟨by omega, by omega⟩
      have H2 := Lib.hid (show getV xs i = xs[i] by simp [getV, H, acAt_of hi])
      have H1 := Lib.hid H
      clear H
      obtain ⟨b1, o1, e1, hb1, hc1⟩ := h.at i hi
      subst e1
      have x0 := hc1 0 (by decide)
      have x1 := hc1 1 (by decide)
      simp only [acR, Nat.add_zero, List.getElem?_toArray, List.getElem?_cons_zero, List.getElem?_cons_succ] at x0 x1
      obtain ⟨B, hB⟩ : ∃ B, B = xs[i].bal := ⟨_, rfl⟩
      obtain ⟨R, hR⟩ : ∃ R, R = xs[i].res := ⟨_, rfl⟩
      rw [← hB] at x0
      rw [← hR] at x1
      have HB := Lib.hid hB
      have HR := Lib.hid hR
      clear hB hR hc1 h0 h1
      go_enter Try.func10, Try.ntmps10
      go_wp2_with fail
      refine bodyPost_ret (v := .tuple #[.agg #[.int .i64 B, .int .i64 R], .bool true]) (by simp [results, Try.results10, go_sem]) rfl ⟨by rw [H2.out, H1.out, HB.out, HR.out], ?_⟩
      exact (Below.refl _ _).alloc (Nat.le_refl _) _
set_option maxHeartbeats 1000000 in
theorem list_any (b : Nat) (v : Value) (xs : List Ac) (w : World) (hb : w.cell? ⟨b, 0, none⟩ = some v) (h : RdG acR w v xs) (hsm : xs.length ≤ 1000000) :
    Calls Try.prog 14 #[.pointer (some ⟨b, 0, none⟩)] w fun en w' => ∃ u, en = .returned u ∧ Sep w w' [recT acR 27 u xs] := by
  go_enter Try.func14, Try.ntmps14
  go_wp2_with fail
  refine (clone_any _ xs _ h hsm).mono ?_
  rintro en w2 ⟨u, rfl, hs⟩
  go_wp2_with fail
  go_ret
  exact ⟨_, rfl, hs⟩
set_option maxHeartbeats 1000000 in
theorem rooms_any (b : Nat) (v : Value) (xs : List Ac) (w : World) (hb : w.cell? ⟨b, 0, none⟩ = some v) (h : RdG acR w v xs) (hg : GoodA xs) :
    Calls Try.prog 11 #[.pointer (some ⟨b, 0, none⟩)] w fun en w' => ∃ u, en = .returned u ∧ Sep w w' [intsT .i64 2 u (roomsL xs)] := by
  obtain ⟨i0, hi0, hz0, hz1, hz2⟩ := info_parts Try.infoI64
  have hlen := hg.len
  have HG := Lib.hid hg
  go_enter Try.func11, Try.ntmps11
  go_wp2_with fail
  refine (list_any b _ xs _ hb h (by omega)).mono ?_
  rintro en w2 ⟨u, rfl, hs⟩
  clear hg
  obtain ⟨a, c, rfl⟩ := (hs.rdRecs 0 rfl).shape
  replace hs := hs.nilInts .i64 2
  go_wp2_with fail
  refine wp_loopM [none, none, none, some 3, none, some 5, none, none, none, some 9, some 10, some 11, some 12, some 13, some 14, some 15, some 16, some 17, some 18, some 19, some 20, some 21, some 22, none] (fun (r : Nat) (f : Nat → Value) (wr : World) => (fun (vo v : Value) => ∃ (i : Nat), v = .int .i64 i ∧ i ≤ xs.length ∧ r = xs.length - i ∧ Sep w wr [intsT .i64 2 vo ((roomsL xs).take i), recT acR 27 (.slice a xs.length c) xs]) (f 3) (f 9)) (xs.length) (by kernel_rfl) ?atStart1 ?round1
  case' atStart1 => (try dsimp only [nthV])
  case' round1 =>
    intro gk f wr l hl hrel J1 K1 hJ1 hK1
    (try simp only [mask] at hl)
    generalize f 3 = u3 at hl hrel
    generalize f 9 = u9 at hl hrel
    subst hl
    (try dsimp only at hrel)
  case atStart1 => exact ⟨0, rfl, Nat.zero_le _, rfl, hs⟩
  case round1 =>
    clear hs
    obtain ⟨i, rfl, hi, rfl, hs⟩ := hrel
    by_cases hlt : i < xs.length
    · obtain ⟨b1, o1, e1, hb1, hc1⟩ := (hs.rdRecs 1 rfl).at i hlt
      subst e1
      have x0 := hc1 0 (by decide)
      have x1 := hc1 1 (by decide)
      simp only [acR, Nat.add_zero, List.getElem?_toArray, List.getElem?_cons_zero, List.getElem?_cons_succ] at x0 x1
      have HB := Lib.hid (rooms_take hlt)
      have hga := HG.out.at hlt
      obtain ⟨B, hB⟩ : ∃ B, B = xs[i].bal := ⟨_, rfl⟩
      obtain ⟨R, hR⟩ : ∃ R, R = xs[i].res := ⟨_, rfl⟩
      rw [← hB] at x0 HB hga
      rw [← hR] at x1 HB hga
      obtain ⟨⟨g0, g1⟩, g2, g3⟩ := hga
      clear hB hR hc1
      have hs2 := hs.newCells #[.int .i64 B, .int .i64 R] 27
      by_cases hmx : R < B
      · rw [show max (B - R) 0 = B - R by omega] at HB
        go_wp2_with (at_builtin; refine wpList_appInt rfl (.tmp 13) (.tmp 20) 35 rfl 2 i0 _ 8 Try.underlying35 hi0 hz0 hz1 hz2 rfl _ _ .i64 (B - R) hs2 1 rfl rfl (by simp [go_sem]) ?c3 ?c4 ?grow)
        case c3 => (try simp); (try simp only [maxLen]); omega
        case c4 => (try simp); omega
        case grow =>
          intro vo w4 hs4 HSH
          rw [← HB.out] at hs4
          clear hs hs2
          go_wp2_with fail
          refine Round.intro (xs.length - (i + 1)) ?measure2 (by kernel_rfl) (hJ1 _ _ _ ?rel2)
          case' rel2 => (try dsimp only [nthV])
          case measure2 => omega
          case rel2 => exact ⟨i + 1, by go_num, hlt, rfl, hs4.tail⟩
      · rw [show max (B - R) 0 = 0 by omega] at HB
        go_wp2_with (at_builtin; refine wpList_appInt rfl (.tmp 13) (.tmp 20) 35 rfl 2 i0 _ 8 Try.underlying35 hi0 hz0 hz1 hz2 rfl _ _ .i64 0 hs2 1 rfl rfl (by simp [go_sem]) ?c5 ?c6 ?grow2)
        case c5 => (try simp); (try simp only [maxLen]); omega
        case c6 => (try simp); omega
        case grow2 =>
          intro vo w4 hs4 HSH
          rw [← HB.out] at hs4
          clear hs hs2
          go_wp2_with fail
          refine Round.intro (xs.length - (i + 1)) ?measure3 (by kernel_rfl) (hJ1 _ _ _ ?rel3)
          case' rel3 => (try dsimp only [nthV])
          case measure3 => omega
          case rel3 => exact ⟨i + 1, by go_num, hlt, rfl, hs4.tail⟩
    · obtain rfl : i = xs.length := by omega
      rw [← rooms_length xs, List.take_length] at hs
      go_wp2_with fail
      go_ret
      exact ⟨_, rfl, hs.takeN 1⟩
theorem new_any (w : World) :
    Calls Try.prog 16 #[] w fun en w' => ∃ b, en = .returned (.pointer (some ⟨b, 0, none⟩)) ∧ Sep w w' [accT b []] := by
  have hs := ((Sep.start w).nilRecs acR 27).newCells #[.slice none 0 0] 57
  go_enter Try.func16, Try.ntmps16
  go_wp2_with fail
  go_ret
  exact ⟨_, rfl, hs.objNew⟩
end Go.Proofs.Ytlpfojpfepfdgaa
