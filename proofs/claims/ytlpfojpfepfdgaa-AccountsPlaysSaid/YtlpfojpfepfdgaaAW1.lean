/-
  Package accounts, walked: what only reads, and what makes accounts.
-/
import Derived.Test.YtlpfojpfepfdgaaAPlain
import Derived.Test.YtlpfojpfepfdgaaObj
import Derived.Test.YtlpfojpfepfdgaaMW3
namespace Go.Proofs.Ytlpfojpfepfdgaa
open Go Go.RowKit Go.Mem Go.MoneyP Go.AcctP

theorem Try.infoAcct : (Try.prog.info? 27).map (fun i => (i.zero, i.size, i.bytes)) = some (some (.agg #[.int .i64 0, .int .i64 0]), 2, 16) := by kernel_rfl
/-- Accounts in block b. -/
abbrev accT (b : Nat) (xs : List Ac) : Thing := objT acR 57 27 (fun v => #[v]) b xs
theorem one_inj : ∀ x y : Value, (fun v : Value => #[v]) x = (fun v : Value => #[v]) y → x = y := fun x y h => by simpa using h

set_option maxHeartbeats 1000000 in
theorem clone_any (v : Value) (xs : List Ac) (w : World) (h : RdG acR w v xs) (hsm : xs.length ≤ 1000000) :
    Calls Try.prog 27 #[v] w fun en w' => ∃ u, en = .returned u ∧ Sep w w' [recT acR 27 u xs] := by
  obtain ⟨i0, hi0, hz0, hz1, hz2⟩ := info_parts Try.infoAcct
  obtain ⟨a, c, rfl⟩ := h.shape
  rcases a with _ | a
  · have hx : xs = [] := by
      rcases Nat.eq_zero_or_pos xs.length with q | q
      · exact List.eq_nil_of_length_eq_zero q
      · obtain ⟨b, o, e, _⟩ := h.at 0 q; cases e
    have hc : c = 0 := by obtain ⟨_, _, e, _, hn, _⟩ := h; injection e with e1 e2 e3; subst e1; subst e3; exact hn rfl
    subst hx; subst hc
    have he := fun w : World => Lib.run_eql_slice_nil (P := Try.prog) w 25 27 none 0 0 0 0 Try.underlying25
    simp at he
    go_enter Try.func27, Try.ntmps27
    go_wp2_with fail
    go_ret
    exact ⟨_, rfl, (Sep.start w).nilRecs acR _⟩
  · have he := fun w : World => Lib.run_eql_slice_nil (P := Try.prog) w 25 27 (some a) xs.length c 0 0 Try.underlying25
    simp at he
    have hs2 := (Sep.start w).litRecs acR 27 [] (by simp [maxLen])
    simp only [List.length_nil, Rec.flat, List.flatMap_nil] at hs2
    go_enter Try.func27, Try.ntmps27
    go_wp2_with (at_builtin; refine wpList_appRdG acR rfl (.tmp 5) (.tmp 6) 25 rfl 27 i0 _ 16 Try.underlying25 hi0 hz0 hz1 hz2 rfl _ [] _ xs hs2 0 rfl (hs2.rdG h) rfl rfl ?c3 ?c4 ?grow)
    case c3 => (try simp); (try simp only [maxLen]); (try omega)
    case c4 => (try simp); (try simp only [maxLen]); (try omega)
    case grow =>
      intro v' w2 hs3
      (try simp only [List.set_cons_zero, List.nil_append] at hs3)
      clear he
      go_wp2_with fail
      go_ret
      exact ⟨_, rfl, hs3⟩
set_option maxHeartbeats 1000000 in
theorem balances_any (b : Nat) (v : Value) (xs : List Ac) (w : World) (hb : w.cell? ⟨b, 0, none⟩ = some v) (h : RdG acR w v xs) (hsm : xs.length ≤ 1000000) :
    Calls Try.prog 30 #[.pointer (some ⟨b, 0, none⟩)] w fun en w' => ∃ u, en = .returned u ∧ Sep w w' [intsT .i64 2 u (bals xs)] := by
  obtain ⟨i0, hi0, hz0, hz1, hz2⟩ := info_parts Try.infoI64
  obtain ⟨a, c, rfl⟩ := h.shape
  go_enter Try.func30, Try.ntmps30
  go_wp2_with fail
  refine wp_loopM [none, none, none, some 3, none, some 5, none, none, none, none, none, some 11, some 12, some 13, some 14, some 15, some 16, some 17, some 18, some 19, some 20, none] (fun (r : Nat) (f : Nat → Value) (wr : World) => (fun (vo v : Value) => ∃ (i : Nat), v = .int .i64 i ∧ i ≤ xs.length ∧ r = xs.length - i ∧ Sep w wr [intsT .i64 2 vo ((bals xs).take i)]) (f 3) (f 11)) (xs.length) (by kernel_rfl) ?atStart1 ?round1
  case' atStart1 => (try dsimp only [nthV])
  case' round1 =>
    intro gk f wr l hl hrel J1 K1 hJ1 hK1
    (try simp only [mask] at hl)
    generalize f 3 = u3 at hl hrel
    generalize f 11 = u11 at hl hrel
    subst hl
    (try dsimp only at hrel)
  case atStart1 => exact ⟨0, rfl, Nat.zero_le _, rfl, (Sep.start w).nilInts _ _⟩
  case round1 =>
    obtain ⟨i, rfl, hi, rfl, hs⟩ := hrel
    by_cases hlt : i < xs.length
    · obtain ⟨b1, o1, e1, hb1, hc1⟩ := (hs.rdG h).at i hlt
      subst e1
      have x0 := hc1 0 (by decide)
      have x1 := hc1 1 (by decide)
      simp only [acR, Nat.add_zero, List.getElem?_toArray, List.getElem?_cons_zero, List.getElem?_cons_succ] at x0 x1
      have HB := Lib.hid (bals_take hlt)
      obtain ⟨B, hB⟩ : ∃ B, B = xs[i].bal := ⟨_, rfl⟩
      obtain ⟨R, hR⟩ : ∃ R, R = xs[i].res := ⟨_, rfl⟩
      rw [← hB] at x0 HB
      rw [← hR] at x1
      have htl := Lib.hid (show ((bals xs).take i).length = i by simp [bals]; omega)
      clear hB hR hc1
      have hs2 := hs.newCells #[.int .i64 B, .int .i64 R] 27
      go_wp2_with (at_builtin; refine wpList_appInt rfl (.tmp 15) (.tmp 18) 35 rfl 2 i0 _ 8 Try.underlying35 hi0 hz0 hz1 hz2 rfl _ _ .i64 B hs2 1 rfl rfl (by simp [go_sem]) ?c3 ?c4 ?grow)
      case c3 => (try simp); (try simp only [maxLen]); omega
      case c4 => (try simp); omega
      case grow =>
        intro vo w4 hs4 HSH
        rw [← HB.out] at hs4
        clear hs hs2
        go_wp2_with fail
        refine Round.intro (xs.length - (i + 1)) ?measure2 (by kernel_rfl) (hJ1 _ _ _ ?rel2)
        case' rel2 => (try dsimp only [nthV])
        case measure2 => omega
        case rel2 => exact ⟨i + 1, by go_num, hlt, rfl, hs4.tail⟩
    · obtain rfl : i = xs.length := by omega
      rw [← bals_length xs, List.take_length] at hs
      go_wp2_with fail
      go_ret
      exact ⟨_, rfl, hs⟩
end Go.Proofs.Ytlpfojpfepfdgaa
