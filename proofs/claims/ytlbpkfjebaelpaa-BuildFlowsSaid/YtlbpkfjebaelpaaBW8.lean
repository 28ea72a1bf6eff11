/-
  Package build, walked: Pays; a clone of numbers.
-/
import Derived.Test.YtlbpkfjebaelpaaBW7
import Derived.Test.YtlbpkfjebaelpaaNW1
namespace Go.BuildP
/-- How many of what flows are paid. -/
def payN (d : Int) (len : Nat) : Nat := min d.toNat len
end Go.BuildP
namespace Go.Proofs.Ytlbpkfjebaelpaa
open Go Go.RowKit Go.Mem Go.MoneyP Go.NetP Go.BuildP
set_option maxHeartbeats 1000000 in
set_option maxRecDepth 100000 in
theorem bclone_any (v : Value) (fl : List Int) (w : World) (h : Rd .i64 w v fl) (hsm : fl.length ≤ 1000000) :
    Calls Try.prog 26 #[v] w fun en w' => ∃ u, en = .returned u ∧ Sep w w' [intsT .i64 2 u fl] := by
  obtain ⟨i0, hi0, hz0, hz1, hz2⟩ := info_parts Try.infoI64b
  obtain ⟨a, c, rfl⟩ := h.shape
  match a with
  | none =>
    have hf : fl = [] := by
      rcases Nat.eq_zero_or_pos fl.length with h0 | h0
      · exact List.eq_nil_of_length_eq_zero h0
      · obtain ⟨b, o, e, _⟩ := h.at 0 h0; cases e
    subst hf
    have hc : c = 0 := by
      obtain ⟨a', c', e, _, hn, _⟩ := h
      injection e with e1 e2 e3
      rw [e3]; exact hn e1.symm
    subst hc
    have hs := (Sep.start w).nilInts .i64 2
    have hnil := fun (W : World) => Lib.run_eql_slice_nil (P := Try.prog) W 22 2 none 0 0 0 0 Try.underlying22
    go_enter Try.func26, Try.ntmps26
    go_wp2_with fail
    go_ret
    exact ⟨_, rfl, hs⟩
  | some a =>
    have hs2 := (Sep.start w).litInts .i64 2 [] (by simp [maxLen])
    simp only [List.map_cons, List.map_nil, List.length_cons, List.length_nil, Nat.reduceAdd, World.size_alloc] at hs2
    have hnil := fun (W : World) => Lib.run_eql_slice_nil (P := Try.prog) W 22 2 (some a) fl.length c 0 0 Try.underlying22
    go_enter Try.func26, Try.ntmps26
    go_wp2_with (at_builtin; refine wpList_appRd rfl (.tmp 5) (.tmp 6) 22 rfl 2 i0 _ 8 Try.underlying22 hi0 hz0 hz1 hz2 rfl _ [] .i64 _ fl hs2 0 rfl (hs2.rd h) rfl rfl ?c3 ?c4 ?grow)
    case c3 => (try simp); (try simp only [maxLen]); (try omega)
    case c4 => (try simp); (try simp only [maxLen]); (try omega)
    case grow =>
      intro vo w4 hs3
      (try simp only [List.set_cons_zero, List.nil_append] at hs3)
      clear hnil hs2
      go_wp2_with fail
      go_ret
      exact ⟨_, rfl, hs3⟩
/-- The first k of a row that is read. -/
theorem Rd.takeK {k : IntKind} {w : World} {a : Option Addr} {c : Nat} {xs : List Int} (h : Rd k w (.slice a xs.length c) xs) (m : Nat) (hm : m ≤ xs.length) : Rd k w (.slice a m c) (xs.take m) := by
  obtain ⟨a', c', e, hl, hn, hc⟩ := h
  injection e with e1 e2 e3
  subst e1; subst e3
  have hml : (xs.take m).length = m := by rw [List.length_take, Nat.min_eq_left hm]
  refine ⟨a, c, by rw [hml], by rw [hml]; omega, hn, fun h0 => ?_⟩
  obtain ⟨b, off, e, hb, hcell⟩ := hc (by omega)
  refine ⟨b, off, e, hb, fun i hi => ?_⟩
  rw [hcell i (by omega)]
  congr 2
  rw [List.getD_eq_getElem?_getD, List.getD_eq_getElem?_getD, List.getElem?_take, if_pos (by omega)]
set_option maxHeartbeats 1000000 in
theorem pays_any (n : Int) (ae : Option Addr) (le ce : Nat) (v : Value) (ps : List Int) (d : Int) (w : World) (h : Rd .i64 w v ps) (hcap : ∀ a n c, v = .slice a n c → n ≤ c) (hsm : ps.length ≤ 1000000) :
    Calls Try.prog 11 #[.agg #[.int .i64 n, .slice ae le ce], v, .int .i64 d] w fun en w' => ∃ u, en = .returned u ∧ Sep w w' [intsT .i64 2 u (ps.take (payN d ps.length))] := by
  obtain ⟨a, c, rfl⟩ := h.shape
  have hle := h.le'
  have hcl := hcap _ _ _ rfl
  clear hcap
  have hs := (Sep.start w).newCells #[.int .i64 n, .slice ae le ce] 28
  have HC := Lib.hid (fun m (hm : m ≤ ps.length) => bclone_any _ (ps.take m) _ (Rd.takeK (hs.rd h) m hm) (by rw [List.length_take]; omega))
  by_cases h1 : (ps.length : Int) < d
  · have HK := Lib.hid (HC.out ps.length (Nat.le_refl _))
    rw [show ps.take ps.length = ps.take (payN d ps.length) by unfold payN; rw [Nat.min_eq_right (by omega)]] at HK
    by_cases h2 : (0 : Int) < (ps.length : Int)
    · go_enter Try.func11, Try.ntmps11
      go_wp2_with fail
      refine (HK.out).mono ?_
      rintro en w1 ⟨u, rfl, k1⟩
      go_wp2_with fail
      go_ret
      exact ⟨u, rfl, ((hs.join k1).takeN 1)⟩
    · have h0 : ps.length = 0 := by omega
      rw [h0] at HK h1 h2 ⊢
      go_enter Try.func11, Try.ntmps11
      go_wp2_with fail
      refine (HK.out).mono ?_
      rintro en w1 ⟨u, rfl, k1⟩
      go_wp2_with fail
      go_ret
      exact ⟨u, rfl, ((hs.join k1).takeN 1)⟩
  · by_cases h2 : (0 : Int) < d
    · obtain ⟨m, rfl⟩ : ∃ m : Nat, d = m := ⟨d.toNat, by omega⟩
      have HK := Lib.hid (HC.out m (by omega))
      rw [show ps.take m = ps.take (payN m ps.length) by unfold payN; rw [Nat.min_eq_left (by omega)]; rfl] at HK
      go_enter Try.func11, Try.ntmps11
      go_wp2_with fail
      refine (HK.out).mono ?_
      rintro en w1 ⟨u, rfl, k1⟩
      go_wp2_with fail
      go_ret
      exact ⟨u, rfl, ((hs.join k1).takeN 1)⟩
    · have HK := Lib.hid (HC.out 0 (by omega))
      rw [show ps.take 0 = ps.take (payN d ps.length) by unfold payN; rw [show d.toNat = 0 by omega, Nat.zero_min]] at HK
      go_enter Try.func11, Try.ntmps11
      go_wp2_with fail
      refine (HK.out).mono ?_
      rintro en w1 ⟨u, rfl, k1⟩
      go_wp2_with fail
      go_ret
      exact ⟨u, rfl, ((hs.join k1).takeN 1)⟩
end Go.Proofs.Ytlbpkfjebaelpaa
