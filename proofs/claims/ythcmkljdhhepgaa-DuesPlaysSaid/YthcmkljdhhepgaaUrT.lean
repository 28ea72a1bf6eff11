/-
  The document's dues: how they lie; New, Gross, place, Get, walked.
-/
import Derived.Test.YthcmkljdhhepgaaUdNilW
set_option linter.unusedVariables false
set_option linter.unusedSimpArgs false
namespace Go.DuesP
open Go Go.BuildP
/-- What place answers. -/
def placeV (xs : List Du) (id : Int) : Int := match idx xs id with
  | none => -1
  | some j => j
theorem idx_at {xs : List Du} {id : Int} {j : Nat} (hj : j < xs.length) (h : (xs[j]).id = id) (hn : ∀ k (hk : k < j), (xs[k]'(by omega)).id ≠ id) : idx xs id = some j := by
  unfold idx
  rw [List.findIdx?_eq_some_iff_getElem]
  exact ⟨hj, by simpa using h, fun k hk => by simpa using hn k hk⟩
theorem idx_no {xs : List Du} {id : Int} (hn : ∀ k (hk : k < xs.length), (xs[k]).id ≠ id) : idx xs id = none := by
  unfold idx
  refine List.findIdx?_eq_none_iff.2 fun d hd => ?_
  obtain ⟨k, hk, rfl⟩ := List.getElem_of_mem hd
  simpa using hn k hk
end Go.DuesP
namespace Go.Proofs.Ythcmkljdhhepgaa
open Go Go.RowKit Go.Mem Go.MoneyP Go.NetP Go.BuildP Go.DuesP Go.Maps Go.Shelf
attribute [local go_sem] Oper.semAt_some
abbrev refO (b : Nat) (v : Value) (nx : Int) : Thing := cellsT b #[v, .int .u64 nx] 60
/-- The document's dues as they lie. -/
def refD (b : Nat) (xs : List Du) (nx : Int) : Thing := exT (fun _ => True) (fun v : Value => packT [refO b v nx, recT duR 36 v xs])
section
variable {w0 w : World} {L : List Thing} {i b : Nat} {xs : List Du} {nx : Int}
theorem Sep.refOpen (hs : Sep w0 w L) (hi : L[i]? = some (refD b xs nx)) : ∃ v, Sep w0 w (refO b v nx :: recT duR 36 v xs :: L.eraseIdx i) := by
  obtain ⟨v, _, h⟩ := Sep.exOut (hs.front hi)
  exact ⟨v, h.unpack⟩
theorem Sep.refClose {A : Thing} {v : Value} (hi : L[i]? = some A) (h : Sep w0 w (refO b v nx :: recT duR 36 v xs :: L.eraseIdx i)) : Sep w0 w (L.set i (refD b xs nx)) :=
  Sep.back (Sep.exIn (T := fun v : Value => packT [refO b v nx, recT duR 36 v xs]) (Sep.pack (M := [refO b v nx, recT duR 36 v xs]) h) trivial) hi
theorem rNew_any (hs : Sep w0 w L) : Calls Try.prog 19 #[] w fun en w' => ∃ b, en = .returned (.pointer (some ⟨b, 0, none⟩)) ∧ Sep w0 w' (refD b [] 1 :: L) := by
  have hs1 := (hs.newCells #[.slice none 0 0, .int .u64 1] 60)
  have hs2 := (hs1.nilRecs duR 36).perm (List.Perm.swap _ _ _)
  have HS := Lib.hid (Sep.exIn (P := fun _ : Value => True) (T := fun v : Value => packT [refO w.heap.size v 1, recT duR 36 v []]) (Sep.pack (M := [refO w.heap.size (.slice none 0 0) 1, recT duR 36 (.slice none 0 0) []]) hs2) trivial)
  clear hs hs1 hs2
  go_enter Try.func19, Try.ntmps19
  go_wp2_with fail
  go_ret
  exact ⟨_, rfl, HS.out⟩
set_option maxHeartbeats 1000000 in
theorem ramounts_any (v : Value) (xs : List Du) (w : World) (h : RdG duR w v xs) (hsm : xs.length ≤ 1000) :
    Calls Try.prog 37 #[v] w fun en w' => ∃ u, en = .returned u ∧ Sep w w' [intsT .i64 2 u (xs.map (·.x))] := by
  obtain ⟨i0, hi0, hz0, hz1, hz2⟩ := info_parts Try.infoI64b
  obtain ⟨a, c, rfl⟩ := h.shape
  obtain ⟨n, hn⟩ : ∃ n, n = xs.length := ⟨_, rfl⟩
  have HN := Lib.hid hn
  have HR := Lib.hid h
  rw [← hn] at hsm ⊢
  clear h hn
  go_enter Try.func37, Try.ntmps37
  go_wp2_with fail
  refine wp_loopM [none, none, none, some 3, some 4, some 5, some 6, some 7, some 8, some 9, some 10, some 11, some 12, some 13, some 14, some 15, some 16, some 17, some 18, none] (fun (r : Nat) (f : Nat → Value) (wr : World) => (fun (vo vi : Value) => ∃ (i : Nat), vi = .int .i64 i ∧ i ≤ n ∧ r = n - i ∧ Sep w wr [intsT .i64 2 vo ((xs.take i).map (·.x))]) (f 3) (f 4)) (n) (by kernel_rfl) ?atStart1 ?round1
  case' atStart1 => (try dsimp only [nthV])
  case' round1 =>
    intro gk f wr l hl hrel J1 K1 hJ1 hK1
    (try simp only [mask] at hl)
    generalize f 3 = u3 at hl hrel
    generalize f 4 = u4 at hl hrel
    subst hl
    (try dsimp only at hrel)
  case atStart1 => exact ⟨0, rfl, Nat.zero_le _, rfl, (Sep.start w).nilInts _ _⟩
  case round1 =>
    obtain ⟨i, rfl, hi, rfl, hs⟩ := hrel
    by_cases hlt : i < n
    · have hltI : (i : Int) < (n : Int) := by omega
      have hix : i < xs.length := by rw [← HN.out]; exact hlt
      obtain ⟨b1, o1, e1, hb1, hc1⟩ := HR.out.at i hix
      have x3 := (hs.cell hb1).trans (hc1 3 (by decide))
      obtain ⟨X, hX⟩ : ∃ X, X = (xs[i]'hix).x := ⟨_, rfl⟩
      have HB := Lib.hid (show (xs.take (i + 1)).map (·.x) = (xs.take i).map (·.x) ++ [X] by rw [List.take_succ_eq_append_getElem hix, List.map_append, hX]; rfl)
      simp only [duR, Nat.add_zero, List.getElem?_cons_zero, List.getElem?_cons_succ, ← hX] at x3
      obtain ⟨Y, hY⟩ : ∃ Y, Y = (xs.take i).map (·.x) := ⟨_, rfl⟩
      have HYL := Lib.hid (show Y.length = i by rw [hY, List.length_map, List.length_take]; have := HN.out; omega)
      rw [← hY] at hs HB
      clear hX hix hc1 hb1 hY
      subst e1
      go_wp2_with (at_builtin; refine wpList_appInt rfl (.tmp 11) (.tmp 17) 68 rfl 2 i0 _ 8 Try.underlying68 hi0 hz0 hz1 hz2 rfl _ Y .i64 X hs 0 rfl rfl rfl ?c3 ?c4 ?grow)
      case c3 => rw [HYL.out]; unfold maxLen; omega
      case c4 => rw [HYL.out]; omega
      case grow =>
        intro v' w5 hs5 hsh
        obtain ⟨g, cap, rfl⟩ := hsh.out
        rw [← HB.out] at hs5
        clear hs hsh x3
        go_wp2_with fail
        refine Round.intro ((n - (i + 1))) ?measure2 (by kernel_rfl) (hJ1 _ _ _ ?rel2)
        case' rel2 => (try dsimp only [nthV])
        case measure2 => omega
        case rel2 => exact ⟨i + 1, by go_num, hlt, rfl, hs5⟩
    · obtain rfl : n = i := by omega
      have HS := Lib.hid (show Sep w wr [intsT .i64 2 u3 (xs.map (·.x))] by rw [HN.out, List.take_length] at hs; exact hs)
      clear hs
      go_wp2_with fail
      go_ret
      exact ⟨u3, rfl, HS.out⟩
theorem rGross_any (hs : Sep w0 w L) (hi : L[i]? = some (refD b xs nx)) (hl : xs.length ≤ 1000) :
    Calls Try.prog 25 #[.pointer (some ⟨b, 0, none⟩)] w fun en w' => en = .returned (.int .i64 (gross xs)) ∧ Sep w0 w' L := by
  obtain ⟨v, h⟩ := Sep.refOpen hs hi
  have c0 := cell_of (h.cells 0 rfl) 0
  simp only [List.getElem?_toArray, List.getElem?_cons_zero] at c0
  have HC := Lib.hid (ramounts_any v xs w (h.rdRecs 1 rfl) hl)
  have HS := Lib.hid hs
  clear hs h hi
  go_enter Try.func25, Try.ntmps25
  go_wp2_with fail
  refine HC.out.mono ?_
  rintro en w1 ⟨u, rfl, h1⟩
  have HS1 := Lib.hid (HS.out.belowStep h1.below)
  have hr := h1.rdInts 0 rfl
  clear h1 HC c0
  go_wp2_with fail
  refine (rsum_any u _ _ hr).mono ?_
  rintro en w2 ⟨rfl, rfl⟩
  clear hr
  go_wp2_with fail
  go_ret
  exact ⟨rfl, HS1.out⟩
set_option maxHeartbeats 1000000 in
theorem rplace_any (hs : Sep w0 w L) (hi : L[i]? = some (refD b xs nx)) (hl : xs.length ≤ 1000) (id : Int) :
    Calls Try.prog 45 #[.pointer (some ⟨b, 0, none⟩), .int .u64 id] w fun en w' => en = .returned (.int .i64 (placeV xs id)) ∧ w' = w := by
  obtain ⟨v, h⟩ := Sep.refOpen hs hi
  have c0 := cell_of (h.cells 0 rfl) 0
  simp only [List.getElem?_toArray, List.getElem?_cons_zero] at c0
  have HR := Lib.hid (h.rdRecs 1 rfl)
  obtain ⟨a, c, rfl⟩ := HR.out.shape
  obtain ⟨n, hn⟩ : ∃ n, n = xs.length := ⟨_, rfl⟩
  have HN := Lib.hid hn
  rw [← hn] at hl c0 HR
  clear hs hi h hn
  go_enter Try.func45, Try.ntmps45
  go_wp2_with fail
  refine wp_loopM [none, none, none, none, some 4, some 5, some 6, some 7, some 8, some 9, some 10, some 11, some 12, some 13, some 14, some 15, some 16, some 17, some 18, some 19, some 20, some 21, some 22, some 23, some 24, some 25] (fun (r : Nat) (f : Nat → Value) (wr : World) => (fun (vi : Value) => ∃ (j : Nat), vi = .int .i64 j ∧ j ≤ n ∧ r = n - j ∧ Hid (∀ k (hk : k < xs.length), k < j → (xs[k]).id ≠ id) ∧ wr = w) (f 5)) (n) (by kernel_rfl) ?atStart3 ?round3
  case' atStart3 => (try dsimp only [nthV])
  case' round3 =>
    intro gk f wr l hl hrel J1 K1 hJ1 hK1
    (try simp only [mask] at hl)
    generalize f 5 = u5 at hl hrel
    subst hl
    (try dsimp only at hrel)
  case atStart3 => exact ⟨0, rfl, Nat.zero_le _, rfl, Lib.hid (fun k _ h => by omega), rfl⟩
  case round3 =>
    obtain ⟨j, rfl, hj, rfl, HK, rfl⟩ := hrel
    by_cases hlt : j < n
    · have hltI : (j : Int) < (n : Int) := by omega
      have hjx : j < xs.length := by rw [← HN.out]; exact hlt
      obtain ⟨b1, o1, e1, _, hc1⟩ := HR.out.at j hjx
      have x0 := hc1 0 (by decide)
      obtain ⟨X, hX⟩ : ∃ X, X = (xs[j]'hjx).id := ⟨_, rfl⟩
      have HX := Lib.hid (show ∃ h : j < xs.length, X = (xs[j]'h).id from ⟨hjx, hX⟩)
      simp only [duR, Nat.add_zero, List.getElem?_cons_zero, List.getElem?_cons_succ, ← hX] at x0
      clear hX hjx hc1
      subst e1
      by_cases he : X = id
      · have HE := Lib.hid (show placeV xs id = (j : Int) by
          obtain ⟨h1, h2⟩ := HX.out
          unfold placeV
          rw [idx_at h1 (by rw [← h2]; exact he) (fun k hk => HK.out k (by omega) hk)])
        have heb : (X == id) = true := by simpa using he
        clear he
        go_wp2_with fail
        go_ret
        exact ⟨by rw [HE.out]; rfl, rfl⟩
      · have HK2 := Lib.hid (show ∀ k (hk : k < xs.length), k < j + 1 → (xs[k]).id ≠ id from fun k hk hlt2 => by
          by_cases q : k = j
          · subst q
            obtain ⟨h1, h2⟩ := HX.out
            rw [← h2]; exact he
          · exact HK.out k hk (by omega))
        have heb : (X == id) = false := by simpa using he
        clear he
        go_wp2_with fail
        refine Round.intro ((n - (j + 1))) ?measure4 (by kernel_rfl) (hJ1 _ _ _ ?rel4)
        case' rel4 => (try dsimp only [nthV])
        case measure4 => omega
        case rel4 => exact ⟨j + 1, by go_num, by omega, rfl, HK2, rfl⟩
    · obtain rfl : n = j := by omega
      have HE := Lib.hid (show placeV xs id = -1 by
        unfold placeV
        rw [idx_no (fun k hk => HK.out k hk (by rw [HN.out]; exact hk))])
      go_wp2_with fail
      go_ret
      exact ⟨by rw [HE.out]; rfl, rfl⟩
end
end Go.Proofs.Ythcmkljdhhepgaa
