/-
  Package dues: List, walked.
-/
import Derived.Test.YthcmkljdhhepgaaUdW3
set_option linter.unusedVariables false
set_option linter.unusedSimpArgs false
namespace Go.Proofs.Ythcmkljdhhepgaa
open Go Go.RowKit Go.Mem Go.MoneyP Go.NetP Go.BuildP Go.DuesP Go.Maps Go.Shelf
attribute [local go_sem] Oper.semAt_some
section
variable {w0 w : World} {L : List Thing} {i b : Nat} {xs : List Du} {nx : Int}
/-- What List leaves. -/
def ListD (w0 : World) (L : List Thing) (xs : List Du) (en : Ending) (w' : World) : Prop := ∃ v, en = .returned v ∧ Sep w0 w' (recT duR 36 v xs :: L)
theorem key_at {xs : List Du} {j : Nat} (hj : j < xs.length) : (xs.map Du.id).getD j 0 = (xs[j]).id := by
  rw [List.getD_eq_getElem?_getD, List.getElem?_map, List.getElem?_eq_getElem hj]; rfl
theorem list_end {A B C : Thing} {bm : Nat} (hi : L[i]? = some (duesT b xs nx)) (h : Sep w0 w (A :: B :: C :: dueO b bm nx :: dueT bm xs :: L.eraseIdx i)) : Sep w0 w (A :: L) := by
  have h2 := Sep.dueClose1 hi ((h.omit 2).omit 1)
  rwa [set_same hi] at h2
set_option maxRecDepth 100000 in
set_option maxHeartbeats 2000000 in
theorem duesList_any (hs : Sep w0 w L) (hi : L[i]? = some (duesT b xs nx)) (hg : GoodS xs nx) :
    Calls Try.prog 15 #[.pointer (some ⟨b, 0, none⟩)] w fun en w' => ListD w0 L xs en w' := by
  obtain ⟨bm, h⟩ := Sep.dueOpen hs hi
  obtain ⟨i0, hi0, hz0, hz1, hz2⟩ := info_parts Try.infoDuz
  have c0 := cell_of (h.cells 0 rfl) 0
  simp only [List.getElem?_toArray, List.getElem?_cons_zero] at c0
  have HI := Lib.hid hi
  have hK := h.newCells #[.map (some bm)] 62
  have hlen := hg.len
  have HSO := Lib.hid (sorted_u hK 0 2 w.heap.size bm xs rfl rfl (by decide) (by omega) hg.nodup)
  have HR := Lib.hid (sorted_rising _ hg.rising)
  obtain ⟨n, hn⟩ : ∃ n, n = xs.length := ⟨_, rfl⟩
  have HN := Lib.hid hn
  rw [← hn] at hlen
  clear h hs hi hg hK hn
  go_enter Try.func15, Try.ntmps15
  go_wp2_with fail
  refine (keys_u bm _).mono ?_
  rintro en w1 ⟨rfl, rfl⟩
  go_wp2_with fail
  refine HSO.out.mono ?_
  rintro en w2 ⟨vk, rfl, h⟩
  rw [HR.out] at h
  clear HSO c0
  obtain ⟨ak, ck, rfl⟩ := (h.rdInts 0 rfl).shape
  rw [List.length_map, ← HN.out] at h ⊢
  have hs0 := h.nilRecs duR 36
  obtain ⟨bk, hbk⟩ : ∃ bk, bk = w.heap.size := ⟨_, rfl⟩
  rw [← hbk] at hs0
  clear hbk h
  go_wp2_with fail
  refine wp_loopM [none, none, none, some 3, none, some 5, none, none, none, none, none, none, none, none, none, some 15, some 16, some 17, some 18, some 19, some 20, some 21, some 22, some 23, some 24, some 25, some 26, some 27, some 28, none] (fun (r : Nat) (f : Nat → Value) (wr : World) => (fun (vi vl : Value) => ∃ (j : Nat) (v : Value), vi = .int .i64 j ∧ vl = v ∧ j ≤ n ∧ r = n - j ∧ Sep w0 wr (recT duR 36 v (xs.take j) :: intsT .u64 28 (.slice ak n ck) (xs.map Du.id) :: cellsT bk #[.map (some bm)] 62 :: dueO b bm nx :: dueT bm xs :: L.eraseIdx i)) (f 15) (f 3)) (n) (by kernel_rfl) ?atStart1 ?round1
  case' atStart1 => (try dsimp only [nthV])
  case' round1 =>
    intro gk f wr l hl hrel J1 K1 hJ1 hK1
    (try simp only [mask] at hl)
    generalize f 15 = u15 at hl hrel
    generalize f 3 = u3 at hl hrel
    subst hl
    (try dsimp only at hrel)
  case atStart1 => exact ⟨0, _, rfl, rfl, Nat.zero_le _, rfl, hs0⟩
  case round1 =>
    clear hs0
    obtain ⟨j, v, rfl, rfl, hjn, rfl, h⟩ := hrel
    by_cases hj : j < n
    · have hjx : j < xs.length := by rw [← HN.out]; exact hj
      have HJ := Lib.hid hjx
      have hjI : (j : Int) < (n : Int) := by omega
      obtain ⟨av, cv, rfl⟩ := (h.rdRecs 0 rfl).shape
      have hml : ((xs.take j).length) = j := by rw [List.length_take]; omega
      rw [hml] at h ⊢
      obtain ⟨bq, oq, eq, _, z0⟩ := (h.rdInts 1 rfl).at j (by rw [List.length_map]; exact hjx)
      rw [key_at hjx] at z0
      have c0 := cell_of (h.cells 3 rfl) 0
      simp only [List.getElem?_toArray, List.getElem?_cons_zero] at c0
      have hlk := h.lookYes (P := Try.prog) (e := 36) 4 rfl keyedU Try.underlying28 Try.underlying62 false hjx
      rw [if_neg (by simp)] at hlk
      obtain ⟨D, hD⟩ : ∃ D : Du, D = xs[j]'hjx := ⟨_, rfl⟩
      have HD := Lib.hid (show xs.take (j + 1) = xs.take j ++ [D] by rw [hD, List.take_succ_eq_append_getElem hjx])
      rw [← hD] at hlk z0
      have HML := Lib.hid hml
      obtain ⟨Y, hY⟩ : ∃ Y, Y = xs.take j := ⟨_, rfl⟩
      rw [← hY] at h HD HML
      clear hD hjx hml hY
      obtain ⟨ei, ef, et, ex, ew, eu, eh⟩ := D
      dsimp only [Du.val, Du.id] at hlk z0
      subst eq
      go_wp2_with (at_builtin; refine wpList_appRec duR rfl (.tmp 19) (.tmp 26) 41 rfl 36 i0 _ 56 Try.underlying41 hi0 hz0 hz1 hz2 rfl _ Y ⟨ei, ef, et, ex, ew, eu, eh⟩ h 0 rfl _ rfl rfl rfl ?c3 ?c4 ?grow)
      case c3 => rw [HML.out]; unfold maxLen; omega
      case c4 => rw [HML.out]; omega
      case grow =>
        intro v' W5 h5 hsh
        obtain ⟨gg, cap, rfl⟩ := hsh.out
        rw [← HD.out] at h5
        have h5 : Sep w0 W5 (recT duR 36 (.slice (some ⟨gg, 0, none⟩) (Y.length + 1) cap) (xs.take (j + 1)) :: intsT .u64 28 (.slice (some ⟨bq, oq, none⟩) n ck) (xs.map Du.id) :: cellsT bk #[.map (some bm)] 62 :: dueO b bm nx :: dueT bm xs :: L.eraseIdx i) := h5
        rw [HML.out] at h5 ⊢
        clear h hsh c0 hlk z0
        go_wp2_with fail
        refine Round.intro ((n - (j + 1))) ?measure2 (by kernel_rfl) (hJ1 _ _ _ ?rel2)
        case' rel2 => (try dsimp only [nthV])
        case measure2 => omega
        case rel2 => exact ⟨j + 1, _, by go_num, rfl, by omega, rfl, h5⟩
    · obtain rfl : n = j := by omega
      have HS := Lib.hid (show Sep w0 wr (recT duR 36 u3 xs :: L) by
        rw [List.take_of_length_le (by have := HN.out; omega)] at h
        exact list_end HI.out h)
      clear h
      go_wp2_with fail
      go_ret
      exact ⟨u3, rfl, HS.out⟩
end
end Go.Proofs.Ythcmkljdhhepgaa
