/-
  slices.Sorted over the keys of the dues' map, walked: the keys, rising.
-/
import Derived.Test.YthcmkljdhhepgaaUsKeys
import Derived.Test.YthcmkljdhhepgaaUsPdq
import Derived.Lib.SlKeysI
set_option linter.unusedVariables false
set_option linter.unusedSimpArgs false
namespace Go.Proofs.Ythcmkljdhhepgaa
open Go Go.RowKit Go.Mem Go.MoneyP Go.NetP Go.BuildP Go.Maps Go.Shelf Go.Sort
attribute [local go_sem] Oper.semAt_some
theorem Try.infoU64k : (Try.prog.info? 28).map (fun i => (i.zero, i.size, i.bytes)) = some (some (.int .u64 0), 1, 8) := by kernel_rfl
theorem keys_u (bm : Nat) (w : World) : Calls Try.prog 33 #[.map (some bm)] w fun en w' =>
    en = .returned (.func (.func 52) #[] #[.pointer (some ⟨w.heap.size, 0, none⟩)]) ∧ w' = w.alloc (.cells #[.map (some bm)] 62) := by
  go_enter Try.func33, Try.ntmps33
  go_wp2_with fail
  go_ret
  exact ⟨rfl, rfl⟩
/-- The row that is gathered, and the variable that holds it. -/
def keyRow (bx : Nat) (pre : List Int) : Thing := exT (fun _ => True) (fun v : Value => packT [cellsT bx #[v] 43, intsT .u64 28 v pre])
section
variable {w0 w : World} {L : List Thing}
theorem keyRow_open {bx : Nat} {pre : List Int} (h : Sep w0 w (keyRow bx pre :: L)) : ∃ v, Sep w0 w (cellsT bx #[v] 43 :: intsT .u64 28 v pre :: L) := by
  obtain ⟨v, _, h1⟩ := Sep.exOut h
  exact ⟨v, h1.unpack⟩
theorem keyRow_close {bx : Nat} {pre : List Int} {v : Value} (h : Sep w0 w (cellsT bx #[v] 43 :: intsT .u64 28 v pre :: L)) : Sep w0 w (keyRow bx pre :: L) :=
  Sep.exIn (T := fun v : Value => packT [cellsT bx #[v] 43, intsT .u64 28 v pre]) (a := v) (Sep.pack (M := [cellsT bx #[v] 43, intsT .u64 28 v pre]) h) trivial
set_option maxRecDepth 100000 in
set_option maxHeartbeats 2000000 in
theorem appendSeq_u (hs : Sep w0 w L) (i j bk bm : Nat) (xs : List Du) (hi : L[i]? = some (cellsT bk #[.map (some bm)] 62)) (hj : L[j]? = some (dueT bm xs)) (hij : i ≠ j) (hlen : xs.length ≤ 1000) :
    Calls Try.prog 56 #[.slice none 0 0, .func (.func 52) #[] #[.pointer (some ⟨bk, 0, none⟩)]] w fun en w' =>
      ∃ v ks, en = .returned v ∧ Hid (ks.Perm (xs.map Du.id)) ∧ Sep w0 w' (intsT .u64 28 v ks :: L) := by
  obtain ⟨i0, hi0, hz0, hz1, hz2⟩ := info_parts Try.infoU64k
  have hs2 : Sep w0 (w.alloc (.cells #[.slice none 0 0] 43)) ([keyRow w.heap.size []] ++ L) := by
    have h1 := (hs.newCells #[.slice none 0 0] 43)
    have h2 := (h1.nilInts .u64 28).perm (List.Perm.swap _ _ _)
    exact keyRow_close h2
  have HLEN := Lib.hid hlen
  clear hs hlen
  refine (callsIn_wide (n := 6)).1 ?_
  refine callsIn_of_wp_marks Try.func56 rfl trivial ?_ rfl
  simp only [Try.ntmps56, List.size_toArray, List.length_cons, List.length_nil, Nat.reduceAdd, Nat.reduceSub, Array.replicate_succ, Array.replicate_zero, List.push_toArray, List.append_toArray, List.nil_append, List.cons_append]
  refine wpIn_wide.2 ?_
  go_wp2_with fail
  obtain ⟨bx, hbx⟩ : ∃ bx, bx = w.heap.size := ⟨_, rfl⟩
  rw [← hbx] at hs2 ⊢
  clear hbx
  refine (wpIn_wide (n := 6)).1 ?_
  refine nameRF (m := 6) fun a0 ha0 => ?_
  refine wpIn_rangeY rfl (by decide) (gf := 52) (lb := #[.pointer (some ⟨bk, 0, none⟩)]) (by rw [ha0]; rfl) trivial (enters_of Try.func52 (by kernel_rfl) rfl) (fun x : Int => #[.int .u64 x]) (fun _ => rfl)
    (fun pre => [keyRow bx pre]) L hs2 (OkK xs) (fun X pre => X = L ∧ pre.Perm (xs.map Du.id))
    (fun J W1 hJx hJs hJy h0 => keys1_in (6 - 1) (by decide) _ w0 L i j bk bm xs _ hi hj hij J W1 hJx hJs hJy h0)
    (fun x => { tmps := (a0.tmps.setIfInBounds 7 (.int .u64 x)).setIfInBounds 5 (.int .u64 x), defers := [] })
    ?assign ?body ?done
  case assign =>
    rintro l x W Q hQ
    clear hs2
    subst ha0
    gi_wp2
    exact hQ
  case body =>
    rintro l DL o1 o2 X pre x W hok hs
    clear hs2
    have hpl : pre.length + 1 ≤ 1000 := by
      obtain ⟨t, ht⟩ := hok
      have := ht.length_eq
      have h2 := HLEN.out
      simp only [List.length_append, List.length_cons, List.length_nil, List.length_map] at this
      omega
    have hs3 := hs.perm (L' := keyRow bx pre :: defT l o1 :: defT DL o2 :: X) (by
      show (defT l o1 :: defT DL o2 :: keyRow bx pre :: X).Perm _
      exact (List.Perm.cons _ (List.Perm.swap _ _ _)).trans (List.Perm.swap _ _ _))
    obtain ⟨v, hs4⟩ := keyRow_open hs3
    have c0 := cell_of (hs4.cells 0 rfl) 0
    have f0 := frozen_of (hs4.cells 0 rfl) 0
    simp only [List.getElem?_toArray, List.getElem?_cons_zero] at c0
    obtain ⟨av, cv, rfl⟩ := (hs4.rdInts 1 rfl).shape
    have hs5 := hs4.alloc (.cells #[.int .u64 x] 28)
    clear hs hs3 hs4
    subst ha0
    gi_wp2_with (gi_at_builtin; refine wpListIn_appIntB rfl (.tmp 8) (.tmp 10) 43 rfl 28 i0 _ 8 Try.underlying43 hi0 hz0 hz1 hz2 rfl _ pre .u64 x hs5 1 rfl _ (Go.heap_alloc_new _ _) rfl rfl ?c3 ?c4 ?grow)
    case c3 => unfold maxLen; omega
    case c4 => omega
    case grow =>
      intro v' w5 hs6 hsh
      obtain ⟨g, cap, rfl⟩ := hsh.out
      have hs6 : Sep w0 w5 (cellsT bx #[.slice av pre.length cv] 43 :: intsT .u64 28 (.slice (some ⟨g, 0, none⟩) (pre.length + 1) cap) (pre ++ [x]) :: defT l o1 :: defT DL o2 :: X) := hs6
      have c1 := cell_of (hs6.cells 0 rfl) 0
      have f1 := frozen_of (hs6.cells 0 rfl) 0
      simp only [List.getElem?_toArray, List.getElem?_cons_zero] at c1
      have HS7 := Lib.hid (hs6.setCells 0 rfl 0 (.slice (some ⟨g, 0, none⟩) (pre.length + 1) cap) _ rfl)
      clear hs5 hs6 hsh c0 f0
      gi_wp2
      show Sep _ _ _
      have h8 := keyRow_close HS7.out
      exact h8.perm ((List.Perm.swap _ _ _).trans (List.Perm.cons _ (List.Perm.swap _ _ _)))
  case done =>
    rintro l DL o1 X pre W ⟨rfl, hpm⟩ hs
    clear hs2
    have HP := Lib.hid hpm
    clear hpm
    have hs3 := hs.perm (L' := keyRow bx pre :: defT l o1 :: defT DL (.deferred (some [])) :: X) (by
      show (defT l o1 :: defT DL (.deferred (some [])) :: keyRow bx pre :: X).Perm _
      exact (List.Perm.cons _ (List.Perm.swap _ _ _)).trans (List.Perm.swap _ _ _))
    obtain ⟨v, hs4⟩ := keyRow_open hs3
    have c0 := cell_of (hs4.cells 0 rfl) 0
    simp only [List.getElem?_toArray, List.getElem?_cons_zero] at c0
    have HD := Lib.hid (hs4.obj_ (D := DL) (o := .deferred (some [])) 3 rfl)
    have hs6 := hs4.putD (D := DL) (o := .deferred (some [])) (o' := .deferred none) 3 rfl
    have hs7 := (hs6.omit 3).omit 2
    have HS8 := Lib.hid (show Sep w0 _ (intsT .u64 28 v pre :: X) from hs7.tail)
    clear hs hs3 hs4 hs6 hs7
    subst ha0
    go_wp2_with fail
    refine ⟨by simp, .inl ⟨_, _, rfl, run_takeDeferred HD.out, ?_⟩⟩
    exact ⟨v, by simp [results, Try.results56, go_sem], v, pre, rfl, HP, HS8.out⟩
theorem collect_u (hs : Sep w0 w L) (i j bk bm : Nat) (xs : List Du) (hi : L[i]? = some (cellsT bk #[.map (some bm)] 62)) (hj : L[j]? = some (dueT bm xs)) (hij : i ≠ j) (hlen : xs.length ≤ 1000) :
    Calls Try.prog 50 #[.func (.func 52) #[] #[.pointer (some ⟨bk, 0, none⟩)]] w fun en w' =>
      ∃ v ks, en = .returned v ∧ Hid (ks.Perm (xs.map Du.id)) ∧ Sep w0 w' (intsT .u64 28 v ks :: L) := by
  go_enter Try.func50, Try.ntmps50
  go_wp2_with fail
  refine (appendSeq_u hs i j bk bm xs hi hj hij hlen).mono ?_
  rintro en w1 ⟨v, ks, rfl, hp, hs2⟩
  clear hs
  have HS := Lib.hid hs2
  clear hs2
  go_wp2_with fail
  go_ret
  exact ⟨v, ks, rfl, hp, HS.out⟩
theorem sorted_keys (xs : List Int) (e : Array Int) (hp : PermIn 0 xs.length xs.toArray e) (hs : SortedIn ltInt 0 xs.length e) : e.toList = xs.mergeSort (fun x y => decide (x ≤ y)) := by
  have h := sorted_unique_holds (lt := ltInt) swo_int (fun x y h1 h2 => Int.le_antisymm (lt_false.1 h2) (lt_false.1 h1)) xs.toArray e (by simpa using hp) (by simpa using hs)
  rw [h]
  simp only [List.size_toArray] at *
  congr 1
  funext x y
  unfold ltInt
  by_cases hxy : x ≤ y
  · rw [decide_eq_true hxy, decide_eq_false (by omega)]; rfl
  · rw [decide_eq_false hxy, decide_eq_true (by omega)]; rfl
set_option maxRecDepth 100000 in
set_option maxHeartbeats 2000000 in
theorem insertion_0 (v : Value) (w : World) : Calls Try.prog 59 #[v, .int .i64 0, .int .i64 0] w fun en w' => en = .returned (.tuple #[]) ∧ w' = w := by
  go_enter Try.func59, Try.ntmps59
  go_wp2_with fail
  refine wp_loopM [none, none, none, none, none, none, some 6, some 7, none, none, some 10, some 11, some 12, some 13, some 14, some 15, some 16, some 17, some 18, some 19, some 20, some 21, some 22, some 23, some 24, some 25, some 26, some 27, some 28, some 29, some 30, some 31, some 32, some 33, some 34, some 35, some 36, some 37, some 38, some 39, some 40, some 41, some 42, some 43, some 44, some 45, some 46, some 47, some 48] (fun (r : Nat) (f : Nat → Value) (wr : World) => (fun (v : Value) => v = .int .i64 1 ∧ r = 0 ∧ wr = w) (f 6)) (0) (by kernel_rfl) ?atStart1 ?round1
  case' atStart1 => (try dsimp only [nthV])
  case' round1 =>
    intro gk f wr l hl hrel J1 K1 hJ1 hK1
    (try simp only [mask] at hl)
    generalize f 6 = u6 at hl hrel
    subst hl
    (try dsimp only at hrel)
  case atStart1 => exact ⟨rfl, rfl, rfl⟩
  case round1 =>
    obtain ⟨rfl, rfl, rfl⟩ := hrel
    go_wp2_with fail
    (try simp only [Exit.inBlock, Exit.then])
    first | (refine bodyPost_ret (results_none rfl _ _ _) rfl ?_) | (refine bodyPost_end (results_none rfl _ _ _) rfl ?_)
    exact ⟨rfl, rfl⟩
set_option maxRecDepth 100000 in
set_option maxHeartbeats 2000000 in
theorem pdq_0 (v : Value) (w : World) (k : Nat) : Calls Try.prog 57 #[v, .int .i64 0, .int .i64 0, .int .i64 k] w fun en w' => en = .returned (.tuple #[]) ∧ w' = w := by
  go_enter Try.func57, Try.ntmps57
  go_wp2_with fail
  refine wp_loopM [none, some 1, some 2, some 3, none, none, none, none, some 8, some 9, some 10, some 11, some 12, some 13, some 14, some 15, some 16, some 17, some 18, some 19, some 20, some 21, some 22, some 23, some 24, some 25, some 26, some 27, some 28, some 29, some 30, some 31, some 32, some 33, some 34, some 35, some 36, some 37, some 38, some 39, some 40, some 41, some 42, some 43, some 44, some 45, some 46, some 47, some 48, some 49, some 50, some 51, some 52, some 53, some 54, some 55, some 56, some 57, some 58, some 59, some 60, some 61, some 62, some 63, some 64, some 65, some 66, some 67, some 68, some 69, some 70, some 71, some 72, some 73, some 74, some 75, some 76, some 77, some 78, some 79, some 80, some 81, some 82, some 83, some 84, some 85, some 86, some 87, some 88, some 89, some 90, some 91, some 92, some 93, some 94, some 95, some 96, some 97, some 98, some 99, some 100, some 101, some 102, some 103, some 104, some 105, some 106, some 107, some 108, some 109, some 110, some 111, some 112, some 113, some 114, some 115, some 116, some 117, some 118, some 119, some 120, some 121, some 122, some 123, some 124, some 125, some 126, some 127, some 128, some 129, some 130, some 131, some 132, some 133] (fun (r : Nat) (f : Nat → Value) (wr : World) => (fun (va vb : Value) => va = .int .i64 0 ∧ vb = .int .i64 0 ∧ r = 0 ∧ wr = w) (f 1) (f 2)) (0) (by kernel_rfl) ?atStart2 ?round2
  case' atStart2 => (try dsimp only [nthV])
  case' round2 =>
    intro gk f wr l hl hrel J1 K1 hJ1 hK1
    (try simp only [mask] at hl)
    generalize f 1 = u1 at hl hrel
    generalize f 2 = u2 at hl hrel
    subst hl
    (try dsimp only at hrel)
  case atStart2 => exact ⟨rfl, rfl, rfl, rfl⟩
  case round2 =>
    obtain ⟨rfl, rfl, rfl, rfl⟩ := hrel
    go_wp2_with fail
    refine (insertion_0 v _).mono ?_
    rintro en w1 ⟨rfl, rfl⟩
    go_wp2_with fail
    (try simp only [Exit.inBlock, Exit.then])
    first | (refine bodyPost_ret (results_none rfl _ _ _) rfl ?_) | (refine bodyPost_end (results_none rfl _ _ _) rfl ?_)
    exact ⟨rfl, rfl⟩
set_option maxRecDepth 100000 in
set_option maxHeartbeats 2000000 in
theorem sort_u {q : Nat} {v : Value} {ks : List Int} (hs : Sep w0 w L) (hq : L[q]? = some (intsT .u64 28 v ks)) (hn : ks.Nodup) (hl : ks.length ≤ 1000) :
    Calls Try.prog 51 #[v] w fun en w' => en = .returned (.tuple #[]) ∧ Sep w0 w' (L.set q (intsT .u64 28 v (ks.mergeSort (fun x y => decide (x ≤ y))))) := by
  by_cases h0 : ks.length = 0
  · obtain rfl := List.length_eq_zero_iff.1 h0
    obtain ⟨a, c, rfl⟩ := (hs.rdInts q hq).shape
    have HS := Lib.hid (show Sep w0 w (L.set q (intsT .u64 28 (.slice a 0 c) (([] : List Int).mergeSort (fun x y => decide (x ≤ y))))) by
      rw [List.mergeSort_nil]; exact (set_same hq).symm ▸ hs)
    have HL := Lib.hid (bitsLen_any 0 w (by decide) (by decide))
    clear hs hq hn hl h0
    simp only [List.length_nil]
    go_enter Try.func51, Try.ntmps51
    go_wp2_with fail
    refine HL.out.mono ?_
    rintro en w1 ⟨rfl, rfl⟩
    go_wp2_with fail
    refine (pdq_0 _ _ _).mono ?_
    rintro en w2 ⟨rfl, rfl⟩
    go_wp2_with fail
    (try simp only [Exit.inBlock, Exit.then])
    first | (refine bodyPost_ret (results_none rfl _ _ _) rfl ?_) | (refine bodyPost_end (results_none rfl _ _ _) rfl ?_)
    exact ⟨rfl, HS.out⟩
  · obtain ⟨g, cg, rfl, _⟩ := (hs.ints q hq).get 0 (by omega)
    have hq2 : L[q]? = some (uT g ks.length cg ks.toArray) := hq
    have hb : Lib.bitLen ks.length ≤ 1000 := by
      rw [bitLen_eq _ (by omega)]
      have := (bitsLen_le_iff ks.length 62).2 (by omega)
      omega
    have HL := Lib.hid (bitsLen_any (ks.length : Int) w (by omega) (by omega))
    have HC := Lib.hid (fun (lim : Int) h1 h2 => pdq_u w0 q g ks.length cg (ks.length + 1) L w ks.toArray 0 ks.length lim (by omega) (Nat.zero_le _) (by simp) (by simpa using hl) h1 h2 (by simpa using hn) (.inl rfl) hs hq2)
    obtain ⟨N, hN⟩ : ∃ N, N = ks.length := ⟨_, rfl⟩
    obtain ⟨B, hB⟩ : ∃ B, B = Lib.bitLen ks.length := ⟨_, rfl⟩
    have HN := Lib.hid hN
    rw [← hB] at hb
    rw [Int.toNat_natCast, ← hB] at HL
    rw [← hN] at HC HL hl ⊢
    clear hs hq hq2 hn h0 hN hB
    have wr : IntKind.u64.wrap (N : Int) = N := by simp [IntKind.wrap, IntKind.bits, IntKind.signed]; omega
    go_enter Try.func51, Try.ntmps51
    go_wp2_with fail
    refine HL.out.mono ?_
    rintro en w1 ⟨rfl, rfl⟩
    go_wp2_with fail
    refine (HC.out _ (by omega) (by omega)).mono ?_
    rintro en w2 ⟨e, rfl, HE, hs2⟩
    have HS := Lib.hid hs2
    have HE2 := Lib.hid HE
    clear hs2 HE HC HL
    go_wp2_with fail
    (try simp only [Exit.inBlock, Exit.then])
    first | (refine bodyPost_ret (results_none rfl _ _ _) rfl ?_) | (refine bodyPost_end (results_none rfl _ _ _) rfl ?_)
    refine ⟨rfl, ?_⟩
    have h1 := sorted_keys ks e (by have := HE2.out.1; rwa [HN.out] at this) (by have := HE2.out.2; rwa [HN.out] at this)
    rw [← h1]
    exact HS.out
set_option maxRecDepth 100000 in
set_option maxHeartbeats 2000000 in
theorem sorted_u (hs : Sep w0 w L) (i j bk bm : Nat) (xs : List Du) (hi : L[i]? = some (cellsT bk #[.map (some bm)] 62)) (hj : L[j]? = some (dueT bm xs)) (hij : i ≠ j) (hlen : xs.length ≤ 1000) (hn : (xs.map Du.id).Nodup) :
    Calls Try.prog 32 #[.func (.func 52) #[] #[.pointer (some ⟨bk, 0, none⟩)]] w fun en w' =>
      ∃ v, en = .returned v ∧ Sep w0 w' (intsT .u64 28 v ((xs.map Du.id).mergeSort (fun x y => decide (x ≤ y))) :: L) := by
  have HN := Lib.hid hn
  clear hn
  go_enter Try.func32, Try.ntmps32
  go_wp2_with fail
  refine (collect_u hs i j bk bm xs hi hj hij hlen).mono ?_
  rintro en w1 ⟨v, ks, rfl, hp, hs2⟩
  clear hs
  have hkl : ks.length ≤ 1000 := by rw [hp.out.length_eq, List.length_map]; exact hlen
  have HC := Lib.hid (sort_u hs2 (q := 0) rfl (hp.out.nodup_iff.2 HN.out) hkl)
  clear hs2 hkl
  go_wp2_with fail
  refine HC.out.mono ?_
  rintro en w2 ⟨rfl, hs3⟩
  have HS := Lib.hid hs3
  clear hs3 HC
  go_wp2_with fail
  go_ret
  refine ⟨v, rfl, ?_⟩
  have h1 : ks.mergeSort (fun x y => decide (x ≤ y)) = (xs.map Du.id).mergeSort (fun x y => decide (x ≤ y)) :=
    Go.mergeSort_of_perm_i hp.out
  rw [← h1]
  exact HS.out
theorem sorted_rising (l : List Int) (h : l.Pairwise (· < ·)) : l.mergeSort (fun x y => decide (x ≤ y)) = l :=
  List.mergeSort_of_pairwise (h.imp fun hab => decide_eq_true (Int.le_of_lt hab))
end
end Go.Proofs.Ythcmkljdhhepgaa
