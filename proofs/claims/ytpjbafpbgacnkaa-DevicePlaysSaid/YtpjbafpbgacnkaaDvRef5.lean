/-
  The document's device: New. Few.
-/
import Derived.Test.YtpjbafpbgacnkaaDvRef4
set_option linter.unusedVariables false
set_option linter.unusedSimpArgs false
namespace Go.Proofs.Ytpjbafpbgacnkaa
open Go Go.RowKit Go.Mem Go.DevP
attribute [local go_sem] Oper.semAt_some
theorem Try.infoBlkv : (Try.prog.info? 61).map (fun i => (i.zero, i.size, i.bytes)) = some (some (.agg #[.string ByteArray.empty, .slice none 0 0]), 2, 40) := by kernel_rfl
theorem Sep.nilRows {w0 w : World} {R : List Thing} (E : TypeId) (A B : Thing) : ∀ (n : Nat), Sep w0 w (A :: B :: R) → Sep w0 w (A :: B :: (List.replicate n (recT strR E (.slice none 0 0) []) ++ R))
  | 0, h => h
  | n + 1, h => by
    have h1 := (Sep.nilRows E A B n h).nilRecs strR E
    refine h1.perm ?_
    rw [List.replicate_succ, List.cons_append]
    exact (List.Perm.swap _ _ _).trans (List.Perm.cons _ (List.Perm.swap _ _ _))
def RNewD (n : Int) (w : World) (en : Ending) (w' : World) : Prop :=
  ((n < 1 ∨ 4096 < n) ∧ en = .returned (.tuple #[.pointer none, .int .i64 1]) ∧ w' = w) ∨ (∃ (N b : Nat), n = N ∧ 1 ≤ N ∧ N ≤ 4096 ∧ en = .returned (.tuple #[.pointer (some ⟨b, 0, none⟩), .int .i64 0]) ∧ Sep w w' [refT b (Dv.new N)])
set_option maxRecDepth 100000 in
set_option maxHeartbeats 4000000 in
theorem rnew_any (n : Int) (w : World) : Calls Try.prog 10 #[.int .i64 n] w fun en w' => RNewD n w en w' := by
  obtain ⟨i0, hi0, hz0, hz1, hz2⟩ := info_parts Try.infoBlkv
  obtain ⟨i1, hi1, hy0, hy1, hy2⟩ := info_parts Try.infoU8v
  by_cases h1 : n < 1
  · go_enter Try.func10, Try.ntmps10
    go_wp2_with fail
    go_ret2
    exact .inl ⟨.inl h1, rfl, rfl⟩
  by_cases h2 : 4096 < n
  · go_enter Try.func10, Try.ntmps10
    go_wp2_with fail
    go_ret2
    exact .inl ⟨.inr h2, rfl, rfl⟩
  obtain ⟨N, rfl⟩ : ∃ N : Nat, n = N := ⟨n.toNat, by omega⟩
  have hN : N ≤ 4096 := by omega
  have hN1 : 1 ≤ N := by omega
  have hs := (Sep.start w).newCells #[.slice none 0 0, .int .i64 (-1), .bool true] 38
  have hs2 := hs.nilRecs rbR 61
  clear hs
  go_enter Try.func10, Try.ntmps10
  go_wp2_with (at_make; refine wpList_makeInts rfl _ _ 41 rfl 5 i1 .u8 1 Try.underlying41 hi1 hy0 hy1 hy2 512 .i64 .i64 rfl rfl hs2 ?m1 ?m2 ?m3)
  case m1 => (try simp); (try simp only [maxLen]); (try omega)
  case m3 =>
    intro w2 q hs
    obtain ⟨b, hb⟩ : ∃ b, b = w.heap.size := ⟨_, rfl⟩
    rw [← hb] at hs ⊢
    clear hb
    replace hs : Sep w w2 (intsT .u8 5 (.slice (some ⟨q, 0, none⟩) 512 512) zeros :: recT rbR 61 (.slice none 0 0) [] :: [rvC b (.slice none 0 0) (-1) false]) := hs
    have hconv := conv_rd (hs.rdInts 0 rfl) (by rw [zeros_len]; omega)
    obtain ⟨sz, hsz⟩ : ∃ sz, sz = strOfNums zeros := ⟨_, rfl⟩
    have HSZ := Lib.hid hsz
    rw [← hsz] at hconv
    replace hs := hs.tail
    replace hs : Sep w w2 [recT rbR 61 (.slice none 0 0) (List.replicate 0 (bare ⟨zeros, []⟩)), rvC b (.slice none 0 0) (-1) false] := hs
    clear hsz hs2
    go_wp2_with fail
    refine wp_loopM [none, none, none, none, none, none, some 6, none, none, none, none, none, none, none, none, none, none, some 17, some 18, some 19, some 20, some 21, some 22, some 23, some 24, some 25, some 26, some 27, some 28, some 29, some 30, some 31, some 32, none] (fun (r : Nat) (f : Nat → Value) (wr : World) => (fun (v : Value) => ∃ (k : Nat) (z : Value), v = .int .i64 k ∧ k ≤ N ∧ r = N - k ∧ Sep w wr [recT rbR 61 z (List.replicate k (bare ⟨zeros, []⟩)), rvC b z (-1) false]) (f 6)) (N) (by kernel_rfl) ?atStart1 ?round1
    case' atStart1 => (try dsimp only [nthV])
    case' round1 =>
      intro gk f wr l hl hrel J1 K1 hJ1 hK1
      (try simp only [mask] at hl)
      generalize f 6 = u6 at hl hrel
      subst hl
      (try dsimp only at hrel)
    case atStart1 => exact ⟨0, _, rfl, Nat.zero_le _, rfl, hs⟩
    case round1 =>
      clear hs hconv
      obtain ⟨k, z, rfl, hk, rfl, hs⟩ := hrel
      have c0 := cell_of (hs.cells 1 rfl) 0
      simp only [List.getElem?_toArray, List.getElem?_cons_zero] at c0
      by_cases hlt : k < N
      · obtain ⟨ys, hys⟩ : ∃ ys, ys = List.replicate k (bare ⟨zeros, []⟩) := ⟨_, rfl⟩
        have hyl : ys.length = k := by rw [hys, List.length_replicate]
        have HYS := Lib.hid (show ys ++ [bare ⟨zeros, []⟩] = List.replicate (k + 1) (bare ⟨zeros, []⟩) by rw [hys, List.replicate_succ'])
        rw [← hys] at hs
        clear hys
        obtain ⟨za, zc, rfl⟩ := (hs.rdRecs (R := rbR) (E := 61) 0 rfl).shape
        rw [hyl] at hs c0
        go_wp2_with (at_builtin; go_loud (refine wpList_appRec rbR rfl (.tmp 26) (.tmp 29) 36 rfl 61 i0 _ 40 Try.underlying36 hi0 hz0 hz1 hz2 rfl _ ys (bare ⟨zeros, []⟩) hs 0 rfl _ (by rw [HSZ.out]; rfl) rfl rfl ?c3 ?c4 ?grow))
        case c3 => unfold maxLen; omega
        case c4 => omega
        case grow =>
          intro v' w5 hs5 hsh
          obtain ⟨g, cap, rfl⟩ := hsh.out
          rw [HYS.out] at hs5
          (try rw [hyl] at hs5)
          (try simp only [List.set_cons_zero] at hs5)
          have d0 := cell_of (hs5.cells 1 rfl) 0
          have qf := fun j => frozen_of (hs5.cells 1 rfl) j
          simp only [List.getElem?_toArray, List.getElem?_cons_zero] at d0
          have hs6 := hs5.setC 1 rfl 0 (.slice (some ⟨g, 0, none⟩) (k + 1) cap) #[.slice (some ⟨g, 0, none⟩) (k + 1) cap, .int .i64 (-1), .bool true] rfl
          have HS6 := Lib.hid hs6
          (try rw [hyl])
          clear hs hsh hs5 hs6 HYS hyl c0
          go_wp2_with fail
          refine Round.intro (N - (k + 1)) ?measure2 (by kernel_rfl) (hJ1 _ _ _ ?rel2)
          case' rel2 => (try dsimp only [nthV])
          case measure2 => omega
          case rel2 => exact ⟨k + 1, _, by go_num, hlt, rfl, HS6.out⟩
      · obtain rfl : N = k := by omega
        have h2 := hs.perm (List.Perm.swap _ _ _)
        have h3 := Sep.nilRows 9 _ _ N h2
        have HS := Lib.hid h3
        clear hs h2 h3
        go_wp2_with fail
        go_ret2
        refine .inr ⟨N, _, rfl, hN1, hN, rfl, ?_⟩
        refine Sep.refClose (L := [rvC b z (-1) false]) (i := 0) rfl (v := z) (rs := List.replicate N (bare ⟨zeros, []⟩)) (d := Dv.new N) ?_ ?_
        · refine HS.out.perm ?_
          unfold refL rowsR
          rw [List.map_replicate]
          exact List.Perm.refl _
        · rw [List.map_replicate]; rfl
end Go.Proofs.Ytpjbafpbgacnkaa
