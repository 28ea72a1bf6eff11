/-
  Device.New, blocks full of a letter, what stands: walked.
-/
import Derived.Test.YtpjbafpbgacnkaaDvW4
import Derived.Laws.BytesArg
import Derived.Carry
set_option linter.unusedVariables false
set_option linter.unusedSimpArgs false
namespace Go.DevP
open Go Go.Mem
def filled (c last : Int) : List Int := List.replicate 511 c ++ [last]
theorem filled_len (c last : Int) : (filled c last).length = 512 := by simp [filled, -List.reduceReplicate]
def fillI (c : Int) (i : Nat) : List Int := List.replicate i c ++ List.replicate (512 - i) 0
theorem fillI_len {c : Int} {i : Nat} (h : i ≤ 512) : (fillI c i).length = 512 := by simp [fillI, -List.reduceReplicate]; omega
theorem fillI_zero (c : Int) : fillI c 0 = zeros := by simp [fillI, zeros, -List.reduceReplicate]
theorem fillI_step {c : Int} {i : Nat} (h : i < 512) : (fillI c i).set i c = fillI c (i + 1) := by
  refine List.ext_getElem? fun j => ?_
  unfold fillI
  rw [List.getElem?_set]
  by_cases e : i = j
  · subst e
    rw [if_pos rfl, if_pos (by simp [-List.reduceReplicate]; omega), List.getElem?_append_left (by simp [-List.reduceReplicate]), List.getElem?_replicate, if_pos (by omega)]
  · rw [if_neg e]
    by_cases q : j < i
    · rw [List.getElem?_append_left (by simpa [-List.reduceReplicate] using q), List.getElem?_append_left (by simp [-List.reduceReplicate]; omega), List.getElem?_replicate, List.getElem?_replicate, if_pos q, if_pos (by omega)]
    · rw [List.getElem?_append_right (by simp [-List.reduceReplicate]; omega), List.getElem?_append_right (by simp [-List.reduceReplicate]; omega), List.length_replicate, List.length_replicate, List.getElem?_replicate, List.getElem?_replicate]
      by_cases r : j < 512
      · rw [if_pos (by omega), if_pos (by omega)]
      · rw [if_neg (by omega), if_neg (by omega)]
theorem fillI_end (c last : Int) : (fillI c 512).set 511 last = filled c last := by
  refine List.ext_getElem? fun j => ?_
  unfold fillI filled
  rw [List.getElem?_set]
  by_cases e : 511 = j
  · subst e
    rw [if_pos rfl, if_pos (by simp [-List.reduceReplicate]), List.getElem?_append_right (by simp [-List.reduceReplicate])]
    simp [-List.reduceReplicate]
  · rw [if_neg e]
    by_cases q : j < 511
    · rw [List.getElem?_append_left (by simp [-List.reduceReplicate]; omega), List.getElem?_append_left (by simpa [-List.reduceReplicate] using q), List.getElem?_replicate, List.getElem?_replicate, if_pos (by omega), if_pos q]
    · rw [List.getElem?_eq_none (by simp [-List.reduceReplicate]; omega), List.getElem?_eq_none (by simp [-List.reduceReplicate]; omega)]
theorem new_ok {n bm g : Nat} (hn : n ≤ 4096) : Ok ⟨bm, ⟨some ⟨g, 0, none⟩, n, n⟩, List.replicate n (⟨none, 0, 0⟩, zeros), [], []⟩ (Dv.new n) := by
  refine ⟨by simp [Dv.new], fun k h => ?_, fun e he => absurd he (by simp), by simp, fun k hk _ => ?_, fun p hp => absurd hp (by simp)⟩
  · simp only [List.length_replicate] at h
    simp only [List.getElem_replicate]
    refine ⟨?_, .inl rfl⟩
    unfold Dv.new
    rw [List.getD_eq_getElem?_getD, List.getElem?_replicate, if_pos h]; rfl
  · simp only [Dv.new, List.length_replicate] at hk
    unfold Dv.new
    rw [List.getD_eq_getElem?_getD, List.getElem?_replicate, if_pos hk]; rfl
theorem new_good {n : Nat} (h1 : 1 ≤ n) (h2 : n ≤ 4096) : (Dv.new n).Good := by
  refine ⟨by simpa [Dv.new] using h1, by simpa [Dv.new] using h2, by simp [Dv.new], fun b hb => ?_, fun b hb x hx => ?_⟩
  · simp only [Dv.new] at hb
    rw [(List.mem_replicate.1 hb).2]; exact zeros_len
  · simp only [Dv.new] at hb
    rw [(List.mem_replicate.1 hb).2] at hx
    cases hx
end Go.DevP
namespace Go.Proofs.Ytpjbafpbgacnkaa
open Go Go.RowKit Go.Mem Go.DevP
/-- A string of bytes that are read. -/
theorem conv_rd {w : World} {v : Value} {xs : List Int} (h : Rd .u8 w v xs) (h0 : 0 < xs.length) : (convert 41 9 v).run Try.prog w = .ok (.string (strOfNums xs)) w := by
  obtain ⟨a, c, rfl, _, h1, h2⟩ := h
  obtain ⟨b, o, rfl, _, hc⟩ := h2 h0
  exact run_convert_bytes_arg w 41 5 Try.underlying41 Try.underlying5 b o _ _ xs rfl hc _ Try.underlying9
def NewD (n : Int) (w : World) (en : Ending) (w' : World) : Prop :=
  ((n < 1 ∨ 4096 < n) ∧ en = .returned (.tuple #[.pointer none, .int .i64 1]) ∧ w' = w) ∨ (∃ (N b : Nat), n = N ∧ 1 ≤ N ∧ N ≤ 4096 ∧ en = .returned (.tuple #[.pointer (some ⟨b, 0, none⟩), .int .i64 0]) ∧ Sep w w' [devT b (Dv.new N)])
theorem new_any (n : Int) (w : World) : Calls Try.prog 9 #[.int .i64 n] w fun en w' => NewD n w en w' := by
  obtain ⟨i0, hi0, hz0, hz1, hz2⟩ := info_parts Try.infoRowv
  by_cases h1 : n < 1
  · go_enter Try.func9, Try.ntmps9
    go_wp2_with fail
    go_ret2
    exact .inl ⟨.inl h1, rfl, rfl⟩
  by_cases h2 : 4096 < n
  · go_enter Try.func9, Try.ntmps9
    go_wp2_with fail
    go_ret2
    exact .inl ⟨.inr h2, rfl, rfl⟩
  obtain ⟨N, rfl⟩ : ∃ N : Nat, n = N := ⟨n.toNat, by omega⟩
  have hN : N ≤ 4096 := by omega
  go_enter Try.func9, Try.ntmps9
  go_wp2_with (at_make; refine wpList_makeSl rfl _ _ 55 rfl 41 i0 24 Try.underlying55 hi0 hz0 hz1 hz2 N .i64 .i64 rfl rfl (Sep.start w) ?m1 ?m2 ?m3)
  case m1 => unfold maxLen; omega
  case m2 => omega
  case m3 =>
    intro w2 g hs
    have hs2 := (hs.newDMap .i64 Ent.key Ent.val).newCells #[.slice (some ⟨g, 0, none⟩) N N, .map (some w2.heap.size), .int .i64 (-1), .bool false] 58
    rw [World.size_alloc] at hs2
    have HS := Lib.hid hs2
    clear hs hs2
    have hmm := @run_makeMap Try.prog
    go_wp2_with fail
    go_ret2
    refine .inr ⟨N, _, rfl, by omega, hN, rfl, ?_⟩
    have h3 := Sep.perm (L' := devL (w2.heap.size + 1) ⟨w2.heap.size, ⟨some ⟨g, 0, none⟩, N, N⟩, List.replicate N (⟨none, 0, 0⟩, zeros), [], []⟩ (-1) false ++ []) HS.out (by
      unfold devL
      simp only [rowsL, gridL, List.map_nil, List.append_nil, List.map_replicate]
      exact List.Perm.cons _ (List.Perm.swap _ _ _))
    exact h3.pack.exIn (P := fun l => Ok l (Dv.new N)) (T := fun l => packT (devL (w2.heap.size + 1) l (-1) false)) (new_ok hN)
set_option maxRecDepth 100000 in
theorem filled_any (c last : Int) (w : World) :
    Calls Try.prog 22 #[.int .u8 c, .int .u8 last] w fun en w' => ∃ a n, en = .returned (.slice (some a) 512 n) ∧ Sep w w' [intsT .u8 5 (.slice (some a) 512 n) (filled c last)] := by
  obtain ⟨i0, hi0, hz0, hz1, hz2⟩ := info_parts Try.infoU8v
  go_enter Try.func22, Try.ntmps22
  go_wp2_with (at_make; refine wpList_makeInts rfl _ _ 41 rfl 5 i0 .u8 1 Try.underlying41 hi0 hz0 hz1 hz2 512 .i64 .i64 rfl rfl (Sep.start w) ?m1 ?m2 ?m3)
  case m1 => (try simp); (try simp only [maxLen]); (try omega)
  case m2 => (try simp); (try simp only [maxLen]); (try omega)
  case m3 =>
    intro w2 g hs
    replace hs : Sep w w2 [intsT .u8 5 (.slice (some ⟨g, 0, none⟩) 512 512) (fillI c 0)] := by rw [fillI_zero]; exact hs
    go_wp2_with fail
    refine wp_loopM [none, none, none, none, none, none, some 6, none, some 8, some 9, some 10, some 11, some 12, some 13, some 14, some 15, some 16, some 17, none, none, none, none, none, none, none] (fun (r : Nat) (f : Nat → Value) (wr : World) => (fun (v : Value) => ∃ i : Nat, v = .int .i64 i ∧ i ≤ 512 ∧ r = 512 - i ∧ Sep w wr [intsT .u8 5 (.slice (some ⟨g, 0, none⟩) 512 512) (fillI c i)]) (f 6)) (512) (by kernel_rfl) ?atStart1 ?round1
    case' atStart1 => (try dsimp only [nthV])
    case' round1 =>
      intro gk f wr l hl hrel J1 K1 hJ1 hK1
      (try simp only [mask] at hl)
      generalize f 6 = u6 at hl hrel
      subst hl
      (try dsimp only at hrel)
    case atStart1 => exact ⟨0, rfl, Nat.zero_le _, rfl, hs⟩
    case round1 =>
      clear hs
      obtain ⟨i, rfl, hi, rfl, hs⟩ := hrel
      have HL := Lib.hid (fillI_len (c := c) hi)
      by_cases hlt : i < 512
      · have hs2 := hs.setInts (k := .u8) (j := i) 0 rfl c
        rw [fillI_step hlt] at hs2
        simp only [List.set_cons_zero] at hs2
        obtain ⟨g', cg', eg, _, hcR, hfz⟩ := (hs.ints 0 rfl).get i (by rw [HL.out]; exact hlt)
        injection eg with eg u1 u2
        injection eg with eg
        injection eg with eg
        subst eg
        have hcg := hcR i (by rw [HL.out]; exact hlt)
        clear u1 u2 hcR hs
        go_wp2_with fail
        refine Round.intro (512 - (i + 1)) ?measure2 (by kernel_rfl) (hJ1 _ _ _ ?rel2)
        case' rel2 => (try dsimp only [nthV])
        case measure2 => omega
        case rel2 => exact ⟨i + 1, by go_num, hlt, rfl, hs2⟩
      · obtain rfl : i = 512 := by omega
        have hs2 := hs.setInts (k := .u8) (j := 511) 0 rfl last
        rw [fillI_end] at hs2
        simp only [List.set_cons_zero] at hs2
        obtain ⟨g', cg', eg, _, hcR, hfz⟩ := (hs.ints 0 rfl).get 511 (by rw [HL.out]; decide)
        injection eg with eg u1 u2
        injection eg with eg
        injection eg with eg
        subst eg
        have hcg := hcR 511 (by rw [HL.out]; decide)
        clear u1 u2 hcR hs
        go_wp2_with fail
        go_ret
        exact ⟨_, _, rfl, hs2⟩
theorem full_any (c : Int) (w : World) :
    Calls Try.prog 15 #[.int .u8 c] w fun en w' => ∃ a n, en = .returned (.slice (some a) 512 n) ∧ Sep w w' [intsT .u8 5 (.slice (some a) 512 n) (filled c c)] := by
  go_enter Try.func15, Try.ntmps15
  go_wp2_with fail
  refine (filled_any c c _).mono ?_
  rintro en w1 ⟨a, n, rfl, hs⟩
  go_wp2_with fail
  go_ret
  exact ⟨_, _, rfl, hs⟩
end Go.Proofs.Ytpjbafpbgacnkaa
