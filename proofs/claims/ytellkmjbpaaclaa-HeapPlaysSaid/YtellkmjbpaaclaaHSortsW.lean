/-
  The law HeapSorts, walked.
-/
import Derived.Test.YtellkmjbpaaclaaHTimesW
import Derived.Test.YtellkmjbpaaclaaHLessW
namespace Go.Proofs.Ytellkmjbpaaclaa
open Go Go.RowKit Go.Mem Go.HeapP

theorem Try.infoThing10 : (Try.prog.info? 42).map (fun i => (i.zero, i.size, i.bytes)) = some (some (.agg #[.int .i64 0, .int .i64 0]), 2, 16) := by kernel_rfl

/-- The law's own memory: a heap, and two lists of things. -/
structure St (w0 w : World) (b : Nat) (S : Nat → Prop) (xs : List T) (vi : Value) (ins : List T) (vo : Value) (outs : List T) : Prop where
  heap : HRep w b S xs
  inr : Row 42 w vi ins
  outr : Row 42 w vo outs
  di : ∀ g, vi.ownBlock = some g → ¬ S g ∧ w0.heap.size ≤ g
  dd : ∀ g, vo.ownBlock = some g → ¬ S g ∧ w0.heap.size ≤ g ∧ vi.ownBlock ≠ some g
  low : ∀ j, S j → w0.heap.size ≤ j
  below : Below w0.heap.size w0 w

section
variable {w0 w w' : World} {b : Nat} {S S' : Nat → Prop} {xs xs' : List T} {vi vo v' : Value} {ins outs : List T}
theorem St.heapTurn (h : St w0 w b S xs vi ins vo outs) (ht : Turned S S' w w') (hr : HRep w' b S' xs') : St w0 w' b S' xs' vi ins vo outs := by
  obtain ⟨hb, hl⟩ := ht.below h.below h.low
  refine ⟨hr, h.inr.frame ht.fr (fun g hg => (h.di g hg).1), h.outr.frame ht.fr (fun g hg => (h.dd g hg).1), fun g hg => ⟨fun hs => ?_, (h.di g hg).2⟩, fun g hg => ⟨fun hs => ?_, (h.dd g hg).2⟩, hl, hb⟩
  · rcases ht.new g hs with h1 | h1
    · exact (h.di g hg).1 h1
    · have := h.inr.low g hg; omega
  · rcases ht.new g hs with h1 | h1
    · exact (h.dd g hg).1 h1
    · have := h.outr.low g hg; omega
theorem St.still (h : St w0 w b S xs vi ins vo outs) (hf : Fr (fun _ => False) w w') : St w0 w' b S xs vi ins vo outs :=
  ⟨h.heap.frame hf (fun _ _ h => h), h.inr.frame hf (fun _ _ h => h), h.outr.frame hf (fun _ _ h => h), h.di, h.dd, h.low, h.below.trans (hf.toBelow _ (fun _ _ h => h) h.below.size)⟩
theorem St.appIn (h : St w0 w b S xs vi ins vo outs) {x : T} (hA : Appended w w' 42 2 vi v' (ins.length + 1) (flat ins ++ [.int .i64 x.1, .int .i64 x.2])) : St w0 w' b S xs v' (ins ++ [x]) vo outs := by
  refine ⟨h.heap.frame hA.fr (fun j hj e => (h.di j e).1 hj), ?_, h.outr.frame hA.fr (fun g hg e => (h.dd g hg).2.2 e), fun g hg => ?_, fun g hg => ⟨(h.dd g hg).1, (h.dd g hg).2.1, fun e => ?_⟩, h.low, h.below.trans (hA.fr.toBelow _ (fun i hi e => by have := (h.di i e).2; omega) h.below.size)⟩
  · unfold Row
    rw [← flat_append]
    simpa using hA.own
  · rcases hA.block g hg with h1 | h1
    · exact h.di g h1
    · exact ⟨fun hs => by have := h.heap.low g hs; omega, by have := h.below.size; omega⟩
  · rcases hA.block g e with h1 | h1
    · exact (h.dd g hg).2.2 h1
    · have := h.outr.low g hg; omega
theorem St.appOut (h : St w0 w b S xs vi ins vo outs) {x : T} (hA : Appended w w' 42 2 vo v' (outs.length + 1) (flat outs ++ [.int .i64 x.1, .int .i64 x.2])) : St w0 w' b S xs vi ins v' (outs ++ [x]) := by
  refine ⟨h.heap.frame hA.fr (fun j hj e => (h.dd j e).1 hj), h.inr.frame hA.fr (fun g hg e => (h.dd g e).2.2 hg), ?_, h.di, fun g hg => ?_, h.low, h.below.trans (hA.fr.toBelow _ (fun i hi e => by have := (h.dd i e).2.1; omega) h.below.size)⟩
  · unfold Row
    rw [← flat_append]
    simpa using hA.own
  · rcases hA.block g hg with h1 | h1
    · exact h.dd g h1
    · exact ⟨fun hs => by have := h.heap.low g hs; omega, by have := h.below.size; omega, fun e => by have := h.inr.low g e; omega⟩
end

/-- What is pushed at i. -/
def thing (z0 z1 : List Int) (len1 i : Nat) : T := (z0.getD i 0, z1.getD (i % len1) 0)
def things (z0 z1 : List Int) (len1 i : Nat) : List T := (List.range i).map (thing z0 z1 len1)
theorem things_succ (z0 z1 : List Int) (len1 i : Nat) : things z0 z1 len1 (i + 1) = things z0 z1 len1 i ++ [thing z0 z1 len1 i] := by simp [things, List.range_succ]
theorem things_length (z0 z1 : List Int) (len1 i : Nat) : (things z0 z1 len1 i).length = i := by simp [things]

/-- What has been popped is in order, and ahead of what is left. -/
structure Srt (outs xs : List T) : Prop where
  srt : outs.Pairwise le
  ahead : ∀ a ∈ outs, ∀ y ∈ xs, le a y
theorem Srt.nil (xs : List T) : Srt [] xs := ⟨List.Pairwise.nil, by simp⟩
theorem Srt.pop {outs r xs' : List T} {m : T} (h : Srt outs (m :: r)) (hh : IsH (m :: r)) (hp : xs'.Perm r) : Srt (outs ++ [m]) xs' := by
  have hle : ∀ z ∈ m :: r, le m z := fun z hz => by have := least_mem hh z hz; simpa [nth] using this
  refine ⟨List.pairwise_append.2 ⟨h.srt, List.pairwise_singleton _ _, fun a ha b hb => ?_⟩, fun a ha y hy => ?_⟩
  · rw [List.mem_singleton] at hb
    subst hb
    exact h.ahead a ha _ List.mem_cons_self
  · have hy' : y ∈ m :: r := List.mem_cons_of_mem _ (hp.mem_iff.1 hy)
    rcases List.mem_append.1 ha with h1 | h1
    · exact h.ahead a h1 y hy'
    · rw [List.mem_singleton] at h1
      subst h1
      exact hle y hy'
theorem Srt.adj {outs xs : List T} (h : Srt outs xs) (i : Nat) (h0 : 0 < i) (hi : i < outs.length) : le (nth outs (i - 1)) (nth outs i) := by
  have := List.pairwise_iff_getElem.1 h.srt (i - 1) i (by omega) hi (by omega)
  simpa [nth, hi, show i - 1 < outs.length by omega] using this

set_option maxHeartbeats 4000000 in
set_option maxRecDepth 100000 in
theorem heapSorts_any (a0 : Option Addr) (len0 cap0 : Nat) (z0 : List Int) (a1 : Option Addr) (len1 cap1 : Nat) (z1 : List Int) (w : World) (h0 : IsRow .i64 w a0 len0 cap0 z0) (h1 : IsRow .u8 w a1 len1 cap1 z1) :
    Calls Try.prog 4 #[.slice a0 len0 cap0, .slice a1 len1 cap1] w fun e w' => e = .returned (.bool true) ∧ Below w.heap.size w w' := by
  by_cases hlen : 300 < len0
  · go_enter Try.func4, Try.ntmps4
    go_wp2_with fail
    refine (works_any _).mono ?_
    rintro e w1 ⟨rfl, hb⟩
    go_wp2_with fail
    go_ret
    exact ⟨rfl, hb⟩
  · by_cases hl1 : len1 = 0
    · subst hl1
      go_enter Try.func4, Try.ntmps4
      go_wp2_with fail
      refine (works_any _).mono ?_
      rintro e w1 ⟨rfl, hb⟩
      go_wp2_with fail
      go_ret
      exact ⟨rfl, hb⟩
    · have hl1' : ((len1 : Int) == 0) = false := by rw [beq_eq_false_iff_ne]; omega
      have hl0' : decide (300 < (len0 : Int)) = false := by simp; omega
      have hl1p : 0 < len1 := by omega
      clear hl1
      have hm1 : len1 ≤ 9223372036854775807 := by
        rcases h1 with ⟨_, h, _⟩ | ⟨_, _, h, h', _⟩
        · omega
        · unfold maxLen at h'; omega
      obtain ⟨i0, hi0, hz0, hz1, hz2⟩ := info_parts Try.infoThing10
      go_enter Try.func4, Try.ntmps4
      go_wp2_with fail
      refine (new_any _).mono ?_
      rintro e w1 ⟨rfl, hr1, hb1⟩
      go_wp2_with fail
      go_loopw [8, 6] (fun v vi wr => ∃ (i : Nat) (S : Nat → Prop) (xs : List T), v = .int .i64 i ∧ i ≤ len0 ∧ St w wr w.heap.size S xs vi (things z0 z1 len1 i) (.slice none 0 0) [] ∧ xs.Perm (things z0 z1 len1 i)) (fun v _ wr => len0 - (intOf v).toNat)
      case atStart => exact ⟨0, _, [], rfl, Nat.zero_le _, ⟨hr1, World.ownsRow_nil _ _ _ _, World.ownsRow_nil _ _ _ _, by simp [Value.ownBlock], by simp [Value.ownBlock], fun j hj => by omega, hb1⟩, List.Perm.refl _⟩
      case round =>
        obtain ⟨i, S, xs, rfl, hi, hst, hp⟩ := hrel
        have HP := Lib.hid hp
        clear hp
        by_cases hlt : i < len0
        · obtain ⟨b0, off0, rfl, hbl0, hc0⟩ := h0.get i hlt
          have him : i % len1 < len1 := Nat.mod_lt _ hl1p
          obtain ⟨b1, off1, rfl, hbl1, hc1⟩ := h1.get (i % len1) him
          obtain ⟨x, hx⟩ : ∃ x, x = z0.getD i 0 := ⟨_, rfl⟩
          obtain ⟨y, hy⟩ : ∃ y, y = z1.getD (i % len1) 0 := ⟨_, rfl⟩
          have c0 : wr.cell? ⟨b0, off0 + i, none⟩ = some (.int .i64 x) := by rw [hx]; exact (hst.below.cell (p := ⟨b0, off0 + i, none⟩) hbl0).trans (hc0 i hlt)
          have c1 : wr.cell? ⟨b1, off1 + i % len1, none⟩ = some (.int .u8 y) := by rw [hy]; exact (hst.below.cell (p := ⟨b1, off1 + i % len1, none⟩) hbl1).trans (hc1 (i % len1) him)
          have hy0 : 0 ≤ y ∧ y ≤ 255 := by rw [hy]; exact bounds_u8 (h1.wf (i % len1) him)
          obtain ⟨hy1, hy2⟩ := hy0
          have hth : thing z0 z1 len1 i = (x, y) := by rw [hx, hy]; rfl
          have HTH := Lib.hid hth
          have hr0 : b0 < wr.heap.size := Nat.lt_of_lt_of_le hbl0 hst.below.size
          have hr1 : b1 < wr.heap.size := Nat.lt_of_lt_of_le hbl1 hst.below.size
          clear hc0 hc1 hx hy hth
          go_wp2_with fail
          have hCW : (fun W : World => W.cell? ⟨b0, off0 + i, none⟩ = some (.int .i64 x) ∧ W.cell? ⟨b1, off1 + i % len1, none⟩ = some (.int .u8 y)) wr.drew := ⟨c0, c1⟩
          refine Mix.region [1, 1, 1, 1, 1, 1, 1, 1, 1, 1, 1, 1, 1, 2, 2] (fun W : World => W.cell? ⟨b0, off0 + i, none⟩ = some (.int .i64 x) ∧ W.cell? ⟨b1, off1 + i % len1, none⟩ = some (.int .u8 y)) (by kernel_rfl) (by kernel_rfl) hCW ?_
          simp only [List.zip_cons_cons, List.zip_nil_right]
          (refine Mix.step1 fun K hK => ?_; go_simp; (try (go_bits; try go_simp)); first | ((with_reducible refine hK _ _ ?_); clear hK K) | ((try (simp only [IntWalk.iteOmega]; try go_simp)); (try go_bits); (with_reducible refine hK _ _ ?_); clear hK K))
          (refine Mix.step1 fun K hK => ?_; go_simp; (try (go_bits; try go_simp)); first | ((with_reducible refine hK _ _ ?_); clear hK K) | ((try (simp only [IntWalk.iteOmega]; try go_simp)); (try go_bits); (with_reducible refine hK _ _ ?_); clear hK K))
          (refine Mix.step1 fun K hK => ?_; go_simp; (try (go_bits; try go_simp)); first | ((with_reducible refine hK _ _ ?_); clear hK K) | ((try (simp only [IntWalk.iteOmega]; try go_simp)); (try go_bits); (with_reducible refine hK _ _ ?_); clear hK K))
          (refine Mix.step1 fun K hK => ?_; go_simp; refine ⟨fun W => ?_, hK _ _ ?_⟩; (intro hW1; (try intro hW2); (try intro hW3); (try intro hW4); go_simp); clear hK K)
          (refine Mix.step1 fun K hK => ?_; go_simp; (try (go_bits; try go_simp)); first | ((with_reducible refine hK _ _ ?_); clear hK K) | ((try (simp only [IntWalk.iteOmega]; try go_simp)); (try go_bits); (with_reducible refine hK _ _ ?_); clear hK K))
          (refine Mix.step1 fun K hK => ?_; go_simp; (try (go_bits; try go_simp)); first | ((with_reducible refine hK _ _ ?_); clear hK K) | ((try (simp only [IntWalk.iteOmega]; try go_simp)); (try go_bits); (with_reducible refine hK _ _ ?_); clear hK K))
          (refine Mix.step1 fun K hK => ?_; go_simp; (try (go_bits; try go_simp)); first | ((with_reducible refine hK _ _ ?_); clear hK K) | ((try (simp only [IntWalk.iteOmega]; try go_simp)); (try go_bits); (with_reducible refine hK _ _ ?_); clear hK K))
          (refine Mix.step1 fun K hK => ?_; go_simp; (try (go_bits; try go_simp)); first | ((with_reducible refine hK _ _ ?_); clear hK K) | ((try (simp only [IntWalk.iteOmega]; try go_simp)); (try go_bits); (with_reducible refine hK _ _ ?_); clear hK K))
          (refine Mix.step1 fun K hK => ?_; go_simp; (try (go_bits; try go_simp)); first | ((with_reducible refine hK _ _ ?_); clear hK K) | ((try (simp only [IntWalk.iteOmega]; try go_simp)); (try go_bits); (with_reducible refine hK _ _ ?_); clear hK K))
          (refine Mix.step1 fun K hK => ?_; go_simp; (try (go_bits; try go_simp)); first | ((with_reducible refine hK _ _ ?_); clear hK K) | ((try (simp only [IntWalk.iteOmega]; try go_simp)); (try go_bits); (with_reducible refine hK _ _ ?_); clear hK K))
          (refine Mix.step1 fun K hK => ?_; go_simp; refine ⟨fun W => ?_, hK _ _ ?_⟩; (intro hW1; (try intro hW2); (try intro hW3); (try intro hW4); go_simp); clear hK K)
          (refine Mix.step1 fun K hK => ?_; go_simp; (try (go_bits; try go_simp)); first | ((with_reducible refine hK _ _ ?_); clear hK K) | ((try (simp only [IntWalk.iteOmega]; try go_simp)); (try go_bits); (with_reducible refine hK _ _ ?_); clear hK K))
          (refine Mix.step1 fun K hK => ?_; go_simp; (try (go_bits; try go_simp)); first | ((with_reducible refine hK _ _ ?_); clear hK K) | ((try (simp only [IntWalk.iteOmega]; try go_simp)); (try go_bits); (with_reducible refine hK _ _ ?_); clear hK K))
          refine Mix.step2n (by first | rfl | simp [Region.wanted, yielded]) fun K hK => ?_
          go_wp2_with fail
          clear hCW
          have hCW : ∀ o, (wr.alloc o).drew.cell? ⟨b0, off0 + i, none⟩ = some (.int .i64 x) ∧ (wr.alloc o).drew.cell? ⟨b1, off1 + i % len1, none⟩ = some (.int .u8 y) := fun o =>
            ⟨((Fr.alloc (S := fun _ => False) wr o).cell hr0 id).trans c0, ((Fr.alloc (S := fun _ => False) wr o).cell hr1 id).trans c1⟩
          have HCW := Lib.hid hCW
          clear hCW
          refine Mix.post_mk (C := (fun W : World => W.cell? ⟨b0, off0 + i, none⟩ = some (.int .i64 x) ∧ W.cell? ⟨b1, off1 + i % len1, none⟩ = some (.int .u8 y))) (by first | exact hCW | exact HCW.out _) (hK _ _ ?_)
          clear hK K
          refine Mix.step2n (by first | rfl | simp [Region.wanted, yielded]) fun K hK => ?_
          go_wp2_with fail
          refine Mix.post_mk (C := (fun W : World => W.cell? ⟨b0, off0 + i, none⟩ = some (.int .i64 x) ∧ W.cell? ⟨b1, off1 + i % len1, none⟩ = some (.int .u8 y))) (by first | exact hCW | exact HCW.out _) (hK _ _ ?_)
          clear hK K
          refine Mix.done ?_
          generalize hW2 : World.drew _ = w2
          have hbx : w2.heap[wr.heap.size]? = some (.cells #[.int .i64 x, .int .i64 y] 42 (0, 0)) := by rw [← hW2]; exact heap_alloc_new wr _
          have hF2 : Fr (fun _ => False) wr w2 := by rw [← hW2]; exact (Fr.alloc wr _).to_drew
          have hsz2 : wr.heap.size < w2.heap.size := lt_of hbx
          have hst2 := hst.still hF2
          clear hW2 HCW c0 c1 hF2
          obtain ⟨bx, hbxe⟩ : ∃ bx, bx = wr.heap.size := ⟨_, rfl⟩
          rw [← hbxe] at hbx ⊢
          have hSx : ¬ S bx := by rw [hbxe]; intro hs; exact Nat.lt_irrefl _ (hst.heap.low _ hs)
          have HBX := Lib.hid hbxe
          clear hbxe hsz2
          have x0 := cell_of hbx 0
          have x1 := cell_of hbx 1
          simp only [List.getElem?_toArray, List.getElem?_cons_zero, List.getElem?_cons_succ] at x0 x1
          have hpl : xs.length ≤ 300 := by rw [HP.out.length_eq, things_length]; omega
          go_wp2_with fail
          refine (push_any _ _ _ _ _ _ hst2.heap (by omega)).mono ?_
          rintro e w3 ⟨rfl, S3, xs3, hr3, hp3, ht3⟩
          have hst3 := hst2.heapTurn ht3 hr3
          have hbx3 : w3.heap[bx]? = some (.cells #[.int .i64 x, .int .i64 y] 42 (0, 0)) := (ht3.fr.block bx (lt_of hbx) hSx).trans hbx
          clear x0 x1
          have x0 := cell_of hbx3 0
          have x1 := cell_of hbx3 1
          simp only [List.getElem?_toArray, List.getElem?_cons_zero, List.getElem?_cons_succ] at x0 x1
          have HP3 := Lib.hid hp3
          have hl3 : xs3.length = i + 1 := by rw [hp3.length_eq, List.length_cons, HP.out.length_eq, things_length]
          have HL3 := Lib.hid hl3
          clear hp3 hl3
          go_wp2_with fail
          refine (len_any _ _ _ _ hr3).mono ?_
          rintro e w4 ⟨rfl, rfl⟩
          rw [HL3.out]
          have hnb : (w3.alloc (.cells #[.int .i64 x, .int .i64 y] 42)).heap[w3.heap.size]? = some (.cells #[.int .i64 x, .int .i64 y] 42 (0, 0)) := heap_alloc_new w3 _
          have hst4 := hst3.still (Fr.alloc w3 (.cells #[.int .i64 x, .int .i64 y] 42))
          have hil : i ≤ 300 := by omega
          have hin4 : (w3.alloc (.cells #[.int .i64 x, .int .i64 y] 42)).ownsRow 0 42 2 u6 i (flat (things z0 z1 len1 i)) := by
            have h := hst4.inr
            unfold Row at h
            rw [things_length] at h
            exact h
          go_wp2_with (at_builtin; refine wpList_append1 rfl (.tmp 60) (.tmp 62) 27 rfl 42 i0 _ 2 16 Try.underlying27 hi0 hz0 hz1 hz2 rfl (by decide) u6 i _ rfl hin4 w3.heap.size _ _ _ rfl hnb rfl ?c2 ?c3 ?c4 ?grow)
          case c2 => exact ⟨rfl, rfl⟩
          case c3 => unfold maxLen; omega
          case c4 => omega
          case grow =>
            intro v' w5 hA
            have hst5 := hst4.appIn (v' := v') (w' := w5) (x := (x, y)) (by rw [things_length]; exact hA)
            clear hnb hin4 hA
            go_wp2_with fail
            go_roundw
            case rel => exact ⟨i + 1, S3, xs3, by go_num, by omega, by rw [things_succ, HTH.out]; exact hst5, by rw [things_succ, HTH.out]; exact HP3.out.trans ((HP.out.cons _).trans (List.perm_append_singleton _ _).symm)⟩
            case measure => simp [intOf]; omega
        · obtain rfl : i = len0 := by omega
          go_wp2_with fail
          go_loopw [10, 7] (fun v vo wr => ∃ (j : Nat) (S : Nat → Prop) (xs outs : List T), v = .int .i64 j ∧ j ≤ i + 1 ∧ St w wr w.heap.size S xs u6 (things z0 z1 len1 i) vo outs ∧ outs.length = min j i ∧ (outs ++ xs).Perm (things z0 z1 len1 i) ∧ Srt outs xs) (fun v _ wr => i + 1 - (intOf v).toNat)
          case atStart => exact ⟨0, S, xs, [], rfl, Nat.zero_le _, hst, by simp, HP.out, Srt.nil _⟩
          case round =>
            clear hst HP hi
            obtain ⟨j, S, xs, outs, rfl, hj, hst, hol, hp, hsr⟩ := hrel
            have hxl : outs.length + xs.length = i := by rw [← List.length_append, hp.length_eq, things_length]
            have HOL := Lib.hid hol
            have HXL := Lib.hid hxl
            have HP := Lib.hid hp
            clear hol hxl hp
            have hxs : xs.length ≤ 1000 := by have := HXL.out; omega
            by_cases hlt : j < i + 1
            · go_wp2_with fail
              refine (pop_any _ _ _ _ hst.heap hxs).mono ?_
              rintro e w2 ⟨rfl, xs2, hr2, hp2, hf2⟩
              have hst2 := hst.heapTurn (Turned.of hf2) hr2
              by_cases hji : j < i
              · obtain ⟨m, r, rfl⟩ : ∃ m r, xs = m :: r := by
                  match xs with
                  | [] => have h1 := HOL.out; have h2 := HXL.out; simp at h2; omega
                  | m :: r => exact ⟨m, r, rfl⟩
                unfold peekV
                have hnb : (w2.alloc (.cells #[.int .i64 m.1, .int .i64 m.2] 42)).heap[w2.heap.size]? = some (.cells #[.int .i64 m.1, .int .i64 m.2] 42 (0, 0)) := heap_alloc_new w2 _
                have hst4 := hst2.still (Fr.alloc w2 (.cells #[.int .i64 m.1, .int .i64 m.2] 42))
                have hout4 : (w2.alloc (.cells #[.int .i64 m.1, .int .i64 m.2] 42)).ownsRow 0 42 2 u7 outs.length (flat outs) := hst4.outr
                have hol3 : outs.length ≤ 300 := by have := HOL.out; omega
                go_wp2_with (at_builtin; refine wpList_append1 rfl (.tmp 85) (.tmp 89) 27 rfl 42 i0 _ 2 16 Try.underlying27 hi0 hz0 hz1 hz2 rfl (by decide) u7 outs.length _ rfl hout4 w2.heap.size _ _ _ rfl hnb rfl ?d2 ?d3 ?d4 ?grow)
                case d2 => exact ⟨rfl, rfl⟩
                case d3 => unfold maxLen; omega
                case d4 => omega
                case grow =>
                  intro v' w5 hA
                  have hst5 := hst4.appOut (v' := v') (w' := w5) (x := m) hA
                  clear hnb hout4 hA
                  go_wp2_with fail
                  go_roundw
                  case rel =>
                    refine ⟨j + 1, S, xs2, outs ++ [m], by go_num, by omega, hst5, ?_, ?_, hsr.pop hst.heap.isH hp2⟩
                    · have := HOL.out; simp only [List.length_append, List.length_cons, List.length_nil]; omega
                    · rw [List.append_assoc]; exact (List.Perm.append_left outs (hp2.cons m)).trans HP.out
                  case measure => simp [intOf]; omega
              · obtain rfl : xs = [] := List.eq_nil_of_length_eq_zero (by have h1 := HOL.out; have h2 := HXL.out; omega)
                obtain rfl : xs2 = [] := hp2.eq_nil
                unfold peekV
                go_wp2_with fail
                go_roundw
                case rel => exact ⟨j + 1, S, [], outs, by go_num, by omega, hst2, by have := HOL.out; omega, HP.out, hsr⟩
                case measure => simp [intOf]; omega
            · obtain rfl : xs = [] := List.eq_nil_of_length_eq_zero (by have h1 := HOL.out; have h2 := HXL.out; omega)
              have hol : outs.length ≤ 300 := by have h1 := HXL.out; simp at h1; omega
              have hperm : outs.Perm (things z0 z1 len1 i) := by have := HP.out; simpa using this
              have hct : ∀ x, cnt (things z0 z1 len1 i) x = cnt outs x := fun x => (List.Perm.count_eq hperm x).symm
              have HCT := Lib.hid hct
              have hq1 : decide (j ≤ i) = false := by rw [decide_eq_false_iff_not]; omega
              have hq2 : decide ((j : Int) ≤ (i : Int)) = false := by rw [decide_eq_false_iff_not]; omega
              clear hct hperm
              go_wp2_with fail
              clear hq1 hq2
              go_loopw [14] (fun v wr => ∃ (k : Nat), v = .int .i64 k ∧ k ≤ outs.length ∧ St w wr w.heap.size S [] u6 (things z0 z1 len1 i) u7 outs) (fun v wr => outs.length - (intOf v).toNat)
              case atStart => exact ⟨0, rfl, Nat.zero_le _, hst⟩
              case round =>
                clear hst
                obtain ⟨k, rfl, hk, hst⟩ := hrel
                obtain ⟨av, cv, hve⟩ := hst.outr.shape
                subst hve
                by_cases hkl : k < outs.length
                · obtain ⟨g, cap, hv, hg, hc⟩ := hst.outr.get k hkl
                  injection hv with hv1 _ hv2
                  subst hv1; subst hv2
                  have c1 := (hc k hkl).1
                  have c2 := (hc k hkl).2
                  by_cases hk0 : 0 < k
                  · have hadj := (le_iff _ _).1 (hsr.adj k hk0 hkl)
                    obtain ⟨p, hp⟩ : ∃ p, p = k - 1 := ⟨_, rfl⟩
                    have hpk : (k : Int) - 1 = (p : Int) := by omega
                    have hpl : p < outs.length := by omega
                    have hp1 : IntKind.i64.wrap ((k : Int) - 1) = (p : Int) := by rw [IntWalk.i64_in _ (by omega)]; exact hpk
                    rw [← hp] at hadj
                    have c3 := (hc p hpl).1
                    have c4 := (hc p hpl).2
                    clear hc hp hpk
                    by_cases hlt1 : (nth outs p).1 < (nth outs k).1
                    · have HLT := Lib.hid hlt1
                      clear hadj hlt1
                      go_wp2_with fail
                      have hd1 : ¬ ((nth outs k).1 < (nth outs p).1) := by have := HLT.out; omega
                      have hd2 : ((nth outs p).1 == (nth outs k).1) = false := by have := HLT.out; rw [beq_eq_false_iff_ne]; omega
                      clear HLT
                      have hCW : (fun W : World => W.cell? ⟨g, k * 2, none⟩ = some (.int .i64 (nth outs k).1) ∧ W.cell? ⟨g, k * 2 + 1, none⟩ = some (.int .i64 (nth outs k).2)) wr.drew := ⟨c1, c2⟩
                      refine Mix.region [0, 0, 0, 0, 0, 0, 0, 0, 0, 0, 0, 0, 0, 0, 0, 0, 0, 0, 0, 0, 0, 0, 0, 0, 0, 0, 0, 0, 0, 0, 0, 0, 0, 0, 0, 0, 0, 0, 0, 0, 0, 0, 0, 0, 0, 0, 0, 0, 0, 0, 2, 1, 1, 1, 1, 1, 2, 0, 0] (fun W : World => W.cell? ⟨g, k * 2, none⟩ = some (.int .i64 (nth outs k).1) ∧ W.cell? ⟨g, k * 2 + 1, none⟩ = some (.int .i64 (nth outs k).2)) (by kernel_rfl) (by kernel_rfl) hCW ?_
                      simp only [List.zip_cons_cons, List.zip_nil_right]
                      iterate 3 (refine Mix.step0 fun K hK => ?_; go_simp; (try (go_bits; try go_simp)); first | ((with_reducible refine hK _ _ ?_); clear hK K) | ((try (simp only [IntWalk.iteOmega]; try go_simp)); (try go_bits); (with_reducible refine hK _ _ ?_); clear hK K))
                      iterate 40 (first | (refine Mix.stepS rfl fun K hK => ?_; go_simp; (with_reducible refine hK _ _ ?_); clear hK K) | (refine Mix.step0 fun K hK => ?_; go_simp; (try (go_bits; try go_simp)); first | ((with_reducible refine hK _ _ ?_); clear hK K) | ((try (simp only [IntWalk.iteOmega]; try go_simp)); (try go_bits); (with_reducible refine hK _ _ ?_); clear hK K)))
                      iterate 2 (refine Mix.step0 fun K hK => ?_; go_simp; (try (go_bits; try go_simp)); first | ((with_reducible refine hK _ _ ?_); clear hK K) | ((try (simp only [IntWalk.iteOmega]; try go_simp)); (try go_bits); (with_reducible refine hK _ _ ?_); clear hK K))
                      iterate 5 (first | (refine Mix.stepS rfl fun K hK => ?_; go_simp; (with_reducible refine hK _ _ ?_); clear hK K) | (refine Mix.step0 fun K hK => ?_; go_simp; (try (go_bits; try go_simp)); first | ((with_reducible refine hK _ _ ?_); clear hK K) | ((try (simp only [IntWalk.iteOmega]; try go_simp)); (try go_bits); (with_reducible refine hK _ _ ?_); clear hK K)))
                      refine Mix.step2n (by first | rfl | simp [Region.wanted, yielded]) fun K hK => ?_
                      go_wp2_with fail
                      refine (times_any u6 (things z0 z1 len1 i) _ _ _ (hst.still (Fr.drew _)).inr (by rw [things_length]; omega)).mono ?_
                      rintro e w2 ⟨rfl, hbel⟩
                      have hf2 : Fr (fun _ => False) wr w2 := Fr.below (below_drew hbel)
                      have hst2 := hst.still hf2
                      have d1 : w2.cell? ⟨g, k * 2, none⟩ = some (.int .i64 (nth outs k).1) := (hf2.cell (Nat.lt_of_lt_of_le hg (Nat.le_refl _)) id).trans c1
                      have d2 : w2.cell? ⟨g, k * 2 + 1, none⟩ = some (.int .i64 (nth outs k).2) := (hf2.cell (Nat.lt_of_lt_of_le hg (Nat.le_refl _)) id).trans c2
                      clear hCW hbel hf2
                      have hCW : (fun W : World => W.cell? ⟨g, k * 2, none⟩ = some (.int .i64 (nth outs k).1) ∧ W.cell? ⟨g, k * 2 + 1, none⟩ = some (.int .i64 (nth outs k).2)) w2 := ⟨d1, d2⟩
                      go_wp2_with fail
                      refine Mix.post_mk (C := (fun W : World => W.cell? ⟨g, k * 2, none⟩ = some (.int .i64 (nth outs k).1) ∧ W.cell? ⟨g, k * 2 + 1, none⟩ = some (.int .i64 (nth outs k).2))) (by first | exact hCW | exact HCW.out _) (hK _ _ ?_)
                      clear hK K
                      (refine Mix.step1 fun K hK => ?_; go_simp; (try (go_bits; try go_simp)); first | ((with_reducible refine hK _ _ ?_); clear hK K) | ((try (simp only [IntWalk.iteOmega]; try go_simp)); (try go_bits); (with_reducible refine hK _ _ ?_); clear hK K))
                      (refine Mix.step1 fun K hK => ?_; go_simp; (try (go_bits; try go_simp)); first | ((with_reducible refine hK _ _ ?_); clear hK K) | ((try (simp only [IntWalk.iteOmega]; try go_simp)); (try go_bits); (with_reducible refine hK _ _ ?_); clear hK K))
                      (refine Mix.step1 fun K hK => ?_; go_simp; (try (go_bits; try go_simp)); first | ((with_reducible refine hK _ _ ?_); clear hK K) | ((try (simp only [IntWalk.iteOmega]; try go_simp)); (try go_bits); (with_reducible refine hK _ _ ?_); clear hK K))
                      (refine Mix.step1 fun K hK => ?_; go_simp; (try (go_bits; try go_simp)); first | ((with_reducible refine hK _ _ ?_); clear hK K) | ((try (simp only [IntWalk.iteOmega]; try go_simp)); (try go_bits); (with_reducible refine hK _ _ ?_); clear hK K))
                      (refine Mix.step1 fun K hK => ?_; go_simp; refine ⟨fun W => ?_, hK _ _ ?_⟩; (intro hW1; (try intro hW2); (try intro hW3); (try intro hW4); go_simp); clear hK K)
                      refine Mix.step2n (by first | rfl | simp [Region.wanted, yielded]) fun K hK => ?_
                      go_wp2_with fail
                      refine (times_any _ outs _ _ _ hst2.outr (by omega)).mono ?_
                      rintro e w3 ⟨rfl, hbel⟩
                      have hf3 : Fr (fun _ => False) w2 w3 := Fr.below hbel
                      have hg2 : g < w2.heap.size := hst2.outr.low g rfl
                      have hst3 := hst2.still hf3
                      have e1 : w3.cell? ⟨g, k * 2, none⟩ = some (.int .i64 (nth outs k).1) := (hf3.cell hg2 id).trans d1
                      have e2 : w3.cell? ⟨g, k * 2 + 1, none⟩ = some (.int .i64 (nth outs k).2) := (hf3.cell hg2 id).trans d2
                      clear hCW hbel hf3
                      have hCW : (fun W : World => W.cell? ⟨g, k * 2, none⟩ = some (.int .i64 (nth outs k).1) ∧ W.cell? ⟨g, k * 2 + 1, none⟩ = some (.int .i64 (nth outs k).2)) w3 := ⟨e1, e2⟩
                      rw [HCT.out]
                      go_wp2_with fail
                      refine Mix.post_mk (C := (fun W : World => W.cell? ⟨g, k * 2, none⟩ = some (.int .i64 (nth outs k).1) ∧ W.cell? ⟨g, k * 2 + 1, none⟩ = some (.int .i64 (nth outs k).2))) (by first | exact hCW | exact HCW.out _) (hK _ _ ?_)
                      clear hK K
                      iterate 1 (first | (refine Mix.stepS rfl fun K hK => ?_; go_simp; (with_reducible refine hK _ _ ?_); clear hK K) | (refine Mix.step0 fun K hK => ?_; go_simp; (try (go_bits; try go_simp)); first | ((with_reducible refine hK _ _ ?_); clear hK K) | ((try (simp only [IntWalk.iteOmega]; try go_simp)); (try go_bits); (with_reducible refine hK _ _ ?_); clear hK K)))
                      iterate 1 (refine Mix.step0 fun K hK => ?_; go_simp; (try (go_bits; try go_simp)); first | ((with_reducible refine hK _ _ ?_); clear hK K) | ((try (simp only [IntWalk.iteOmega]; try go_simp)); (try go_bits); (with_reducible refine hK _ _ ?_); clear hK K))
                      refine Mix.done ?_
                      go_wp2_with fail
                      go_roundw
                      case rel => exact ⟨k + 1, by go_num, by omega, hst3⟩
                      case measure => simp [intOf]; omega

                    · obtain ⟨hd1, hd2⟩ : (nth outs p).1 = (nth outs k).1 ∧ (nth outs p).2 ≤ (nth outs k).2 := by omega
                      rw [hd1] at c3
                      have HD2 := Lib.hid hd2
                      clear hadj hlt1 hd1 hd2
                      go_wp2_with fail
                      have hd3 : ¬ ((nth outs k).2 < (nth outs p).2) := by have := HD2.out; omega
                      have hCW : (fun W : World => W.cell? ⟨g, k * 2, none⟩ = some (.int .i64 (nth outs k).1) ∧ W.cell? ⟨g, k * 2 + 1, none⟩ = some (.int .i64 (nth outs k).2)) wr.drew := ⟨c1, c2⟩
                      refine Mix.region [0, 0, 0, 0, 0, 0, 0, 0, 0, 0, 0, 0, 0, 0, 0, 0, 0, 0, 0, 0, 0, 0, 0, 0, 0, 0, 0, 0, 0, 0, 0, 0, 0, 0, 0, 0, 0, 0, 0, 0, 0, 0, 0, 0, 0, 0, 0, 0, 0, 0, 2, 1, 1, 1, 1, 1, 2, 0, 0] (fun W : World => W.cell? ⟨g, k * 2, none⟩ = some (.int .i64 (nth outs k).1) ∧ W.cell? ⟨g, k * 2 + 1, none⟩ = some (.int .i64 (nth outs k).2)) (by kernel_rfl) (by kernel_rfl) hCW ?_
                      simp only [List.zip_cons_cons, List.zip_nil_right]
                      iterate 3 (refine Mix.step0 fun K hK => ?_; go_simp; (try (go_bits; try go_simp)); first | ((with_reducible refine hK _ _ ?_); clear hK K) | ((try (simp only [IntWalk.iteOmega]; try go_simp)); (try go_bits); (with_reducible refine hK _ _ ?_); clear hK K))
                      iterate 40 (first | (refine Mix.stepS rfl fun K hK => ?_; go_simp; (with_reducible refine hK _ _ ?_); clear hK K) | (refine Mix.step0 fun K hK => ?_; go_simp; (try (go_bits; try go_simp)); first | ((with_reducible refine hK _ _ ?_); clear hK K) | ((try (simp only [IntWalk.iteOmega]; try go_simp)); (try go_bits); (with_reducible refine hK _ _ ?_); clear hK K)))
                      iterate 2 (refine Mix.step0 fun K hK => ?_; go_simp; (try (go_bits; try go_simp)); first | ((with_reducible refine hK _ _ ?_); clear hK K) | ((try (simp only [IntWalk.iteOmega]; try go_simp)); (try go_bits); (with_reducible refine hK _ _ ?_); clear hK K))
                      iterate 5 (first | (refine Mix.stepS rfl fun K hK => ?_; go_simp; (with_reducible refine hK _ _ ?_); clear hK K) | (refine Mix.step0 fun K hK => ?_; go_simp; (try (go_bits; try go_simp)); first | ((with_reducible refine hK _ _ ?_); clear hK K) | ((try (simp only [IntWalk.iteOmega]; try go_simp)); (try go_bits); (with_reducible refine hK _ _ ?_); clear hK K)))
                      refine Mix.step2n (by first | rfl | simp [Region.wanted, yielded]) fun K hK => ?_
                      go_wp2_with fail
                      refine (times_any u6 (things z0 z1 len1 i) _ _ _ (hst.still (Fr.drew _)).inr (by rw [things_length]; omega)).mono ?_
                      rintro e w2 ⟨rfl, hbel⟩
                      have hf2 : Fr (fun _ => False) wr w2 := Fr.below (below_drew hbel)
                      have hst2 := hst.still hf2
                      have d1 : w2.cell? ⟨g, k * 2, none⟩ = some (.int .i64 (nth outs k).1) := (hf2.cell (Nat.lt_of_lt_of_le hg (Nat.le_refl _)) id).trans c1
                      have d2 : w2.cell? ⟨g, k * 2 + 1, none⟩ = some (.int .i64 (nth outs k).2) := (hf2.cell (Nat.lt_of_lt_of_le hg (Nat.le_refl _)) id).trans c2
                      clear hCW hbel hf2
                      have hCW : (fun W : World => W.cell? ⟨g, k * 2, none⟩ = some (.int .i64 (nth outs k).1) ∧ W.cell? ⟨g, k * 2 + 1, none⟩ = some (.int .i64 (nth outs k).2)) w2 := ⟨d1, d2⟩
                      go_wp2_with fail
                      refine Mix.post_mk (C := (fun W : World => W.cell? ⟨g, k * 2, none⟩ = some (.int .i64 (nth outs k).1) ∧ W.cell? ⟨g, k * 2 + 1, none⟩ = some (.int .i64 (nth outs k).2))) (by first | exact hCW | exact HCW.out _) (hK _ _ ?_)
                      clear hK K
                      (refine Mix.step1 fun K hK => ?_; go_simp; (try (go_bits; try go_simp)); first | ((with_reducible refine hK _ _ ?_); clear hK K) | ((try (simp only [IntWalk.iteOmega]; try go_simp)); (try go_bits); (with_reducible refine hK _ _ ?_); clear hK K))
                      (refine Mix.step1 fun K hK => ?_; go_simp; (try (go_bits; try go_simp)); first | ((with_reducible refine hK _ _ ?_); clear hK K) | ((try (simp only [IntWalk.iteOmega]; try go_simp)); (try go_bits); (with_reducible refine hK _ _ ?_); clear hK K))
                      (refine Mix.step1 fun K hK => ?_; go_simp; (try (go_bits; try go_simp)); first | ((with_reducible refine hK _ _ ?_); clear hK K) | ((try (simp only [IntWalk.iteOmega]; try go_simp)); (try go_bits); (with_reducible refine hK _ _ ?_); clear hK K))
                      (refine Mix.step1 fun K hK => ?_; go_simp; (try (go_bits; try go_simp)); first | ((with_reducible refine hK _ _ ?_); clear hK K) | ((try (simp only [IntWalk.iteOmega]; try go_simp)); (try go_bits); (with_reducible refine hK _ _ ?_); clear hK K))
                      (refine Mix.step1 fun K hK => ?_; go_simp; refine ⟨fun W => ?_, hK _ _ ?_⟩; (intro hW1; (try intro hW2); (try intro hW3); (try intro hW4); go_simp); clear hK K)
                      refine Mix.step2n (by first | rfl | simp [Region.wanted, yielded]) fun K hK => ?_
                      go_wp2_with fail
                      refine (times_any _ outs _ _ _ hst2.outr (by omega)).mono ?_
                      rintro e w3 ⟨rfl, hbel⟩
                      have hf3 : Fr (fun _ => False) w2 w3 := Fr.below hbel
                      have hg2 : g < w2.heap.size := hst2.outr.low g rfl
                      have hst3 := hst2.still hf3
                      have e1 : w3.cell? ⟨g, k * 2, none⟩ = some (.int .i64 (nth outs k).1) := (hf3.cell hg2 id).trans d1
                      have e2 : w3.cell? ⟨g, k * 2 + 1, none⟩ = some (.int .i64 (nth outs k).2) := (hf3.cell hg2 id).trans d2
                      clear hCW hbel hf3
                      have hCW : (fun W : World => W.cell? ⟨g, k * 2, none⟩ = some (.int .i64 (nth outs k).1) ∧ W.cell? ⟨g, k * 2 + 1, none⟩ = some (.int .i64 (nth outs k).2)) w3 := ⟨e1, e2⟩
                      rw [HCT.out]
                      go_wp2_with fail
                      refine Mix.post_mk (C := (fun W : World => W.cell? ⟨g, k * 2, none⟩ = some (.int .i64 (nth outs k).1) ∧ W.cell? ⟨g, k * 2 + 1, none⟩ = some (.int .i64 (nth outs k).2))) (by first | exact hCW | exact HCW.out _) (hK _ _ ?_)
                      clear hK K
                      iterate 1 (first | (refine Mix.stepS rfl fun K hK => ?_; go_simp; (with_reducible refine hK _ _ ?_); clear hK K) | (refine Mix.step0 fun K hK => ?_; go_simp; (try (go_bits; try go_simp)); first | ((with_reducible refine hK _ _ ?_); clear hK K) | ((try (simp only [IntWalk.iteOmega]; try go_simp)); (try go_bits); (with_reducible refine hK _ _ ?_); clear hK K)))
                      iterate 1 (refine Mix.step0 fun K hK => ?_; go_simp; (try (go_bits; try go_simp)); first | ((with_reducible refine hK _ _ ?_); clear hK K) | ((try (simp only [IntWalk.iteOmega]; try go_simp)); (try go_bits); (with_reducible refine hK _ _ ?_); clear hK K))
                      refine Mix.done ?_
                      go_wp2_with fail
                      go_roundw
                      case rel => exact ⟨k + 1, by go_num, by omega, hst3⟩
                      case measure => simp [intOf]; omega

                  · clear hc
                    go_wp2_with fail
                    have hCW : (fun W : World => W.cell? ⟨g, k * 2, none⟩ = some (.int .i64 (nth outs k).1) ∧ W.cell? ⟨g, k * 2 + 1, none⟩ = some (.int .i64 (nth outs k).2)) wr.drew := ⟨c1, c2⟩
                    refine Mix.region [0, 0, 0, 0, 0, 0, 0, 0, 0, 0, 0, 0, 0, 0, 0, 0, 0, 0, 0, 0, 0, 0, 0, 0, 0, 0, 0, 0, 0, 0, 0, 0, 0, 0, 0, 0, 0, 0, 0, 0, 0, 0, 0, 0, 0, 0, 0, 0, 0, 0, 2, 1, 1, 1, 1, 1, 2, 0, 0] (fun W : World => W.cell? ⟨g, k * 2, none⟩ = some (.int .i64 (nth outs k).1) ∧ W.cell? ⟨g, k * 2 + 1, none⟩ = some (.int .i64 (nth outs k).2)) (by kernel_rfl) (by kernel_rfl) hCW ?_
                    simp only [List.zip_cons_cons, List.zip_nil_right]
                    iterate 3 (refine Mix.step0 fun K hK => ?_; go_simp; (try (go_bits; try go_simp)); first | ((with_reducible refine hK _ _ ?_); clear hK K) | ((try (simp only [IntWalk.iteOmega]; try go_simp)); (try go_bits); (with_reducible refine hK _ _ ?_); clear hK K))
                    iterate 40 (first | (refine Mix.stepS rfl fun K hK => ?_; go_simp; (with_reducible refine hK _ _ ?_); clear hK K) | (refine Mix.step0 fun K hK => ?_; go_simp; (try (go_bits; try go_simp)); first | ((with_reducible refine hK _ _ ?_); clear hK K) | ((try (simp only [IntWalk.iteOmega]; try go_simp)); (try go_bits); (with_reducible refine hK _ _ ?_); clear hK K)))
                    iterate 2 (refine Mix.step0 fun K hK => ?_; go_simp; (try (go_bits; try go_simp)); first | ((with_reducible refine hK _ _ ?_); clear hK K) | ((try (simp only [IntWalk.iteOmega]; try go_simp)); (try go_bits); (with_reducible refine hK _ _ ?_); clear hK K))
                    iterate 5 (first | (refine Mix.stepS rfl fun K hK => ?_; go_simp; (with_reducible refine hK _ _ ?_); clear hK K) | (refine Mix.step0 fun K hK => ?_; go_simp; (try (go_bits; try go_simp)); first | ((with_reducible refine hK _ _ ?_); clear hK K) | ((try (simp only [IntWalk.iteOmega]; try go_simp)); (try go_bits); (with_reducible refine hK _ _ ?_); clear hK K)))
                    refine Mix.step2n (by first | rfl | simp [Region.wanted, yielded]) fun K hK => ?_
                    go_wp2_with fail
                    refine (times_any u6 (things z0 z1 len1 i) _ _ _ (hst.still (Fr.drew _)).inr (by rw [things_length]; omega)).mono ?_
                    rintro e w2 ⟨rfl, hbel⟩
                    have hf2 : Fr (fun _ => False) wr w2 := Fr.below (below_drew hbel)
                    have hst2 := hst.still hf2
                    have d1 : w2.cell? ⟨g, k * 2, none⟩ = some (.int .i64 (nth outs k).1) := (hf2.cell (Nat.lt_of_lt_of_le hg (Nat.le_refl _)) id).trans c1
                    have d2 : w2.cell? ⟨g, k * 2 + 1, none⟩ = some (.int .i64 (nth outs k).2) := (hf2.cell (Nat.lt_of_lt_of_le hg (Nat.le_refl _)) id).trans c2
                    clear hCW hbel hf2
                    have hCW : (fun W : World => W.cell? ⟨g, k * 2, none⟩ = some (.int .i64 (nth outs k).1) ∧ W.cell? ⟨g, k * 2 + 1, none⟩ = some (.int .i64 (nth outs k).2)) w2 := ⟨d1, d2⟩
                    go_wp2_with fail
                    refine Mix.post_mk (C := (fun W : World => W.cell? ⟨g, k * 2, none⟩ = some (.int .i64 (nth outs k).1) ∧ W.cell? ⟨g, k * 2 + 1, none⟩ = some (.int .i64 (nth outs k).2))) (by first | exact hCW | exact HCW.out _) (hK _ _ ?_)
                    clear hK K
                    (refine Mix.step1 fun K hK => ?_; go_simp; (try (go_bits; try go_simp)); first | ((with_reducible refine hK _ _ ?_); clear hK K) | ((try (simp only [IntWalk.iteOmega]; try go_simp)); (try go_bits); (with_reducible refine hK _ _ ?_); clear hK K))
                    (refine Mix.step1 fun K hK => ?_; go_simp; (try (go_bits; try go_simp)); first | ((with_reducible refine hK _ _ ?_); clear hK K) | ((try (simp only [IntWalk.iteOmega]; try go_simp)); (try go_bits); (with_reducible refine hK _ _ ?_); clear hK K))
                    (refine Mix.step1 fun K hK => ?_; go_simp; (try (go_bits; try go_simp)); first | ((with_reducible refine hK _ _ ?_); clear hK K) | ((try (simp only [IntWalk.iteOmega]; try go_simp)); (try go_bits); (with_reducible refine hK _ _ ?_); clear hK K))
                    (refine Mix.step1 fun K hK => ?_; go_simp; (try (go_bits; try go_simp)); first | ((with_reducible refine hK _ _ ?_); clear hK K) | ((try (simp only [IntWalk.iteOmega]; try go_simp)); (try go_bits); (with_reducible refine hK _ _ ?_); clear hK K))
                    (refine Mix.step1 fun K hK => ?_; go_simp; refine ⟨fun W => ?_, hK _ _ ?_⟩; (intro hW1; (try intro hW2); (try intro hW3); (try intro hW4); go_simp); clear hK K)
                    refine Mix.step2n (by first | rfl | simp [Region.wanted, yielded]) fun K hK => ?_
                    go_wp2_with fail
                    refine (times_any _ outs _ _ _ hst2.outr (by omega)).mono ?_
                    rintro e w3 ⟨rfl, hbel⟩
                    have hf3 : Fr (fun _ => False) w2 w3 := Fr.below hbel
                    have hg2 : g < w2.heap.size := hst2.outr.low g rfl
                    have hst3 := hst2.still hf3
                    have e1 : w3.cell? ⟨g, k * 2, none⟩ = some (.int .i64 (nth outs k).1) := (hf3.cell hg2 id).trans d1
                    have e2 : w3.cell? ⟨g, k * 2 + 1, none⟩ = some (.int .i64 (nth outs k).2) := (hf3.cell hg2 id).trans d2
                    clear hCW hbel hf3
                    have hCW : (fun W : World => W.cell? ⟨g, k * 2, none⟩ = some (.int .i64 (nth outs k).1) ∧ W.cell? ⟨g, k * 2 + 1, none⟩ = some (.int .i64 (nth outs k).2)) w3 := ⟨e1, e2⟩
                    rw [HCT.out]
                    go_wp2_with fail
                    refine Mix.post_mk (C := (fun W : World => W.cell? ⟨g, k * 2, none⟩ = some (.int .i64 (nth outs k).1) ∧ W.cell? ⟨g, k * 2 + 1, none⟩ = some (.int .i64 (nth outs k).2))) (by first | exact hCW | exact HCW.out _) (hK _ _ ?_)
                    clear hK K
                    iterate 1 (first | (refine Mix.stepS rfl fun K hK => ?_; go_simp; (with_reducible refine hK _ _ ?_); clear hK K) | (refine Mix.step0 fun K hK => ?_; go_simp; (try (go_bits; try go_simp)); first | ((with_reducible refine hK _ _ ?_); clear hK K) | ((try (simp only [IntWalk.iteOmega]; try go_simp)); (try go_bits); (with_reducible refine hK _ _ ?_); clear hK K)))
                    iterate 1 (refine Mix.step0 fun K hK => ?_; go_simp; (try (go_bits; try go_simp)); first | ((with_reducible refine hK _ _ ?_); clear hK K) | ((try (simp only [IntWalk.iteOmega]; try go_simp)); (try go_bits); (with_reducible refine hK _ _ ?_); clear hK K))
                    refine Mix.done ?_
                    go_wp2_with fail
                    go_roundw
                    case rel => exact ⟨k + 1, by go_num, by omega, hst3⟩
                    case measure => simp [intOf]; omega

                · go_wp2_with fail
                  refine (len_any _ _ _ _ hst.heap).mono ?_
                  rintro e w2 ⟨rfl, rfl⟩
                  go_wp2_with fail
                  refine (works_any _).mono ?_
                  rintro e w2 ⟨rfl, hb2⟩
                  go_wp2_with fail
                  go_ret
                  exact ⟨rfl, hst.below.trans (hb2.mono hst.below.size)⟩
end Go.Proofs.Ytellkmjbpaaclaa
