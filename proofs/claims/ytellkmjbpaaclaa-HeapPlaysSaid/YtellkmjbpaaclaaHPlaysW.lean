/-
  The law HeapPlays, walked.
-/
import Derived.Test.YtellkmjbpaaclaaHRef2W
import Derived.Test.YtellkmjbpaaclaaMemS
namespace Go.Proofs.Ytellkmjbpaaclaa
open Go Go.RowKit Go.Mem Go.HeapP

/-- The law's own memory: a heap, and the reference's. -/
structure St2 (w0 w : World) (b : Nat) (S : Nat → Prop) (xs : List T) (c : Nat) (R : Nat → Prop) (ys : List T) : Prop where
  heap : HRep w b S xs
  ref : RRep w c R ys
  dis : ∀ j, S j → ¬ R j
  low : ∀ j, S j → w0.heap.size ≤ j
  lowr : ∀ j, R j → w0.heap.size ≤ j
  below : Below w0.heap.size w0 w

section
variable {w0 w w' : World} {b c : Nat} {S S' R R' : Nat → Prop} {xs xs' ys ys' : List T}
theorem St2.turnH (h : St2 w0 w b S xs c R ys) (ht : Turned S S' w w') (hr : HRep w' b S' xs') : St2 w0 w' b S' xs' c R ys := by
  obtain ⟨hb, hl⟩ := ht.below h.below h.low
  refine ⟨hr, h.ref.frame ht.fr (fun j hj hs => h.dis j hs hj), fun j hj hrj => ?_, hl, h.lowr, hb⟩
  rcases ht.new j hj with h1 | h1
  · exact h.dis j h1 hrj
  · have := h.ref.low j hrj; omega
theorem St2.turnR (h : St2 w0 w b S xs c R ys) (ht : Turned R R' w w') (hr : RRep w' c R' ys') : St2 w0 w' b S xs c R' ys' := by
  obtain ⟨hb, hl⟩ := ht.below h.below h.lowr
  refine ⟨h.heap.frame ht.fr h.dis, hr, fun j hj hrj => ?_, h.low, hl, hb⟩
  rcases ht.new j hrj with h1 | h1
  · exact h.dis j hj h1
  · have := h.heap.low j hj; omega
theorem St2.still (h : St2 w0 w b S xs c R ys) (hf : Fr (fun _ => False) w w') : St2 w0 w' b S xs c R ys :=
  ⟨h.heap.frame hf (fun _ _ h => h), h.ref.frame hf (fun _ _ h => h), h.dis, h.low, h.lowr, h.below.trans (hf.toBelow _ (fun _ _ h => h) h.below.size)⟩
end

theorem peek_same {xs ys : List T} {p q k : Int} (h : IsH xs) (hp : xs.Perm ys) (hr : RPeek ys p q k) : peekV xs = .tuple #[.int .i64 p, .int .i64 q, .int .i64 k] := by
  rcases hr with ⟨rfl, rfl, rfl, rfl⟩ | ⟨rfl, hin, hmin⟩
  · rw [hp.eq_nil]; rfl
  · match xs, h, hp with
    | [], _, hp => rw [← hp.nil_eq] at hin; cases hin
    | x :: r, h, hp =>
      have h1 := least_mem h (p, q) (hp.mem_iff.2 hin)
      have h2 := hmin x (hp.mem_iff.1 List.mem_cons_self)
      have e : x = (p, q) := le_antisymm (by simpa [nth] using h1) h2
      rw [e]; rfl
theorem pop_same {xs ys xs' ys' : List T} {p q k : Int} (h : IsH xs) (hp : xs.Perm ys) (hr : RPeek ys p q k) (hx : xs'.Perm xs.tail) (hy : (ys = [] ∧ ys' = []) ∨ (ys ≠ [] ∧ ((p, q) :: ys').Perm ys)) : xs'.Perm ys' := by
  have hs := peek_same h hp hr
  rcases hy with ⟨rfl, rfl⟩ | ⟨hne, hy⟩
  · rw [hp.eq_nil] at hx; exact hx
  · match xs, hp, hs, hx with
    | [], hp, _, _ => exact absurd hp.nil_eq.symm hne
    | x :: r, hp, hs, hx =>
      simp only [peekV, Value.tuple.injEq, Array.mk.injEq, List.cons.injEq, Value.int.injEq, true_and, and_true] at hs
      have e : x = (p, q) := Prod.ext hs.1 hs.2.1
      rw [e] at hp
      exact hx.trans ((List.perm_cons _).1 (hp.trans hy.symm))

set_option maxHeartbeats 4000000 in
set_option maxRecDepth 100000 in
theorem heapPlays_any (a0 : Option Addr) (len0 cap0 : Nat) (z0 : Nat → Nat → Int) (w : World) (h0 : IsRec [.i64, .i64, .u8] w a0 len0 cap0 z0) :
    Calls Try.prog 3 #[.slice a0 len0 cap0] w fun e w' => e = .returned (.bool true) ∧ Below w.heap.size w w' := by
  by_cases hlen : 400 < len0
  · go_enter Try.func3, Try.ntmps3
    go_wp2_with fail
    refine (works_any _).mono ?_
    rintro e w1 ⟨rfl, hb⟩
    go_wp2_with fail
    go_ret
    exact ⟨rfl, hb⟩
  · go_enter Try.func3, Try.ntmps3
    go_wp2_with fail
    refine (new_any _).mono ?_
    rintro e w1 ⟨rfl, hr1, hb1⟩
    go_wp2_with fail
    obtain ⟨w2, hw2⟩ : ∃ w2, w2 = w1.alloc (Obj.cells #[Value.slice none 0 0] 29) := ⟨_, rfl⟩
    rw [← hw2]
    obtain ⟨c, hc⟩ : ∃ c, c = w1.heap.size := ⟨_, rfl⟩
    rw [← hc]
    have hst2 : St2 w w2 w.heap.size (· = w.heap.size) [] c (· = c) [] := by
      have hlt := hr1.low w.heap.size rfl
      have hsz := hb1.size
      have hcell : w2.heap[c]? = some (.cells #[.slice none 0 0] 29 (0, 0)) := by rw [hw2, hc]; exact heap_alloc_new w1 _
      have hf : Fr (fun _ => False) w1 w2 := by rw [hw2]; exact Fr.alloc _ _
      exact ⟨hr1.frame hf (fun _ _ h => h), ⟨rfl, fun j hj => by rw [hj]; exact lt_of hcell, _, hcell, World.ownsRow_nil _ _ _ _, by simp [Value.ownBlock], by simp [Value.ownBlock]⟩,
        fun j hj hj2 => by omega, fun j hj => by omega, fun j hj => by omega, hb1.trans (hf.toBelow _ (fun _ _ h => h) hsz)⟩
    clear hw2 hr1 hb1
    have HC := Lib.hid hc
    clear hc
    go_loopw [5] (fun v wr => ∃ (i : Nat) (S R : Nat → Prop) (xs ys : List T), v = .int .i64 i ∧ i ≤ len0 ∧ St2 w wr w.heap.size S xs c R ys ∧ xs.Perm ys ∧ xs.length ≤ i) (fun v wr => len0 - (intOf v).toNat)
    case atStart => exact ⟨0, _, _, [], [], rfl, Nat.zero_le _, hst2, List.Perm.refl _, Nat.le_refl _⟩
    case round =>
      clear hst2
      obtain ⟨i, S, R, xs, ys, rfl, hi, hst, hp, hxl⟩ := hrel
      have HP := Lib.hid hp
      clear hp
      by_cases hlt : i < len0
      · obtain ⟨b0, off0, rfl, hbl0, hc0⟩ := h0.get (by decide) i hlt
        have c0 := hc0 i hlt 0 .i64 rfl
        have c1 := hc0 i hlt 1 .i64 rfl
        have c2 := hc0 i hlt 2 .u8 rfl
        have hwf := bounds_u8 (h0.wf i hlt 2 .u8 rfl)
        obtain ⟨x, hx⟩ : ∃ x, x = z0 i 0 := ⟨_, rfl⟩
        obtain ⟨t, ht⟩ : ∃ t, t = z0 i 1 := ⟨_, rfl⟩
        obtain ⟨y, hy⟩ : ∃ y, y = z0 i 2 := ⟨_, rfl⟩
        rw [← hx] at c0
        rw [← ht] at c1
        rw [← hy] at c2 hwf
        simp only [List.length_cons, List.length_nil, Nat.zero_add, Nat.reduceAdd] at c0 c1 c2
        obtain ⟨hy0, hy1⟩ := hwf
        have d0 : ∀ W, Below w.heap.size w W → W.cell? ⟨b0, off0 + i * 3, none⟩ = some (.int .i64 x) := fun W hW => (hW.cell (p := ⟨b0, off0 + i * 3, none⟩) hbl0).trans c0
        have d1 : ∀ W, Below w.heap.size w W → W.cell? ⟨b0, off0 + i * 3 + 1, none⟩ = some (.int .i64 t) := fun W hW => (hW.cell (p := ⟨b0, off0 + i * 3 + 1, none⟩) hbl0).trans c1
        have d2 : ∀ W, Below w.heap.size w W → W.cell? ⟨b0, off0 + i * 3 + 2, none⟩ = some (.int .u8 y) := fun W hW => (hW.cell (p := ⟨b0, off0 + i * 3 + 2, none⟩) hbl0).trans c2
        have D0 := Lib.hid d0
        have D1 := Lib.hid d1
        have D2 := Lib.hid d2
        clear c0 c1 c2 d0 d1 d2 hc0 hx ht hy
        have c2 := D2.out _ hst.below
        go_upto_if 39 with fail
        go_cut [] (fun wx => ∃ (S R : Nat → Prop) (xs ys : List T), St2 w wx w.heap.size S xs c R ys ∧ Hid (xs.Perm ys) ∧ xs.length ≤ i + 1)
        case first =>
          by_cases hz : y = 0
          · subst hz
            have c0 := D0.out _ hst.below
            have c1 := D1.out _ hst.below
            go_wp2_with fail
            refine Mix.region [0, 0, 0, 0, 0, 0, 0, 0, 0, 0, 0, 2, 0] (fun _ => True) (by kernel_rfl) (by kernel_rfl) trivial ?_
            simp only [List.zip_cons_cons, List.zip_nil_right]
            iterate 11 (refine Mix.step0 fun K hK => ?_; go_simp; (try (go_bits; try go_simp)); first | ((with_reducible refine hK _ _ ?_); clear hK K) | ((try (simp only [IntWalk.iteOmega]; try go_simp)); (try go_bits); (with_reducible refine hK _ _ ?_); clear hK K))
            refine Mix.step2n (by first | rfl | simp [Region.wanted, yielded]) fun K hK => ?_
            go_wp2_with fail
            refine (push_any _ _ _ _ _ _ (hst.still (Fr.drew _)).heap (by omega)).mono ?_
            rintro e w3 ⟨rfl, S3, xs3, hr3, hp3, ht3⟩
            have hst3 := (hst.still (Fr.drew _)).turnH ht3 hr3
            have HP3 := Lib.hid hp3
            clear hp3
            go_wp2_with fail
            refine Mix.post_mk (C := (fun _ => True)) trivial (hK _ _ ?_)
            clear hK K
            iterate 1 (refine Mix.step0 fun K hK => ?_; go_simp; (try (go_bits; try go_simp)); first | ((with_reducible refine hK _ _ ?_); clear hK K) | ((try (simp only [IntWalk.iteOmega]; try go_simp)); (try go_bits); (with_reducible refine hK _ _ ?_); clear hK K))
            refine Mix.done ?_
            clear c0 c1 c2
            have c0 := D0.out _ hst3.below
            have c1 := D1.out _ hst3.below
            go_wp2_with fail
            refine Mix.region [0, 0, 0, 0, 0, 0, 0, 0, 0, 0, 0, 2] (fun _ => True) (by kernel_rfl) (by kernel_rfl) trivial ?_
            simp only [List.zip_cons_cons, List.zip_nil_right]
            iterate 11 (refine Mix.step0 fun K hK => ?_; go_simp; (try (go_bits; try go_simp)); first | ((with_reducible refine hK _ _ ?_); clear hK K) | ((try (simp only [IntWalk.iteOmega]; try go_simp)); (try go_bits); (with_reducible refine hK _ _ ?_); clear hK K))
            refine Mix.step2n (by first | rfl | simp [Region.wanted, yielded]) fun K hK => ?_
            go_wp2_with fail
            refine (rpush_any _ _ _ _ _ _ (hst3.still (Fr.drew _)).ref (by have := HP.out.length_eq; omega)).mono ?_
            rintro e w4 ⟨rfl, R4, hr4, ht4⟩
            have hst4 := (hst3.still (Fr.drew _)).turnR ht4 hr4
            go_wp2_with fail
            refine Mix.post_mk (C := (fun _ => True)) trivial (hK _ _ ?_)
            clear hK K
            refine Mix.done ?_
            go_wp2_with fail
            go_meet
            case rel => exact ⟨S3, R4, xs3, ys ++ [(x, t)], hst4, HP3.out.trans ((HP.out.cons _).trans (List.perm_append_singleton _ _).symm), by rw [HP3.out.length_eq]; simpa using hxl⟩
          · have hz' : (y == 0) = false := by rw [beq_eq_false_iff_ne]; exact hz
            clear hz
            go_wp2_with fail
            go_meet
            case rel => exact ⟨S, R, xs, ys, hst, HP, by omega⟩
        case rest =>
          clear hst HP hxl c2
          obtain ⟨S, R, xs, ys, hst, HP, hxl⟩ := hcut
          go_wp2_with fail
          go_loopw [6] (fun v wx => ∃ (k : Nat) (S R : Nat → Prop) (xs ys : List T), v = .int .i64 k ∧ k ≤ 5 ∧ St2 w wx w.heap.size S xs c R ys ∧ Hid (xs.Perm ys) ∧ xs.length ≤ i + 1) (fun v wx => 5 - (intOf v).toNat)
          case atStart => exact ⟨0, S, R, xs, ys, rfl, by omega, hst, HP, hxl⟩
          case round =>
            clear hst HP hxl
            obtain ⟨k, S, R, xs, ys, rfl, hk, hst, HP, hxl⟩ := hrel
            have c2 := D2.out _ hst.below
            by_cases hky : (k : Int) < y % 5
            · go_wp2_with fail
              refine (pop_any _ _ _ _ hst.heap (by omega)).mono ?_
              rintro e w3 ⟨rfl, xs3, hr3, hp3, hf3⟩
              have hst3 := hst.turnH (Turned.of hf3) hr3
              obtain ⟨pa, pb, pe, hpv⟩ : ∃ pa pb pe : Int, peekV xs = .tuple #[.int .i64 pa, .int .i64 pb, .int .i64 pe] := by
                match xs with
                | [] => exact ⟨_, _, _, rfl⟩
                | y :: q => exact ⟨_, _, _, rfl⟩
              rw [hpv]
              have HPV := Lib.hid hpv
              have HP3 := Lib.hid hp3
              clear hpv hp3 c2
              go_wp2_with fail
              refine (rpop_any _ _ _ _ hst3.ref (by have := HP.out.length_eq; omega)).mono ?_
              rintro e w4 ⟨hf4, p, q, kk, ys4, rfl, hpk, hr4, hy4⟩
              have hst4 := hst3.turnR (Turned.of hf4) hr4
              have hsame := peek_same hst.heap.isH HP.out hpk
              rw [HPV.out] at hsame
              simp only [Value.tuple.injEq, Array.mk.injEq, List.cons.injEq, Value.int.injEq, true_and, and_true] at hsame
              obtain ⟨h1, h2, h3⟩ := hsame
              subst h1; subst h2; subst h3
              have hpp := pop_same hst.heap.isH HP.out hpk HP3.out hy4
              have hxl4 : xs3.length ≤ i + 1 := by rw [HP3.out.length_eq]; simp; omega
              have HPP := Lib.hid hpp
              have HXL := Lib.hid hxl4
              clear hpp hpk hy4 hxl4
              go_wp2_with fail
              go_roundw
              case rel => exact ⟨k + 1, S, R, xs3, ys4, by go_num, by omega, hst4, HPP, HXL.out⟩
              case measure => simp [intOf]; omega
            · have HKY := Lib.hid hky
              go_wp2_with fail
              clear c2
              refine (peek_any _ _ _ _ hst.heap (by omega)).mono ?_
              rintro e w3 ⟨rfl, m, hm⟩
              have hst3 : St2 w w3 w.heap.size S xs c R ys := by rw [hm]; exact hst.still (Fr.drewN _ _)
              clear hm
              obtain ⟨pa, pb, pe, hpv⟩ : ∃ pa pb pe : Int, peekV xs = .tuple #[.int .i64 pa, .int .i64 pb, .int .i64 pe] := by
                match xs with
                | [] => exact ⟨_, _, _, rfl⟩
                | y :: q => exact ⟨_, _, _, rfl⟩
              rw [hpv]
              have HPV := Lib.hid hpv
              clear hpv
              go_wp2_with fail
              refine (rpeek_any _ _ _ _ hst3.ref (by have := HP.out.length_eq; omega)).mono ?_
              rintro e w4 ⟨hf4, p, q, kk, rfl, hpk⟩
              have hst4 := hst3.still hf4
              have hsame := peek_same hst.heap.isH HP.out hpk
              rw [HPV.out] at hsame
              simp only [Value.tuple.injEq, Array.mk.injEq, List.cons.injEq, Value.int.injEq, true_and, and_true] at hsame
              obtain ⟨h1, h2, h3⟩ := hsame
              subst h1; subst h2; subst h3
              clear hpk
              obtain ⟨v, hv, hrow, _, _⟩ := hst4.ref.mem
              obtain ⟨av, cv, hve⟩ := hrow.shape
              subst hve
              have hcl : c < w4.heap.size := lt_of hv
              have hyl : ys.length = xs.length := HP.out.length_eq.symm
              rw [hyl] at hv
              have hcc : w4.cell? ⟨c, 0, none⟩ = some (.slice av xs.length cv) := cell_of hv 0
              clear hyl hv hrow
              go_wp2_with fail
              have hCW : (fun W : World => W.cell? ⟨c, 0, none⟩ = some (.slice av xs.length cv)) w4.drew := hcc
              refine Mix.region [0, 0, 0, 0, 0, 0, 0, 0, 0, 0, 0, 0, 0, 0, 0, 2, 1, 1, 1, 1, 1, 0, 0] (fun W : World => W.cell? ⟨c, 0, none⟩ = some (.slice av xs.length cv)) (by kernel_rfl) (by kernel_rfl) hCW ?_
              simp only [List.zip_cons_cons, List.zip_nil_right]
              iterate 4 (refine Mix.step0 fun K hK => ?_; go_simp; (try (go_bits; try go_simp)); first | ((with_reducible refine hK _ _ ?_); clear hK K) | ((try (simp only [IntWalk.iteOmega]; try go_simp)); (try go_bits); (with_reducible refine hK _ _ ?_); clear hK K))
              iterate 3 (first | (refine Mix.stepS rfl fun K hK => ?_; go_simp; (with_reducible refine hK _ _ ?_); clear hK K) | (refine Mix.step0 fun K hK => ?_; go_simp; (try (go_bits; try go_simp)); first | ((with_reducible refine hK _ _ ?_); clear hK K) | ((try (simp only [IntWalk.iteOmega]; try go_simp)); (try go_bits); (with_reducible refine hK _ _ ?_); clear hK K)))
              iterate 2 (refine Mix.step0 fun K hK => ?_; go_simp; (try (go_bits; try go_simp)); first | ((with_reducible refine hK _ _ ?_); clear hK K) | ((try (simp only [IntWalk.iteOmega]; try go_simp)); (try go_bits); (with_reducible refine hK _ _ ?_); clear hK K))
              iterate 3 (first | (refine Mix.stepS rfl fun K hK => ?_; go_simp; (with_reducible refine hK _ _ ?_); clear hK K) | (refine Mix.step0 fun K hK => ?_; go_simp; (try (go_bits; try go_simp)); first | ((with_reducible refine hK _ _ ?_); clear hK K) | ((try (simp only [IntWalk.iteOmega]; try go_simp)); (try go_bits); (with_reducible refine hK _ _ ?_); clear hK K)))
              iterate 2 (refine Mix.step0 fun K hK => ?_; go_simp; (try (go_bits; try go_simp)); first | ((with_reducible refine hK _ _ ?_); clear hK K) | ((try (simp only [IntWalk.iteOmega]; try go_simp)); (try go_bits); (with_reducible refine hK _ _ ?_); clear hK K))
              iterate 1 (first | (refine Mix.stepS rfl fun K hK => ?_; go_simp; (with_reducible refine hK _ _ ?_); clear hK K) | (refine Mix.step0 fun K hK => ?_; go_simp; (try (go_bits; try go_simp)); first | ((with_reducible refine hK _ _ ?_); clear hK K) | ((try (simp only [IntWalk.iteOmega]; try go_simp)); (try go_bits); (with_reducible refine hK _ _ ?_); clear hK K)))
              refine Mix.step2n (by first | rfl | simp [Region.wanted, yielded]) fun K hK => ?_
              go_wp2_with fail
              refine (len_any _ _ _ _ (hst4.still (Fr.drew _)).heap).mono ?_
              rintro e w5 ⟨rfl, rfl⟩
              go_wp2_with fail
              refine Mix.post_mk (C := (fun W : World => W.cell? ⟨c, 0, none⟩ = some (.slice av xs.length cv))) (by first | exact hCW | exact HCW.out _) (hK _ _ ?_)
              clear hK K
              (refine Mix.step1 fun K hK => ?_; go_simp; (try (go_bits; try go_simp)); first | ((with_reducible refine hK _ _ ?_); clear hK K) | ((try (simp only [IntWalk.iteOmega]; try go_simp)); (try go_bits); (with_reducible refine hK _ _ ?_); clear hK K))
              (refine Mix.step1 fun K hK => ?_; go_simp; (try (go_bits; try go_simp)); first | ((with_reducible refine hK _ _ ?_); clear hK K) | ((try (simp only [IntWalk.iteOmega]; try go_simp)); (try go_bits); (with_reducible refine hK _ _ ?_); clear hK K))
              (refine Mix.step1 fun K hK => ?_; go_simp; (try (go_bits; try go_simp)); first | ((with_reducible refine hK _ _ ?_); clear hK K) | ((try (simp only [IntWalk.iteOmega]; try go_simp)); (try go_bits); (with_reducible refine hK _ _ ?_); clear hK K))
              (refine Mix.step1 fun K hK => ?_; go_simp; refine ⟨fun W => ?_, hK _ _ ?_⟩; (intro hW1; (try intro hW2); (try intro hW3); (try intro hW4); go_simp); clear hK K)
              (refine Mix.step1 fun K hK => ?_; go_simp; (try (go_bits; try go_simp)); first | ((with_reducible refine hK _ _ ?_); clear hK K) | ((try (simp only [IntWalk.iteOmega]; try go_simp)); (try go_bits); (with_reducible refine hK _ _ ?_); clear hK K))
              iterate 1 (first | (refine Mix.stepS rfl fun K hK => ?_; go_simp; (with_reducible refine hK _ _ ?_); clear hK K) | (refine Mix.step0 fun K hK => ?_; go_simp; (try (go_bits; try go_simp)); first | ((with_reducible refine hK _ _ ?_); clear hK K) | ((try (simp only [IntWalk.iteOmega]; try go_simp)); (try go_bits); (with_reducible refine hK _ _ ?_); clear hK K)))
              iterate 1 (refine Mix.step0 fun K hK => ?_; go_simp; (try (go_bits; try go_simp)); first | ((with_reducible refine hK _ _ ?_); clear hK K) | ((try (simp only [IntWalk.iteOmega]; try go_simp)); (try go_bits); (with_reducible refine hK _ _ ?_); clear hK K))
              refine Mix.done ?_
              go_wp2_with fail
              go_roundw
              case rel => exact ⟨i + 1, S, R, xs, ys, by go_num, by omega, hst4.still (Fr.drew _), HP.out, hxl⟩
              case measure => simp [intOf]; omega
      · go_wp2_with fail
        refine (works_any _).mono ?_
        rintro e w3 ⟨rfl, hb⟩
        go_wp2_with fail
        go_ret
        exact ⟨rfl, hst.below.trans (hb.mono hst.below.size)⟩
end Go.Proofs.Ytellkmjbpaaclaa
