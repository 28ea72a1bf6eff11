/-
  The law HeapOrder, walked.
-/
import Derived.Test.YtellkmjbpaaclaaHOrderQ
import Derived.Test.YtellkmjbpaaclaaLoop
namespace Go.Proofs.Ytellkmjbpaaclaa
open Go Go.RowKit Go.Mem Go.HeapP

theorem perm_len {xs ys : List T} {n : Nat} (h : xs.Perm ys) (hy : ys.length = n) : xs.length = n := h.length_eq.trans hy
theorem nth_map_fst (xs : List T) (i : Nat) (hi : i < xs.length) : (xs.map (·.1)).getD i 0 = (nth xs i).1 := by simp [nth, hi]
theorem nth_map_snd (xs : List T) (i : Nat) (hi : i < xs.length) : (xs.map (·.2)).getD i 0 = (nth xs i).2 := by simp [nth, hi]
theorem drop_perm (xs : List T) (i : Nat) (hi : i < xs.length) : (nth xs i :: xs.drop (i + 1)) = xs.drop i := by
  rw [List.drop_eq_getElem_cons hi]; simp [nth, hi]
theorem take_perm (xs : List T) (i : Nat) (hi : i < xs.length) : (nth xs i :: xs.take i).Perm (xs.take (i + 1)) := by
  rw [List.take_succ_eq_append_getElem hi]
  have : nth xs i = xs[i] := by simp [nth, hi]
  rw [this]
  exact (List.perm_append_singleton _ _).symm

set_option maxHeartbeats 4000000 in
set_option maxRecDepth 100000 in
theorem heapOrder_any (a0 : Option Addr) (len0 cap0 : Nat) (z0 : List Int) (a1 : Option Addr) (len1 cap1 : Nat) (z1 : List Int) (a2 : Int) (w : World) (h0 : IsRow .i64 w a0 len0 cap0 z0) (h1 : IsRow .u8 w a1 len1 cap1 z1) (h2 : (Lit.int .u8 a2).wf = true) :
    Calls Try.prog 7 #[.slice a0 len0 cap0, .slice a1 len1 cap1, .int .u8 a2] w fun e w' => e = .returned (.bool true) ∧ Below w.heap.size w w' := by
  by_cases hlen : 80 < len0
  · go_enter Try.func7, Try.ntmps7
    go_wp2_with fail
    refine (works_any _).mono ?_
    rintro e w1 ⟨rfl, hb⟩
    go_wp2_with fail
    go_ret
    exact ⟨rfl, hb⟩
  · by_cases hl1 : len1 = 0
    · subst hl1
      go_enter Try.func7, Try.ntmps7
      go_wp2_with fail
      refine (works_any _).mono ?_
      rintro e w1 ⟨rfl, hb⟩
      go_wp2_with fail
      go_ret
      exact ⟨rfl, hb⟩
    · have hl1' : ((len1 : Int) == 0) = false := by rw [beq_eq_false_iff_ne]; omega
      have hl0' : decide (80 < (len0 : Int)) = false := by simp; omega
      have hl1p : 0 < len1 := by omega
      clear hl1
      have hm1 : len1 ≤ 9223372036854775807 := by
        rcases h1 with ⟨_, h, _⟩ | ⟨_, _, h, h', _⟩
        · omega
        · unfold maxLen at h'; omega
      obtain ⟨hd1, hd2⟩ := bounds_u8 h2
      obtain ⟨d, rfl⟩ : ∃ d : Nat, a2 = d := ⟨a2.toNat, by omega⟩
      have hd3 : d ≤ 255 := by omega
      clear hd1 hd2 h2
      obtain ⟨i0, hi0, hz0, hz1, hz2⟩ := info_parts Try.infoI64
      obtain ⟨jI, hjI, hyI0, hyI1, hyI2⟩ := info_parts Try.infoInt
      go_enter Try.func7, Try.ntmps7
      go_wp2_with fail
      refine (new_sep (Sep.start _)).mono ?_
      rintro e w1 ⟨rfl, hs1⟩
      generalize w.heap.size = ba at *
      go_wp2_with fail
      refine (new_sep hs1).mono ?_
      rintro e w2 ⟨rfl, hs2⟩
      generalize w1.heap.size = bb at *
      clear hs1
      go_wp2_with fail
      refine wp_loopM [none, none, none, none, none, none, some 6, none, none, none, some 10, some 11, some 12, none, none, none, none, none, none, none, none, none, none, none, none, none, none, none, none, none, none, none, none, none, none, none, none, none, none, none, none, none, none, none, none, none, none, none, none, some 49, some 50, some 51, some 52, some 53, some 54, some 55, some 56, some 57, some 58, some 59, some 60, some 61, some 62, some 63, some 64, some 65, some 66, some 67, some 68, some 69, some 70, some 71, some 72, some 73, some 74, some 75, some 76, some 77, some 78, some 79, some 80, some 81, some 82, some 83, some 84, some 85, some 86, some 87, some 88, some 89, some 90, some 91, some 92, some 93, some 94, some 95, none, none, none, none, none, none, none, none, none, none, none, none, none, none, none, none, none, none, none, none, none, none, none, none, none, none, none, none, none, none, none, none, none, none, none, none, none, none, none, none, none, none, none, none, none, none, none, none, none, none, none, none, none, none, none, none, none, none, none, none, none, none, none, none, none, none, none, none, none, none, none, none, none, none, none, none, none, none, none, none, none, none, none, none, none, none, none, none, none, none, none, none, none, none, none, none, none, none, none, none, none, none, none, none, none, none, none, none, none, none, none, none, none, none, none, none, none, none, none, none, none, none, none, none, none, none, none, none, none, none, none, none, none, none, none, none, none, none, none, none, none, none, none, none, none, none, none, none, none, none] (fun (n : Nat) (f : Nat → Value) (wr : World) => (fun (v : Value) => ∃ (i : Nat) (xs ys : List T), v = .int .i64 i ∧ i ≤ len0 ∧ n = len0 - i ∧ Sep w wr [heapT bb ys, heapT ba xs] ∧ xs.Perm (things z0 z1 len1 i) ∧ ys.Perm (thingsR z0 z1 len1 len0 d i)) (f 10)) (len0) (by kernel_rfl) ?atStart ?round
      case' atStart => simp only [nthV]
      case' round =>
        intro gk f wr l hl hrel J1 K1 hJ1 hK1
        (try simp only [mask] at hl)
        generalize f 10 = u10 at hl hrel
        subst hl
        (try dsimp only at hrel)
      case atStart => exact ⟨0, [], [], rfl, Nat.zero_le _, rfl, hs2, List.Perm.refl _, List.Perm.refl _⟩
      case round =>
        clear hs2
        obtain ⟨i, xs, ys, rfl, hi, rfl, hs, hx, hy⟩ := hrel
        have HX := Lib.hid hx
        have HY := Lib.hid hy
        clear hx hy
        by_cases hlt : i < len0
        ·
          obtain ⟨b0, off0, rfl, hbl0, hc0⟩ := h0.get i hlt
          have him : i % len1 < len1 := Nat.mod_lt _ hl1p
          obtain ⟨b1, off1, rfl, hbl1, hc1⟩ := h1.get (i % len1) him
          have hj : rot len0 d i < len0 := rot_lt _ _ _ (by omega)
          have hjo : ((len0 : Int) - 1 - ((i : Int) + d) % (len0 : Int)) = (rot len0 d i : Nat) := by
            have := Nat.mod_lt (i + d) (show 0 < len0 by omega)
            have e : (((i + d) % len0 : Nat) : Int) = ((i : Int) + d) % (len0 : Int) := by simp
            rw [← e]
            unfold rot; omega
          have hm0 : 0 ≤ ((i : Int) + d) % (len0 : Int) := Int.emod_nonneg _ (by omega)
          have hm1 : ((i : Int) + d) % (len0 : Int) < len0 := Int.emod_lt_of_pos _ (by omega)
          have HTR := Lib.hid (show thing z0 z1 len1 (rot len0 d i) = (z0.getD (rot len0 d i) 0, z1.getD (rot len0 d i % len1) 0) from rfl)
          obtain ⟨j, hje⟩ : ∃ j, j = rot len0 d i := ⟨_, rfl⟩
          rw [← hje] at hj hjo
          have HJE := Lib.hid hje
          rw [← hje] at HTR
          clear hje
          have HJO := Lib.hid hjo
          clear hjo
          have hjm : j % len1 < len1 := Nat.mod_lt _ hl1p
          have HTH := Lib.hid (show thing z0 z1 len1 i = (z0.getD i 0, z1.getD (i % len1) 0) from rfl)
          obtain ⟨x, hx⟩ : ∃ x, x = z0.getD i 0 := ⟨_, rfl⟩
          obtain ⟨y, hy⟩ : ∃ y, y = z1.getD (i % len1) 0 := ⟨_, rfl⟩
          obtain ⟨p, hp⟩ : ∃ x, x = z0.getD j 0 := ⟨_, rfl⟩
          obtain ⟨q, hq⟩ : ∃ y, y = z1.getD (j % len1) 0 := ⟨_, rfl⟩
          rw [← hx, ← hy] at HTH
          rw [← hp, ← hq] at HTR
          have hy0 : 0 ≤ y ∧ y ≤ 255 := by rw [hy]; exact bounds_u8 (h1.wf (i % len1) him)
          have hq0 : 0 ≤ q ∧ q ≤ 255 := by rw [hq]; exact bounds_u8 (h1.wf (j % len1) hjm)
          obtain ⟨hy1, hy2⟩ := hy0
          obtain ⟨hq1, hq2⟩ := hq0
          have c0 : wr.cell? ⟨b0, off0 + i, none⟩ = some (.int .i64 x) := by rw [hx]; exact (hs.cell hbl0).trans (hc0 i hlt)
          have c1 : wr.cell? ⟨b1, off1 + i % len1, none⟩ = some (.int .u8 y) := by rw [hy]; exact (hs.cell hbl1).trans (hc1 (i % len1) him)
          have hxl : xs.length ≤ 80 := by rw [HX.out.length_eq, things_length]; omega
          have hyl : ys.length ≤ 80 := by rw [HY.out.length_eq, thingsR_length]; omega
          have C0 := Lib.hid hc0
          have C1 := Lib.hid hc1
          have HXX := Lib.hid hp
          have HQQ := Lib.hid hq
          clear hc0 hc1 hx hy hp hq
          go_wp2_with fail
          rw [HJO.out]
          refine Mix.region [0, 0, 0, 0, 0, 0, 0, 0, 0, 0, 0, 0, 0, 2, 0, 0, 0, 0, 0, 0, 0, 0, 0, 0, 0, 0, 0, 0, 0, 2, 0, 0] (fun _ => True) (by kernel_rfl) (by kernel_rfl) trivial ?_
          simp only [List.zip_cons_cons, List.zip_nil_right]
          iterate 13 (refine Mix.step0 fun K hK => ?_; go_simp; (try (go_bits; try go_simp)); first | ((with_reducible refine hK _ _ ?_); clear hK K) | ((try (simp only [IntWalk.iteOmega]; try go_simp)); (try go_bits); (with_reducible refine hK _ _ ?_); clear hK K))
          refine Mix.step2n (by first | rfl | simp [Region.wanted, yielded]) fun K hK => ?_
          go_wp2_with fail
          refine (push_sep (hs.drew) 1 rfl _ _ (by omega)).mono ?_
          rintro e w2 ⟨rfl, xs', hx', hs'⟩
          have HX' := Lib.hid hx'
          clear hx' c0 c1
          have c0 : w2.cell? ⟨b0, off0 + j, none⟩ = some (.int .i64 p) := by rw [HXX.out]; exact (hs'.cell hbl0).trans (C0.out j hj)
          have c1 : w2.cell? ⟨b1, off1 + j % len1, none⟩ = some (.int .u8 q) := by rw [HQQ.out]; exact (hs'.cell hbl1).trans (C1.out (j % len1) hjm)
          go_wp2_with fail
          refine Mix.post_mk (C := (fun _ => True)) trivial (hK _ _ ?_)
          clear hK K
          iterate 2 (refine Mix.step0 fun K hK => ?_; go_simp; (try (go_bits; try go_simp)); first | ((with_reducible refine hK _ _ ?_); clear hK K) | ((try (simp only [IntWalk.iteOmega]; try go_simp)); (try go_bits); (with_reducible refine hK _ _ ?_); clear hK K))
          iterate 13 (first | (refine Mix.stepS rfl fun K hK => ?_; go_simp; (with_reducible refine hK _ _ ?_); clear hK K) | (refine Mix.step0 fun K hK => ?_; go_simp; (try (go_bits; try go_simp)); first | ((with_reducible refine hK _ _ ?_); clear hK K) | ((try (simp only [IntWalk.iteOmega]; try go_simp)); (try go_bits); (with_reducible refine hK _ _ ?_); clear hK K)))
          refine Mix.step2n (by first | rfl | simp [Region.wanted, yielded]) fun K hK => ?_
          go_wp2_with fail
          refine (push_sep hs' 0 rfl _ _ (by omega)).mono ?_
          rintro e w3 ⟨rfl, ys', hy', hs3⟩
          have HY' := Lib.hid hy'
          clear hy' c0 c1
          go_wp2_with fail
          refine Mix.post_mk (C := (fun _ => True)) trivial (hK _ _ ?_)
          clear hK K
          iterate 1 (first | (refine Mix.stepS rfl fun K hK => ?_; go_simp; (with_reducible refine hK _ _ ?_); clear hK K) | (refine Mix.step0 fun K hK => ?_; go_simp; (try (go_bits; try go_simp)); first | ((with_reducible refine hK _ _ ?_); clear hK K) | ((try (simp only [IntWalk.iteOmega]; try go_simp)); (try go_bits); (with_reducible refine hK _ _ ?_); clear hK K)))
          iterate 1 (refine Mix.step0 fun K hK => ?_; go_simp; (try (go_bits; try go_simp)); first | ((with_reducible refine hK _ _ ?_); clear hK K) | ((try (simp only [IntWalk.iteOmega]; try go_simp)); (try go_bits); (with_reducible refine hK _ _ ?_); clear hK K))
          refine Mix.done ?_
          go_wp2_with fail
          refine Round.intro (len0 - (i + 1)) ?measure (by kernel_rfl) (hJ1 _ _ _ ?rel)
          case' rel => simp only [nthV]
          case rel => exact ⟨i + 1, xs', ys', by go_num, by omega, rfl, hs3, by rw [things_succ, HTH.out]; exact HX'.out.trans ((HX.out.cons _).trans (List.perm_append_singleton _ _).symm), by rw [thingsR_succ, ← HJE.out, HTR.out]; exact HY'.out.trans ((HY.out.cons _).trans (List.perm_append_singleton _ _).symm)⟩
          case measure => omega
        · obtain rfl : i = len0 := by omega
          have hxy : xs.Perm ys := HX.out.trans (HY.out.trans (thingsR_perm z0 z1 len1 i d)).symm
          have hal : xs.length = i := perm_len HX.out (things_length z0 z1 len1 i)
          have HXY := Lib.hid hxy
          have HAL := Lib.hid hal
          clear hxy hal HX HY h0 h1 hlt hl0' hl1' hm1 hl1p hi
          have hi80 : i ≤ 80 := by omega
          go_wp2_with fail
          refine wp_loopM [none, none, none, none, none, none, some 6, none, none, none, none, none, none, some 13, some 14, some 15, some 16, some 17, some 18, some 19, some 20, some 21, some 22, some 23, some 24, some 25, some 26, some 27, some 28, some 29, none, none, none, none, none, none, none, none, none, none, none, none, none, none, none, none, none, none, none, none, none, none, none, none, none, none, none, none, none, none, none, none, none, none, none, none, none, none, none, none, none, none, none, none, none, none, none, none, none, none, none, none, none, none, none, none, none, none, none, none, none, none, none, none, none, none, some 96, some 97, some 98, some 99, some 100, some 101, some 102, some 103, some 104, some 105, some 106, some 107, some 108, some 109, some 110, some 111, some 112, some 113, some 114, some 115, some 116, some 117, some 118, some 119, some 120, some 121, some 122, some 123, some 124, some 125, some 126, some 127, some 128, some 129, some 130, some 131, some 132, some 133, some 134, some 135, some 136, some 137, some 138, some 139, some 140, some 141, some 142, some 143, some 144, some 145, some 146, some 147, some 148, some 149, some 150, some 151, some 152, some 153, some 154, some 155, some 156, some 157, some 158, some 159, some 160, some 161, some 162, some 163, some 164, some 165, some 166, some 167, some 168, some 169, some 170, some 171, some 172, some 173, some 174, some 175, some 176, some 177, some 178, some 179, some 180, some 181, some 182, some 183, some 184, some 185, some 186, some 187, some 188, some 189, some 190, some 191, some 192, some 193, some 194, some 195, some 196, some 197, some 198, some 199, some 200, some 201, some 202, some 203, some 204, some 205, some 206, some 207, some 208, some 209, some 210, some 211, some 212, some 213, some 214, some 215, some 216, some 217, some 218, some 219, some 220, some 221, some 222, some 223, some 224, some 225, some 226, some 227, some 228, some 229, some 230, some 231, some 232, some 233, some 234, some 235, some 236, some 237, some 238, none, none, none, none, none, none, none] (fun (n : Nat) (f : Nat → Value) (wr : World) => (fun (v : Value) => ∃ (r : Nat) (xs ys : List T), v = .int .i64 r ∧ r ≤ 2 ∧ n = 2 - r ∧ Sep w wr [heapT bb ys, heapT ba xs] ∧ xs.Perm ys ∧ xs.length = i) (f 13)) (2) (by kernel_rfl) ?atStart ?round
          case' atStart => simp only [nthV]
          case' round =>
            intro gk f wr l hl hrel J2 K2 hJ2 hK2
            (try simp only [mask] at hl)
            generalize f 13 = u13 at hl hrel
            subst hl
            (try dsimp only at hrel)
          case atStart => exact ⟨0, xs, ys, rfl, by omega, rfl, hs, HXY.out, HAL.out⟩
          case round =>
            clear hs HXY HAL xs ys
            obtain ⟨r, xs, ys, rfl, hr, rfl, hs, hxy, hal⟩ := hrel
            have HXY := Lib.hid hxy
            have HAL := Lib.hid hal
            clear hxy hal
            by_cases hr2 : r < 2
            · go_wp2_with fail
              have hs4 := (hs.nilInts .i64 2).nilInts .i64 3
              refine wp_loopM [none, none, none, none, none, none, some 6, none, none, none, none, none, none, none, some 14, some 15, some 16, some 17, some 18, some 19, some 20, some 21, some 22, some 23, some 24, some 25, none, none, none, none, none, none, none, none, none, none, none, none, none, none, none, none, none, none, none, none, none, none, none, none, none, none, none, none, none, none, none, none, none, none, none, none, none, none, none, none, none, none, none, none, none, none, none, none, none, none, none, none, none, none, none, none, none, none, none, none, none, none, none, none, none, none, none, none, none, none, none, none, none, none, some 100, some 101, some 102, some 103, some 104, some 105, some 106, some 107, some 108, some 109, some 110, some 111, some 112, some 113, some 114, some 115, some 116, some 117, some 118, some 119, some 120, some 121, some 122, some 123, some 124, some 125, some 126, some 127, some 128, some 129, some 130, some 131, some 132, some 133, some 134, some 135, some 136, some 137, some 138, some 139, some 140, some 141, some 142, some 143, some 144, some 145, some 146, some 147, some 148, some 149, some 150, some 151, some 152, some 153, some 154, some 155, some 156, some 157, some 158, some 159, some 160, some 161, some 162, some 163, some 164, some 165, some 166, some 167, some 168, some 169, some 170, some 171, some 172, some 173, some 174, some 175, some 176, some 177, some 178, some 179, some 180, some 181, some 182, some 183, some 184, some 185, some 186, some 187, some 188, some 189, some 190, some 191, some 192, some 193, some 194, some 195, some 196, some 197, some 198, none, none, none, none, none, none, none, none, none, none, none, none, none, none, none, none, none, none, none, none, none, none, none, none, none, none, none, none, none, none, none, none, none, none, none, none, none, none, none, none, none, none, none, none, none, none, none] (fun (n : Nat) (f : Nat → Value) (wr : World) => (fun (v vw vt : Value) => ∃ (j : Nat) (xs ys outs : List T), v = .int .i64 j ∧ j ≤ i ∧ n = i - j ∧ Sep w wr [intsT .i64 3 vt (outs.map (·.2)), intsT .i64 2 vw (outs.map (·.1)), heapT bb ys, heapT ba xs] ∧ xs.Perm ys ∧ xs.length = i - j ∧ outs.length = j ∧ ∀ a ∈ outs, ∀ y ∈ xs, le a y) (f 16) (f 14) (f 15)) (i) (by kernel_rfl) ?atStart ?round
              case' atStart => simp only [nthV]
              case' round =>
                intro gk f wr l hl hrel J3 K3 hJ3 hK3
                (try simp only [mask] at hl)
                generalize f 16 = u16 at hl hrel
                generalize f 14 = u14 at hl hrel
                generalize f 15 = u15 at hl hrel
                subst hl
                (try dsimp only at hrel)
              case atStart => exact ⟨0, xs, ys, [], rfl, Nat.zero_le _, rfl, hs4, HXY.out, HAL.out, rfl, by simp⟩
              case round =>
                clear hs hs4 HXY HAL xs ys
                obtain ⟨j, xs, ys, outs, rfl, hj, rfl, hs, hxy, hal, hol, hle⟩ := hrel
                have HXY := Lib.hid hxy
                have HAL := Lib.hid hal
                have HOL := Lib.hid hol
                have HLE := Lib.hid hle
                clear hxy hal hol hle
                have hxl : xs.length ≤ 80 := by rw [HAL.out]; omega
                have hyl : ys.length ≤ 80 := by rw [← HXY.out.length_eq]; exact hxl
                have hol80 : outs.length ≤ 80 := by rw [HOL.out]; omega
                by_cases hlt : j < i
                ·
                  rcases same_head (sep_isH hs 3 rfl) (sep_isH hs 2 rfl) HXY.out with ⟨hn, _⟩ | ⟨m, rx, ry, hex, hey, hrr⟩
                  · have := HAL.out; rw [hn] at this; simp at this; omega
                  · subst hex; subst hey
                    have HRR := Lib.hid hrr
                    have HISH := Lib.hid (sep_isH hs 3 rfl)
                    clear hrr
                    go_wp2_with fail
                    refine (peek_sep hs 3 rfl (by omega)).mono ?_
                    rintro e w3 ⟨rfl, hs3⟩
                    unfold peekV
                    go_wp2_with fail
                    refine (pop_sep hs3 3 rfl (by omega)).mono ?_
                    rintro e w4 ⟨rfl, xs4, hp4, hs4⟩
                    unfold peekV
                    have HP4 := Lib.hid hp4
                    clear hp4 hs3
                    go_wp2_with fail
                    refine (pop_sep hs4 2 rfl (by omega)).mono ?_
                    rintro e w5 ⟨rfl, ys5, hq5, hs5⟩
                    unfold peekV
                    have HQ5 := Lib.hid hq5
                    have h4l : xs4.length = i - 1 - j := by rw [HP4.out.length_eq]; have := HAL.out; simp at this ⊢; omega
                    have hnl : ((i : Int) - 1 - (j : Int)) = ((i - 1 - j : Nat) : Int) := by omega
                    have H4L := Lib.hid h4l
                    have HNL := Lib.hid hnl
                    clear hq5 hs4 h4l hnl
                    go_wp2_with fail
                    refine (len_sep hs5 3 rfl).mono ?_
                    rintro e w6 ⟨rfl, rfl⟩
                    rw [H4L.out, ← HNL.out]
                    have hwas := hs5.ints 1 rfl
                    have hits := hs5.ints 0 rfl
                    obtain ⟨aw, cw, hvw⟩ := hwas.shape
                    obtain ⟨at', ct, hvt⟩ := hits.shape
                    subst hvw; subst hvt
                    simp only [List.length_map] at hwas hits hs5 ⊢
                    rw [HOL.out] at hwas hits hs5 ⊢
                    by_cases hj0 : 0 < j
                    · obtain ⟨t, rfl⟩ : ∃ t, j = t + 1 := ⟨j - 1, by omega⟩
                      obtain ⟨x, y, hx, hy, hlex⟩ : ∃ x y : Int, (nth outs t).1 = x ∧ (nth outs t).2 = y ∧ (x < m.1 ∨ x = m.1 ∧ y ≤ m.2) :=
                        ⟨_, _, rfl, rfl, (le_iff _ _).1 (HLE.out _ (nth_mem (by rw [HOL.out]; omega)) m List.mem_cons_self)⟩
                      obtain ⟨gw, cpw, hvw, hgw, hcw, _⟩ := hwas.get t (by simp; rw [HOL.out]; omega)
                      obtain ⟨gt, cpt, hvt, hgt, hct, _⟩ := hits.get t (by simp; rw [HOL.out]; omega)
                      have cw1 := hcw t (by simp; rw [HOL.out]; omega)
                      have ct1 := hct t (by simp; rw [HOL.out]; omega)
                      injection hvw with e1 e2 e3
                      injection hvt with e4 e5 e6
                      subst e1; subst e3; subst e4; subst e6
                      rw [nth_map_fst _ _ (by rw [HOL.out]; omega), hx] at cw1
                      rw [nth_map_snd _ _ (by rw [HOL.out]; omega), hy] at ct1
                      clear hcw hct e2 e5 hx hy
                      have HMN := Lib.hid (show ∀ y ∈ m :: rx, le m y from fun y hy => by have := least_mem HISH.out y hy; simpa [nth] using this)
                      rcases hlex with hlt1 | ⟨heq, hle2⟩
                      · have d1 : decide (m.1 < x) = false := by simp; omega
                        have d2 : (m.1 == x) = false := by rw [beq_eq_false_iff_ne]; omega
                        go_wp2_with (at_builtin; refine wpList_appInt rfl (.tmp 191) (.tmp 193) 39 rfl 2 i0 _ 8 Try.underlying39 hi0 hz0 hz1 hz2 rfl _ (outs.map (·.1)) .i64 m.1 hs5 1 rfl rfl rfl ?c3 ?c4 ?grow)
                        case c3 => unfold maxLen; simp; omega
                        case c4 => simp; omega
                        case grow =>
                          intro vw6 w6 hs6 _
                          clear hwas hits
                          go_wp2_with (at_builtin; refine wpList_appInt rfl (.tmp 195) (.tmp 197) 47 rfl 3 jI _ 8 Try.underlying47 hjI hyI0 hyI1 hyI2 rfl _ (outs.map (·.2)) .i64 m.2 hs6 0 rfl rfl rfl ?d3 ?d4 ?grow2)
                          case d3 => unfold maxLen; simp; omega
                          case d4 => simp; omega
                          case grow2 =>
                            intro vt7 w7 hs7 _
                            clear hs6
                            go_wp2_with fail
                            refine Round.intro (i - ((t + 1) + 1)) ?measure (by kernel_rfl) (hJ3 _ _ _ ?rel)
                            case' rel => simp only [nthV]
                            case measure => omega
                            case rel =>
                              refine ⟨(t + 1) + 1, xs4, ys5, outs ++ [m], by go_num, by omega, rfl, by simpa using hs7, HP4.out.trans (HRR.out.trans HQ5.out.symm), by rw [H4L.out]; omega, by rw [List.length_append, HOL.out]; rfl, ?_⟩
                              intro a ha y hy
                              have hyr : y ∈ rx := HP4.out.mem_iff.1 hy
                              rcases List.mem_append.1 ha with h | h
                              · exact HLE.out a h y (List.mem_cons_of_mem _ hyr)
                              · rw [List.mem_singleton] at h; subst h; exact HMN.out y (List.mem_cons_of_mem _ hyr)
                      · subst heq
                        have d3 : decide (m.2 < y) = false := by simp; omega
                        go_wp2_with (at_builtin; refine wpList_appInt rfl (.tmp 191) (.tmp 193) 39 rfl 2 i0 _ 8 Try.underlying39 hi0 hz0 hz1 hz2 rfl _ (outs.map (·.1)) .i64 m.1 hs5 1 rfl rfl rfl ?c3 ?c4 ?grow)
                        case c3 => unfold maxLen; simp; omega
                        case c4 => simp; omega
                        case grow =>
                          intro vw6 w6 hs6 _
                          clear hwas hits
                          go_wp2_with (at_builtin; refine wpList_appInt rfl (.tmp 195) (.tmp 197) 47 rfl 3 jI _ 8 Try.underlying47 hjI hyI0 hyI1 hyI2 rfl _ (outs.map (·.2)) .i64 m.2 hs6 0 rfl rfl rfl ?d3 ?d4 ?grow2)
                          case d3 => unfold maxLen; simp; omega
                          case d4 => simp; omega
                          case grow2 =>
                            intro vt7 w7 hs7 _
                            clear hs6
                            go_wp2_with fail
                            refine Round.intro (i - ((t + 1) + 1)) ?measure (by kernel_rfl) (hJ3 _ _ _ ?rel)
                            case' rel => simp only [nthV]
                            case measure => omega
                            case rel =>
                              refine ⟨(t + 1) + 1, xs4, ys5, outs ++ [m], by go_num, by omega, rfl, by simpa using hs7, HP4.out.trans (HRR.out.trans HQ5.out.symm), by rw [H4L.out]; omega, by rw [List.length_append, HOL.out]; rfl, ?_⟩
                              intro a ha y hy
                              have hyr : y ∈ rx := HP4.out.mem_iff.1 hy
                              rcases List.mem_append.1 ha with h | h
                              · exact HLE.out a h y (List.mem_cons_of_mem _ hyr)
                              · rw [List.mem_singleton] at h; subst h; exact HMN.out y (List.mem_cons_of_mem _ hyr)
                    · obtain rfl : j = 0 := by omega
                      have HMN := Lib.hid (show ∀ y ∈ m :: rx, le m y from fun y hy => by have := least_mem HISH.out y hy; simpa [nth] using this)
                      go_wp2_with (at_builtin; refine wpList_appInt rfl (.tmp 191) (.tmp 193) 39 rfl 2 i0 _ 8 Try.underlying39 hi0 hz0 hz1 hz2 rfl _ (outs.map (·.1)) .i64 m.1 hs5 1 rfl rfl rfl ?c3 ?c4 ?grow)
                      case c3 => unfold maxLen; simp; omega
                      case c4 => simp; omega
                      case grow =>
                        intro vw6 w6 hs6 _
                        clear hwas hits
                        go_wp2_with (at_builtin; refine wpList_appInt rfl (.tmp 195) (.tmp 197) 47 rfl 3 jI _ 8 Try.underlying47 hjI hyI0 hyI1 hyI2 rfl _ (outs.map (·.2)) .i64 m.2 hs6 0 rfl rfl rfl ?d3 ?d4 ?grow2)
                        case d3 => unfold maxLen; simp; omega
                        case d4 => simp; omega
                        case grow2 =>
                          intro vt7 w7 hs7 _
                          clear hs6
                          go_wp2_with fail
                          refine Round.intro (i - (0 + 1)) ?measure (by kernel_rfl) (hJ3 _ _ _ ?rel)
                          case' rel => simp only [nthV]
                          case measure => omega
                          case rel =>
                            refine ⟨0 + 1, xs4, ys5, outs ++ [m], by go_num, by omega, rfl, by simpa using hs7, HP4.out.trans (HRR.out.trans HQ5.out.symm), by rw [H4L.out]; omega, by rw [List.length_append, HOL.out]; rfl, ?_⟩
                            intro a ha y hy
                            have hyr : y ∈ rx := HP4.out.mem_iff.1 hy
                            rcases List.mem_append.1 ha with h | h
                            · exact HLE.out a h y (List.mem_cons_of_mem _ hyr)
                            · rw [List.mem_singleton] at h; subst h; exact HMN.out y (List.mem_cons_of_mem _ hyr)
                · obtain rfl : j = i := by omega
                  obtain rfl : xs = [] := List.eq_nil_of_length_eq_zero (by rw [HAL.out]; omega)
                  obtain rfl : ys = [] := HXY.out.symm.eq_nil
                  clear HXY HAL HLE hj hlt hxl hyl
                  go_wp2_with fail
                  refine (pop_sep hs 3 rfl (by simp)).mono ?_
                  rintro e w3 ⟨rfl, xs3, hp3, hs3⟩
                  obtain rfl : xs3 = [] := hp3.eq_nil
                  unfold peekV
                  clear hp3 hs
                  have hwas := hs3.ints 1 rfl
                  have hits := hs3.ints 0 rfl
                  obtain ⟨aw, cw, hvw⟩ := hwas.shape
                  obtain ⟨at', ct, hvt⟩ := hits.shape
                  subst hvw; subst hvt
                  simp only [List.length_map] at hwas hits hs3 ⊢
                  rw [HOL.out] at hwas hits hs3 ⊢
                  go_wp2_with fail
                  refine wp_loopM [none, none, none, none, none, none, none, none, none, none, none, none, none, none, none, none, none, none, none, none, none, none, none, none, none, none, none, none, none, some 29, none, none, none, none, none, none, none, none, none, none, none, none, none, none, none, none, none, none, none, none, none, none, none, none, none, none, none, none, none, none, none, none, none, none, none, none, none, none, none, none, none, none, none, none, none, none, none, none, none, none, none, none, none, none, none, none, none, none, none, none, none, none, none, none, none, none, none, none, none, none, none, none, none, none, none, none, none, none, none, none, none, none, none, none, none, none, none, none, none, none, none, none, none, none, none, none, none, none, none, none, none, none, none, none, none, none, none, none, none, none, none, none, none, none, none, none, none, none, none, none, none, none, none, none, none, none, none, none, none, none, none, none, none, none, none, none, none, none, none, none, none, none, none, none, none, none, none, none, none, none, none, none, none, none, none, none, none, none, none, none, none, none, none, none, none, none, none, none, none, none, none, none, none, none, none, none, none, none, none, some 209, some 210, some 211, some 212, some 213, some 214, some 215, some 216, some 217, some 218, some 219, some 220, some 221, some 222, some 223, some 224, some 225, some 226, some 227, some 228, some 229, some 230, some 231, some 232, some 233, some 234, some 235, some 236, some 237, some 238, none, none, none, none, none, none, none] (fun (n : Nat) (f : Nat → Value) (wr : World) => (fun (v : Value) => ∃ (q : Nat) (xs ys : List T), v = .int .i64 ((q : Int) - 1) ∧ q ≤ j ∧ q = n ∧ Sep w wr [intsT .i64 3 (.slice at' j ct) (outs.map (·.2)), intsT .i64 2 (.slice aw j cw) (outs.map (·.1)), heapT bb ys, heapT ba xs] ∧ xs.Perm (outs.drop q) ∧ ys.Perm (outs.take (j - q))) (f 29)) (j) (by kernel_rfl) ?atStart ?round
                  case' atStart => simp only [nthV]
                  case' round =>
                    intro gk f wr l hl hrel J4 K4 hJ4 hK4
                    (try simp only [mask] at hl)
                    generalize f 29 = u29 at hl hrel
                    subst hl
                    (try dsimp only at hrel)
                  case atStart => exact ⟨j, [], [], rfl, Nat.le_refl _, rfl, hs3, by rw [List.drop_of_length_le (by rw [HOL.out]; omega)], by simp⟩
                  case round =>
                    clear hs3 hwas hits
                    obtain ⟨q, xs, ys, rfl, hq, rfl, hs, hx, hy⟩ := hrel
                    have HX := Lib.hid hx
                    have HY := Lib.hid hy
                    clear hx hy
                    by_cases hq0 : q = 0
                    · subst hq0
                      go_wp2_with fail
                      refine Round.intro (2 - (r + 1)) ?measure (by kernel_rfl) (hJ2 _ _ _ ?rel)
                      case' rel => simp only [nthV]
                      case measure => omega
                      case rel =>
                        have h1 : xs.Perm outs := by have := HX.out; simpa using this
                        have h2 : ys.Perm outs := by have := HY.out; rw [Nat.sub_zero, List.take_of_length_le (by rw [HOL.out]; omega)] at this; exact this
                        exact ⟨r + 1, xs, ys, by go_num, by omega, rfl, hs.tail.tail, h1.trans h2.symm, by rw [h1.length_eq, HOL.out]⟩
                    · obtain ⟨p, rfl⟩ : ∃ p, q = p + 1 := ⟨q - 1, by omega⟩
                      obtain ⟨s, hsj⟩ : ∃ s, s = j - (p + 1) := ⟨_, rfl⟩
                      have hsl : s < j := by omega
                      have hco : ((j : Int) - 1 - (p : Int)) = (s : Int) := by omega
                      have hxl : xs.length ≤ 80 := by rw [HX.out.length_eq]; simp; rw [HOL.out]; omega
                      have hyl : ys.length ≤ 80 := by rw [HY.out.length_eq]; simp; omega
                      have HSJ := Lib.hid hsj
                      have HCO := Lib.hid hco
                      clear hsj hco
                      rw [show ((p + 1 : Nat) : Int) - 1 = (p : Int) from by omega]
                      have hwas := hs.ints 1 rfl
                      have hits := hs.ints 0 rfl
                      have hpo : p < outs.length := by rw [HOL.out]; omega
                      have hso : s < outs.length := by rw [HOL.out]; omega
                      obtain ⟨gw, cpw, hvw, hgw, hcw, _⟩ := hwas.get p (by simpa using hpo)
                      obtain ⟨gt, cpt, hvt, hgt, hct, _⟩ := hits.get p (by simpa using hpo)
                      injection hvw with e1 e2 e3
                      injection hvt with e4 e5 e6
                      subst e1; subst e3; subst e4; subst e6
                      have cw1 := hcw p (by simpa using hpo)
                      have ct1 := hct p (by simpa using hpo)
                      rw [nth_map_fst _ _ hpo] at cw1
                      rw [nth_map_snd _ _ hpo] at ct1
                      clear hcw hct hwas hits e2 e5
                      go_wp2_with fail
                      refine Mix.region [0, 0, 0, 0, 0, 0, 0, 0, 0, 2] (fun _ => True) (by kernel_rfl) (by kernel_rfl) trivial ?_
                      simp only [List.zip_cons_cons, List.zip_nil_right]
                      iterate 9 (refine Mix.step0 fun K hK => ?_; go_simp; (try (go_bits; try go_simp)); first | ((with_reducible refine hK _ _ ?_); clear hK K) | ((try (simp only [IntWalk.iteOmega]; try go_simp)); (try go_bits); (with_reducible refine hK _ _ ?_); clear hK K))
                      refine Mix.step2n (by first | rfl | simp [Region.wanted, yielded]) fun K hK => ?_
                      go_wp2_with fail
                      refine (push_sep (hs.drew) 3 rfl _ _ (by omega)).mono ?_
                      rintro e w4 ⟨rfl, xs4, hx4, hs4⟩
                      have HX4 := Lib.hid hx4
                      clear hx4
                      go_wp2_with fail
                      refine Mix.post_mk (C := (fun _ => True)) trivial (hK _ _ ?_)
                      clear hK K
                      refine Mix.done ?_
                      have hwas := hs4.ints 1 rfl
                      have hits := hs4.ints 0 rfl
                      obtain ⟨g2, cpw, hvw, hgw, hcw, _⟩ := hwas.get s (by simpa using hso)
                      obtain ⟨g3, cpt, hvt, hgt, hct, _⟩ := hits.get s (by simpa using hso)
                      injection hvw with e1 e2 e3
                      injection hvt with e4 e5 e6
                      injection e1 with e1
                      injection e4 with e4
                      injection e1 with e1 _ _
                      injection e4 with e4 _ _
                      subst e1; subst e3; subst e4; subst e6
                      clear cw1 ct1
                      have cw1 := hcw s (by simpa using hso)
                      have ct1 := hct s (by simpa using hso)
                      rw [nth_map_fst _ _ hso] at cw1
                      rw [nth_map_snd _ _ hso] at ct1
                      clear hcw hct hwas hits e2 e5 hs
                      go_wp2_with fail
                      have hco := HCO.out
                      refine Mix.region [0, 0, 0, 0, 0, 0, 0, 0, 0, 0, 0, 0, 0, 0, 0, 2] (fun _ => True) (by kernel_rfl) (by kernel_rfl) trivial ?_
                      simp only [List.zip_cons_cons, List.zip_nil_right]
                      iterate 15 (refine Mix.step0 fun K hK => ?_; go_simp; (try (go_bits; try go_simp)); first | ((with_reducible refine hK _ _ ?_); clear hK K) | ((try (simp only [IntWalk.iteOmega]; try go_simp)); (try go_bits); (with_reducible refine hK _ _ ?_); clear hK K))
                      refine Mix.step2n (by first | rfl | simp [Region.wanted, yielded]) fun K hK => ?_
                      go_wp2_with fail
                      clear hco
                      refine (push_sep (hs4.drew) 2 rfl _ _ (by omega)).mono ?_
                      rintro e w5 ⟨rfl, ys5, hy5, hs5⟩
                      have HY5 := Lib.hid hy5
                      clear hy5
                      go_wp2_with fail
                      refine Mix.post_mk (C := (fun _ => True)) trivial (hK _ _ ?_)
                      clear hK K
                      refine Mix.done ?_
                      go_wp2_with fail
                      refine Round.intro (p) ?measure (by kernel_rfl) (hJ4 _ _ _ ?rel)
                      case' rel => simp only [nthV]
                      case measure => omega
                      case rel =>
                        refine ⟨p, xs4, ys5, rfl, by omega, rfl, hs5, ?_, ?_⟩
                        · rw [← drop_perm outs p hpo]; exact HX4.out.trans (HX.out.cons _)
                        · rw [show j - p = s + 1 by have := HSJ.out; omega]
                          have h1 := HY.out
                          rw [← HSJ.out] at h1
                          exact HY5.out.trans ((h1.cons _).trans (take_perm outs s hso))
            · obtain rfl : r = 2 := by omega
              have hxl : xs.length ≤ 80 := by rw [HAL.out]; omega
              go_wp2_with fail
              refine (len_sep hs 1 rfl).mono ?_
              rintro e w4 ⟨rfl, rfl⟩
              rw [HAL.out]
              go_wp2_with fail
              refine (works_any _).mono ?_
              rintro e w5 ⟨rfl, hb5⟩
              go_wp2_with fail
              go_ret
              exact ⟨rfl, (hs.belowStep hb5).below⟩
end Go.Proofs.Ytellkmjbpaaclaa
