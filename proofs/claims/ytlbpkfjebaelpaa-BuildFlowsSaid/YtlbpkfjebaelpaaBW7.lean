/-
  What is paid is worth, what is paid of what flows: both worths and Pays, walked.
-/
import Derived.Test.YtlbpkfjebaelpaaBW6
namespace Go.BuildP
open Go Go.RowKit Go.Mem Go.MoneyP Go.NetP
/-- Pays that may be, of these dues. -/
structure PayQ (O : List Du) (ps : List Int) : Prop where
  len : O.length = ps.length
  may : ∀ q ∈ O.zip ps, MayD q.1
  all : (O.zip ps).all payB = true
  sum : ((O.zip ps).map (·.1.x)).sum ≤ 4503599627370496
theorem zip_at {O : List Du} {ps : List Int} (hl : O.length = ps.length) {i : Nat} (hi : i < O.length) : ∃ hz : i < (O.zip ps).length, (O.zip ps)[i] = (O[i], ps.getD i 0) := by
  have hz : i < (O.zip ps).length := by rw [List.length_zip]; omega
  refine ⟨hz, ?_⟩
  rw [List.getElem_zip]
  simp [show i < ps.length by omega]
theorem worth_step {O : List Du} {ps : List Int} (h : PayQ O ps) {i : Nat} (hi : i < O.length) :
    worthQ ((O.zip ps).take (i + 1)) = worthQ ((O.zip ps).take i) + (O[i]).w * ps.getD i 0 ∧ 0 ≤ worthQ ((O.zip ps).take i) ∧ worthQ ((O.zip ps).take i) ≤ 4503599627370496000 ∧ 0 ≤ (O[i]).w * ps.getD i 0 ∧ (O[i]).w * ps.getD i 0 ≤ 4503599627370496000 := by
  obtain ⟨hz, he⟩ := zip_at h.len hi
  have hmem := List.getElem_mem hz
  rw [he] at hmem
  have hm : MayD (O[i]) := h.may _ hmem
  have hp : 0 ≤ ps.getD i 0 ∧ ps.getD i 0 ≤ (O[i]).x := by
    have := List.all_eq_true.1 h.all _ hmem
    simpa [payB] using this
  have e1 : worthQ ((O.zip ps).take (i + 1)) = worthQ ((O.zip ps).take i) + (O[i]).w * ps.getD i 0 := by
    unfold worthQ
    rw [List.take_succ_eq_append_getElem hz, List.map_append, List.sum_append, he]
    simp
  have hb := worth_bound ((O.zip ps).take i) (fun q hq => h.may q (List.mem_of_mem_take hq)) (List.all_eq_true.2 fun q hq => List.all_eq_true.1 h.all q (List.mem_of_mem_take hq))
  have hs : (((O.zip ps).take i).map (·.1.x)).sum ≤ 4503599627370496 := by
    have h1 := h.sum
    have h2 : ((O.zip ps).map (·.1.x)).sum = (((O.zip ps).take i).map (·.1.x)).sum + (((O.zip ps).drop i).map (·.1.x)).sum := by
      rw [← List.sum_append, ← List.map_append, List.take_append_drop]
    have h3 : 0 ≤ (((O.zip ps).drop i).map (·.1.x)).sum := sum_nonneg fun x hx => by
      obtain ⟨q, hq, rfl⟩ := List.mem_map.1 hx
      have := (h.may q (List.mem_of_mem_drop hq)).x0
      omega
    omega
  have hxb := hm.x1
  have h2 : 0 ≤ (O[i]).w * ps.getD i 0 := Int.mul_nonneg (by have := hm.w0; omega) hp.1
  have h3 : (O[i]).w * ps.getD i 0 ≤ 1000 * (O[i]).x := Int.mul_le_mul hm.w1 hp.2 hp.1 (by omega)
  refine ⟨e1, hb.1, by omega, h2, by omega⟩
end Go.BuildP
namespace Go.Proofs.Ytlbpkfjebaelpaa
open Go Go.RowKit Go.Mem Go.MoneyP Go.NetP Go.BuildP
set_option maxHeartbeats 2000000 in
theorem rworth_any (l : List Du) (ps : List Int) (vl vp : Value) (w : World) (h : RdG duR w vl l) (hp : Rd .i64 w vp ps) (hsm : l.length ≤ 1000) (hq : PayQ (openL l) ps) :
    Calls Try.prog 15 #[vl, vp] w fun en w' => en = .returned (.int .i64 (worthQ ((openL l).zip ps))) ∧ Below w.heap.size w w' := by
  obtain ⟨ap, cp, rfl⟩ := hp.shape
  go_enter Try.func15, Try.ntmps15
  go_wp2_with fail
  refine (ropen_any l vl _ h hsm).mono ?_
  rintro en w1 ⟨uo, rfl, hs⟩
  obtain ⟨O, hO⟩ : ∃ O, O = openL l := ⟨_, rfl⟩
  rw [← hO] at hs hq
  have HO := Lib.hid hO
  have hol : O.length ≤ 1000 := by rw [hO]; exact Nat.le_trans (open_le l) hsm
  obtain ⟨ao, co, rfl⟩ := (hs.rdRecs 0 rfl).shape
  have hlen := hq.len
  have HPQ := Lib.hid hq
  rw [← hlen]
  have HLEN := Lib.hid hlen
  clear hO hlen hq
  go_wp2_with fail
  refine wp_loopM [none, none, none, none, none, none, some 6, some 7, none, none, some 10, some 11, some 12, some 13, some 14, some 15, some 16, some 17, some 18, some 19, some 20, some 21, some 22, some 23, some 24, some 25, some 26, some 27, some 28, some 29, some 30, some 31, some 32, some 33, some 34, none] (fun (r : Nat) (f : Nat → Value) (wr : World) => (fun (vs v : Value) => ∃ i : Nat, vs = .int .i64 (worthQ ((O.zip ps).take i)) ∧ v = .int .i64 i ∧ i ≤ O.length ∧ r = O.length - i ∧ Sep w wr [recT duR 45 (.slice ao O.length co) O]) (f 6) (f 7)) (O.length) (by kernel_rfl) ?atStart1 ?round1
  case' atStart1 => (try dsimp only [nthV])
  case' round1 =>
    intro gk f wr l hl hrel J1 K1 hJ1 hK1
    (try simp only [mask] at hl)
    generalize f 6 = u6 at hl hrel
    generalize f 7 = u7 at hl hrel
    subst hl
    (try dsimp only at hrel)
  case atStart1 => exact ⟨0, rfl, rfl, Nat.zero_le _, rfl, hs⟩
  case round1 =>
    clear hs
    obtain ⟨i, rfl, rfl, hi, rfl, hs⟩ := hrel
    have eOO : (O.length == O.length) = true := by simp
    by_cases hlt : i < O.length
    · obtain ⟨b1, o1, e1, hb1, hc1⟩ := (hs.rdRecs 0 rfl).at i hlt
      subst e1
      obtain ⟨b2, o2, e2, hb2, hc2⟩ := (hs.rd hp).at i (by rw [← HPQ.out.len]; exact hlt)
      subst e2
      obtain ⟨s1, s2, s3, s4, s5⟩ := worth_step HPQ.out hlt
      obtain ⟨x, hx⟩ : ∃ x, x = O[i] := ⟨_, rfl⟩
      obtain ⟨P, hP⟩ : ∃ P, P = ps.getD i 0 := ⟨_, rfl⟩
      obtain ⟨W, hW⟩ : ∃ W, W = worthQ ((O.zip ps).take i) := ⟨_, rfl⟩
      rw [← hx, ← hP, ← hW] at s1
      rw [← hW] at s2 s3 ⊢
      rw [← hx, ← hP] at s4 s5
      rw [← hx] at hc1
      rw [← hP] at hc2
      have HS1 := Lib.hid s1
      clear hx hP hW s1
      obtain ⟨id, f, t, xx, we, u, hh⟩ := x
      have x0 := hc1 0 (by decide)
      have x1 := hc1 1 (by decide)
      have x2 := hc1 2 (by decide)
      have x3 := hc1 3 (by decide)
      have x4 := hc1 4 (by decide)
      have x5 := hc1 5 (by decide)
      have x6 := hc1 6 (by decide)
      simp only [duR, Nat.add_zero, List.getElem?_cons_zero, List.getElem?_cons_succ] at x0 x1 x2 x3 x4 x5 x6
      clear hc1
      dsimp only at s4 s5 HS1
      go_wp2_with fail
      refine Mix.region [0, 0, 0, 0, 0, 0, 0, 0, 0, 0, 0, 0, 0] (fun _ => True) (by kernel_rfl) (by kernel_rfl) trivial ?_
      simp only [List.zip_cons_cons, List.zip_nil_right]
      iterate 13 (refine Mix.step0 fun K hK => ?_; go_simp; (try (go_bits; try go_simp)); first | ((with_reducible refine hK _ _ ?_); clear hK K) | ((try (simp only [IntWalk.iteOmega]; try go_simp)); (try go_bits); (with_reducible refine hK _ _ ?_); clear hK K))
      refine Mix.done ?_
      go_wp2_with fail
      refine Round.intro (O.length - (i + 1)) ?measure2 (by kernel_rfl) (hJ1 _ _ _ ?rel2)
      case' rel2 => (try dsimp only [nthV])
      case measure2 => omega
      case rel2 => exact ⟨i + 1, by rw [HS1.out], by go_num, hlt, rfl, hs.drew⟩
    · obtain rfl : i = O.length := by omega
      have HT := Lib.hid (show (O.zip ps).take O.length = O.zip ps from List.take_of_length_le (by rw [List.length_zip]; omega))
      go_wp2_with fail
      go_ret
      exact ⟨by rw [← HO.out, HT.out]; rfl, hs.below⟩
set_option maxHeartbeats 2000000 in
theorem worth_any (l : List Du) (ps : List Int) (vl vp : Value) (w : World) (h : RdG duR w vl l) (hp : Rd .i64 w vp ps) (hsm : l.length ≤ 1000) (hq : PayQ (openL l) ps) :
    Calls Try.prog 14 #[vl, vp] w fun en w' => en = .returned (.int .i64 (worthQ ((openL l).zip ps))) ∧ Below w.heap.size w w' := by
  obtain ⟨ap, cp, rfl⟩ := hp.shape
  go_enter Try.func14, Try.ntmps14
  go_wp2_with fail
  refine (open_any l vl _ h hsm).mono ?_
  rintro en w1 ⟨uo, rfl, hs⟩
  obtain ⟨O, hO⟩ : ∃ O, O = openL l := ⟨_, rfl⟩
  rw [← hO] at hs hq
  have HO := Lib.hid hO
  have hol : O.length ≤ 1000 := by rw [hO]; exact Nat.le_trans (open_le l) hsm
  obtain ⟨ao, co, rfl⟩ := (hs.rdWin 0 rfl).shape
  have hlen := hq.len
  have HPQ := Lib.hid hq
  rw [← hlen]
  have HLEN := Lib.hid hlen
  have eOO : ((O.length : Int) != (O.length : Int)) = false := by simp
  clear hO hlen hq
  go_wp2_with fail
  refine wp_loopM [none, none, none, none, none, some 5, some 6, some 7, none, none, none, none, none, none, none, none, none, some 17, some 18, some 19, some 20, some 21, some 22, some 23, some 24, some 25, some 26, some 27, some 28, some 29, some 30, some 31, none] (fun (r : Nat) (f : Nat → Value) (wr : World) => (fun (vs v : Value) => ∃ i : Nat, vs = .int .i64 (worthQ ((O.zip ps).take i)) ∧ v = .int .i64 i ∧ i ≤ O.length ∧ r = O.length - i ∧ Sep w wr [winT duR (.slice ao O.length co) O]) (f 5) (f 17)) (O.length) (by kernel_rfl) ?atStart3 ?round3
  case' atStart3 => (try dsimp only [nthV])
  case' round3 =>
    intro gk f wr l hl hrel J1 K1 hJ1 hK1
    (try simp only [mask] at hl)
    generalize f 5 = u5 at hl hrel
    generalize f 17 = u17 at hl hrel
    subst hl
    (try dsimp only at hrel)
  case atStart3 => exact ⟨0, rfl, rfl, Nat.zero_le _, rfl, hs⟩
  case round3 =>
    clear hs
    obtain ⟨i, rfl, rfl, hi, rfl, hs⟩ := hrel
    by_cases hlt : i < O.length
    · obtain ⟨b1, o1, e1, hb1, hc1⟩ := (hs.rdWin 0 rfl).at i hlt
      subst e1
      obtain ⟨b2, o2, e2, hb2, hc2⟩ := (hs.rd hp).at i (by rw [← HPQ.out.len]; exact hlt)
      subst e2
      obtain ⟨s1, s2, s3, s4, s5⟩ := worth_step HPQ.out hlt
      obtain ⟨x, hx⟩ : ∃ x, x = O[i] := ⟨_, rfl⟩
      obtain ⟨P, hP⟩ : ∃ P, P = ps.getD i 0 := ⟨_, rfl⟩
      obtain ⟨W, hW⟩ : ∃ W, W = worthQ ((O.zip ps).take i) := ⟨_, rfl⟩
      rw [← hx, ← hP, ← hW] at s1
      rw [← hW] at s2 s3 ⊢
      rw [← hx, ← hP] at s4 s5
      rw [← hx] at hc1
      rw [← hP] at hc2
      have HS1 := Lib.hid s1
      clear hx hP hW s1
      obtain ⟨id, f, t, xx, we, u, hh⟩ := x
      have x0 := hc1 0 (by decide)
      have x1 := hc1 1 (by decide)
      have x2 := hc1 2 (by decide)
      have x3 := hc1 3 (by decide)
      have x4 := hc1 4 (by decide)
      have x5 := hc1 5 (by decide)
      have x6 := hc1 6 (by decide)
      simp only [duR, Nat.add_zero, List.getElem?_cons_zero, List.getElem?_cons_succ] at x0 x1 x2 x3 x4 x5 x6
      clear hc1
      dsimp only at s4 s5 HS1
      have hsa := hs.newCells #[.int .u64 id, .int .i64 f, .int .i64 t, .int .i64 xx, .int .i64 we, .int .i64 u, .bool hh] 45
      go_wp2_with fail
      refine Mix.region [0, 0, 0, 0, 0, 0, 0, 0, 0, 0] (fun _ => True) (by kernel_rfl) (by kernel_rfl) trivial ?_
      simp only [List.zip_cons_cons, List.zip_nil_right]
      iterate 10 (refine Mix.step0 fun K hK => ?_; go_simp; (try (go_bits; try go_simp)); first | ((with_reducible refine hK _ _ ?_); clear hK K) | ((try (simp only [IntWalk.iteOmega]; try go_simp)); (try go_bits); (with_reducible refine hK _ _ ?_); clear hK K))
      refine Mix.done ?_
      go_wp2_with fail
      refine Round.intro (O.length - (i + 1)) ?measure4 (by kernel_rfl) (hJ1 _ _ _ ?rel4)
      case' rel4 => (try dsimp only [nthV])
      case measure4 => omega
      case rel4 => exact ⟨i + 1, by rw [HS1.out], by go_num, hlt, rfl, hsa.drew.tail⟩
    · obtain rfl : i = O.length := by omega
      have HT := Lib.hid (show (O.zip ps).take O.length = O.zip ps from List.take_of_length_le (by rw [List.length_zip]; omega))
      go_wp2_with fail
      go_ret
      exact ⟨by rw [← HO.out, HT.out]; rfl, hs.below⟩
end Go.Proofs.Ytlbpkfjebaelpaa
