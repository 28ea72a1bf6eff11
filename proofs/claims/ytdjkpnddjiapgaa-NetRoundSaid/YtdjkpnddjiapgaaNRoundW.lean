/-
  The law NetRound, walked.
-/
import Derived.Test.YtdjkpnddjiapgaaNW6
import Derived.Test.YtdjkpnddjiapgaaNRound
import Derived.Test.YtdjkpnddjiapgaaMix2
namespace Go.Proofs.Ytdjkpnddjiapgaa
open Go Go.RowKit Go.Mem Go.NetP

theorem within_l {es : List Ed} {l : Nat} (hl : es.length = l) (n : Int) (a : Option Addr) (c : Nat) (v : Value) (fl : List Int) (w : World) (h : RdG edR w (.slice a es.length c) es) (h' : Rd .i64 w v fl) :
    Calls Try.prog 15 #[.agg #[.int .i64 n, .slice a l c], v] w fun en w' => en = .returned (.bool (withinB n es fl)) ∧ Below w.heap.size w w' := by subst hl; exact within_any n a c es v fl w h h'
theorem flows_l {es : List Ed} {l : Nat} (hl : es.length = l) (n : Int) (a : Option Addr) (c : Nat) (v : Value) (fl : List Int) (w : World) (h : RdG edR w (.slice a es.length c) es) (h' : Rd .i64 w v fl) :
    Calls Try.prog 17 #[.agg #[.int .i64 n, .slice a l c], v] w fun en w' => en = .returned (.bool (flowsB n es fl)) ∧ Below w.heap.size w w' := by subst hl; exact flows_any n a c es v fl w h h'
theorem cost_l {es : List Ed} {l : Nat} (hl : es.length = l) (n : Int) (a : Option Addr) (c : Nat) (v : Value) (fl : List Int) (w : World) (h : RdG edR w (.slice a es.length c) es) (h' : Rd .i64 w v fl) :
    Calls Try.prog 19 #[.agg #[.int .i64 n, .slice a l c], v] w fun en w' => en = .returned (.int .i64 (costV n es fl)) ∧ Below w.heap.size w w' := by subst hl; exact cost_any n a c es v fl w h h'

set_option maxRecDepth 100000 in
set_option maxHeartbeats 4000000 in
theorem netRound_any (v : Value) (zs : List Int) (b : Int) (M : Nat) (w : World) (h : Rd .u8 w v zs) (hz : ∀ x ∈ zs, 0 ≤ x ∧ x ≤ 255) (hb : 0 ≤ b ∧ b ≤ 65535) (hM : M ≤ 255) :
    Calls Try.prog 6 #[v, .int .u16 b, .int .u8 M] w fun e w' => e = .returned (.bool true) ∧ Below w.heap.size w w' := by
  have hle := h.le'
  obtain ⟨az, cz, rfl⟩ := h.shape
  obtain ⟨i0, hi0, hz0, hz1, hz2⟩ := info_parts Try.infoI64
  obtain ⟨j0, hj0, hy0, hy1, hy2⟩ := info_parts Try.infoEdge
  have hs := Sep.start w
  by_cases hl0 : zs.length = 0
  · have : ((zs.length : Int) == 0) = true := by rw [hl0]; rfl
    go_enter Try.func6, Try.ntmps6
    go_wp2_with fail
    refine (works_any _).mono ?_
    rintro en wz ⟨rfl, hb⟩
    go_wp2_with fail
    go_ret
    exact ⟨rfl, (hs.belowStep hb).below⟩
  by_cases hl1 : 40 < zs.length
  · have d0 : ((zs.length : Int) == 0) = false := by rw [beq_eq_false_iff_ne]; omega
    have d1 : decide (40 < (zs.length : Int)) = true := by simp; omega
    go_enter Try.func6, Try.ntmps6
    go_wp2_with fail
    refine (works_any _).mono ?_
    rintro en wz ⟨rfl, hb⟩
    go_wp2_with fail
    go_ret
    exact ⟨rfl, (hs.belowStep hb).below⟩
  have d0 : ((zs.length : Int) == 0) = false := by rw [beq_eq_false_iff_ne]; omega
  have d1 : decide (40 < (zs.length : Int)) = false := by simp; omega
  have hL0 : 0 < zs.length := by omega
  have hL : zs.length ≤ 40 := by omega
  have hne : zs ≠ [] := by intro e; simp [e] at hL0
  have HZ := Lib.hid hz
  have HBB := Lib.hid hb
  obtain ⟨hb0, hb1⟩ := hb
  clear hl0 hl1 hz
  replace hs := ((hs.newCells #[.int .i64 40, .slice none 0 0] 24).nilRecs edR 39).nilInts .i64 2
  go_enter Try.func6, Try.ntmps6
  go_wp2_with fail
  refine wp_loopM [none, none, none, none, none, none, none, none, some 8, some 9, none, none, none, none, none, none, none, none, none, none, none, none, some 22, some 23, some 24, some 25, some 26, some 27, some 28, some 29, some 30, some 31, some 32, some 33, some 34, some 35, some 36, some 37, some 38, some 39, some 40, some 41, some 42, some 43, some 44, some 45, some 46, some 47, some 48, some 49, some 50, some 51, some 52, some 53, some 54, some 55, some 56, some 57, some 58, some 59, none, none, none, none, none, none, none, none, none, none, none, none, none, none, none, none, none, none, none, none, none, none, none, none, none, none, none, none, none, none, none, none, none, none, none, none, none, none, none, none, none, none, none, none, none, none, none, none, none, none, none, none, none, none, none, none, none] (fun (r : Nat) (f : Nat → Value) (wr : World) => (fun (v vf : Value) => ∃ (i : Nat) (ab : Option Addr) (cb : Nat), v = .int .i64 i ∧ i ≤ zs.length ∧ r = zs.length - i ∧ Sep w wr [intsT .i64 2 vf (List.replicate i b), recT edR 39 (.slice ab i cb) (rL zs b i), cellsT w.heap.size #[.int .i64 40, .slice ab i cb] 24]) (f 9) (f 8)) (zs.length) (by kernel_rfl) ?atStart1 ?round1
  case' atStart1 => (try dsimp only [nthV])
  case' round1 =>
    intro gk f wr l hl hrel J1 K1 hJ1 hK1
    (try simp only [mask] at hl)
    generalize f 9 = u9 at hl hrel
    generalize f 8 = u8 at hl hrel
    subst hl
    (try dsimp only at hrel)
  case atStart1 => exact ⟨0, none, 0, rfl, Nat.zero_le _, rfl, hs⟩
  case round1 =>
    clear hs
    obtain ⟨i, ab, cb, rfl, hi, rfl, hs⟩ := hrel
    have n0 := cell_of (hs.cells 2 rfl) 0
    have n1 := cell_of (hs.cells 2 rfl) 1
    simp only [List.getElem?_toArray, List.getElem?_cons_zero, List.getElem?_cons_succ] at n0 n1
    by_cases hlt : i < zs.length
    · have hm : (i + 1) % zs.length < zs.length := Nat.mod_lt _ hL0
      have hm0 : 0 ≤ ((i : Int) + 1) % (zs.length : Int) := Int.emod_nonneg _ (by omega)
      have hm1 : ((i : Int) + 1) % (zs.length : Int) < (zs.length : Int) := Int.emod_lt_of_pos _ (by omega)
      obtain ⟨b1, o1, e1, hb1', x0⟩ := (hs.rd h).at i hlt
      obtain ⟨b2, o2, e2, hb2, x1⟩ := (hs.rd h).at _ hm
      rw [e1] at e2
      injection e2 with e2
      injection e2 with e2 e3
      subst e2; subst e3; subst e1
      have z0 := HZ.out (zs.getD i 0) (by rw [List.getD_eq_getElem?_getD, List.getElem?_eq_getElem hlt]; exact List.getElem_mem hlt)
      have z1 := HZ.out (zs.getD ((i + 1) % zs.length) 0) (by rw [List.getD_eq_getElem?_getD, List.getElem?_eq_getElem hm]; exact List.getElem_mem hm)
      have HE := Lib.hid (show rEd zs b i = ⟨zs.getD i 0 % 40, zs.getD ((i + 1) % zs.length) 0 % 40, b + 1, (i : Int) - 20⟩ from rfl)
      have HR := Lib.hid (rL_succ zs b i)
      have HN := Lib.hid (rL_length zs b i)
      generalize zs.getD i 0 = p at *
      generalize zs.getD ((i + 1) % zs.length) 0 = q at *
      obtain ⟨p0, p1⟩ := z0
      obtain ⟨q0, q1⟩ := z1
      have hsa := (hs.alloc (.cells #[.int .i64 (p % 40), .int .i64 (q % 40), .int .i64 (b + 1), .int .i64 ((i : Int) - 20)] 39)).drew
      have hCW : (fun W : World => W.cell? ⟨w.heap.size, 1, none⟩ = some (.slice ab i cb)) wr.drew := n1
      go_wp2_with fail
      refine Mix.region2 26 [1, 1, 0, 0, 0, 0, 0, 0, 0, 0, 0, 0, 0, 0, 0, 0, 0, 0, 0, 0, 0, 0, 0, 0, 2, 2, 0, 2] (fun W : World => W.cell? ⟨w.heap.size, 1, none⟩ = some (.slice ab i cb)) (by kernel_rfl) (by kernel_rfl) hCW ?_
      simp only [List.zip_cons_cons, List.zip_nil_right, List.take_succ_cons, List.take_zero, List.drop_succ_cons, List.drop_zero]
      (refine Mix.step1 fun K hK => ?_; go_simp; (try (go_bits; try go_simp)); first | ((with_reducible refine hK _ _ ?_); clear hK K) | ((try (simp only [IntWalk.iteOmega]; try go_simp)); (try go_bits); (with_reducible refine hK _ _ ?_); clear hK K))
      (refine Mix.step1 fun K hK => ?_; go_simp; refine ⟨fun W => ?_, hK _ _ ?_⟩; (intro hW1; (try intro hW2); (try intro hW3); (try intro hW4); (try intro hW5); (try intro hW6); (try intro hW7); (try intro hW8); go_simp); clear hK K)
      iterate 22 (refine Mix.step0 fun K hK => ?_; go_simp; (try (go_bits; try go_simp)); first | ((with_reducible refine hK _ _ ?_); clear hK K) | ((try (simp only [IntWalk.iteOmega]; try go_simp)); (try go_bits); (with_reducible refine hK _ _ ?_); clear hK K))
      refine Mix.step2n (by first | rfl | simp [Region.wanted, yielded]) fun K hK => ?_
      go_wp2_with fail
      have hCW := cell_of (hsa.cells 2 rfl) 1
      refine Mix.post_mk (C := (fun W : World => W.cell? ⟨w.heap.size, 1, none⟩ = some (.slice ab i cb))) (by first | exact hCW | exact HCW.out _) (hK _ _ ?_)
      clear hK K
      refine Mix.step2n (by first | rfl | simp [Region.wanted, yielded]) fun K hK => ?_
      refine wpList_appRecB edR rfl (.tmp 29) (.tmp 52) 22 rfl 39 j0 _ 32 Try.underlying22 hj0 hy0 hy1 hy2 rfl _ (rL zs b i) (rEd zs b i) hsa 1 rfl wr.heap.size _ (by rw [HE.out]; rfl) (heap_alloc_new wr _) rfl rfl (by rw [HN.out]; unfold maxLen; omega) (by rw [HN.out]; omega) ?_
      intro v' w2 hs2 hsh
      obtain ⟨g, cap, rfl⟩ := hsh.out
      rw [HN.out, ← HR.out] at hs2
      rw [HN.out]
      simp only [List.set_cons_succ, List.set_cons_zero] at hs2
      clear hsa hsh hs
      have hCW := cell_of (hs2.cells 2 rfl) 1
      have qf := fun j => frozen_of (hs2.cells 2 rfl) j
      have hCW' := hCW
      simp only [List.getElem?_toArray, List.getElem?_cons_zero, List.getElem?_cons_succ] at hCW'
      go_wp2_with fail
      refine Mix.post_mk (C := (fun W : World => W.cell? ⟨w.heap.size, 1, none⟩ = some (.slice ab i cb))) (by first | exact hCW | exact HCW.out _) (hK _ _ ?_)
      clear hK K
      refine Mix.done ?_
      iterate 1 (refine Mix.step0 fun K hK => ?_; go_simp; (try (go_bits; try go_simp)); first | ((with_reducible refine hK _ _ ?_); clear hK K) | ((try (simp only [IntWalk.iteOmega]; try go_simp)); (try go_bits); (with_reducible refine hK _ _ ?_); clear hK K))
      refine Mix.step2n (by first | rfl | simp [Region.wanted, yielded]) fun K hK => ?_
      go_wp2_with fail
      have hs3 := hs2.setCells 2 rfl 1 (.slice (some ⟨g, 0, none⟩) (i + 1) cap) #[.int .i64 40, .slice (some ⟨g, 0, none⟩) (i + 1) cap] rfl
      simp only [List.set_cons_succ, List.set_cons_zero] at hs3
      clear hs2 qf hCW' hCW n0 n1
      refine Mix.post_mk (C := (fun _ => True)) trivial (hK _ _ ?_)
      clear hK K
      refine Mix.done ?_
      generalize w2.setCell _ _ = w3 at hs3 ⊢
      have HRR := Lib.hid (show List.replicate i b ++ [b] = List.replicate (i + 1) b from by simp [List.replicate_succ'])
      go_wp2_with (at_builtin; refine wpList_appInt rfl (.tmp 55) (.tmp 58) 25 rfl 2 i0 _ 8 Try.underlying25 hi0 hz0 hz1 hz2 rfl _ (List.replicate i b) .i64 b hs3 0 rfl rfl rfl ?c3 ?c4 ?grow)
      case c3 => (try simp); (try simp only [maxLen]); (try omega)
      case c4 => (try simp); (try simp only [maxLen]); (try omega)
      case grow =>
        intro vl' w4 hs4 _
        (try simp only [List.set_cons_zero] at hs4)
        rw [HRR.out] at hs4
        clear hs3
        go_wp2_with fail
        refine Round.intro (zs.length - (i + 1)) ?measure2 (by kernel_rfl) (hJ1 _ _ _ ?rel2)
        case' rel2 => (try dsimp only [nthV])
        case measure2 => omega
        case rel2 => exact ⟨i + 1, _, _, by go_num, hlt, rfl, hs4⟩
    · obtain rfl : i = zs.length := by omega
      have hf := hs.rdInts 0 rfl
      obtain ⟨af, cf, hu⟩ := hf.shape
      rw [List.length_replicate] at hu
      subst hu
      have hfl : Rd .i64 wr (.slice af zs.length cf) (List.replicate zs.length b) := hf
      have HN := Lib.hid (rL_length zs b zs.length)
      have hre : RdG edR wr (.slice ab (rL zs b zs.length).length cb) (rL zs b zs.length) := by rw [HN.out]; exact hs.rdRecs 1 rfl
      have HF := Lib.hid (r_flows zs HBB.out rfl hL0 hL)
      have HC := Lib.hid (r_cost_bound zs HBB.out hL)
      have hcall := flows_any 40 ab cb (rL zs b zs.length) _ (List.replicate zs.length b) wr hre hfl
      rw [HN.out] at hcall
      have HCALL := Lib.hid hcall
      clear hcall
      go_wp2_with fail
      refine HCALL.out.mono ?_
      rintro en w2 ⟨rfl, hb⟩
      rw [HF.out]
      clear hf hfl hre HCALL
      replace hs := hs.belowStep hb
      clear hb; (try clear n0 n1)
      have n0 := cell_of (hs.cells 2 rfl) 0
      have n1 := cell_of (hs.cells 2 rfl) 1
      simp only [List.getElem?_toArray, List.getElem?_cons_zero, List.getElem?_cons_succ] at n0 n1
      have hKL : M % zs.length < zs.length := Nat.mod_lt _ hL0
      have hk0 : 0 ≤ (M : Int) % (zs.length : Int) := Int.emod_nonneg _ (by omega)
      have hk1 : (M : Int) % (zs.length : Int) < (zs.length : Int) := Int.emod_lt_of_pos _ (by omega)
      have hfl : Rd .i64 w2 (.slice af zs.length cf) (List.replicate zs.length b) := hs.rdInts 0 rfl
      have hre : RdG edR w2 (.slice ab (rL zs b zs.length).length cb) (rL zs b zs.length) := by rw [HN.out]; exact hs.rdRecs 1 rfl
      have hcall := cost_any 40 ab cb (rL zs b zs.length) _ (List.replicate zs.length b) w2 hre hfl
      rw [HN.out] at hcall
      have HCALL := Lib.hid hcall
      clear hcall
      go_wp2_with fail
      refine HCALL.out.mono ?_
      rintro en w3 ⟨rfl, hb⟩
      clear hfl hre HCALL
      replace hs := hs.belowStep hb
      clear hb; (try clear n0 n1)
      have n0 := cell_of (hs.cells 2 rfl) 0
      have n1 := cell_of (hs.cells 2 rfl) 1
      simp only [List.getElem?_toArray, List.getElem?_cons_zero, List.getElem?_cons_succ] at n0 n1
      obtain ⟨g, cp, eg, hg, hcR, hfr⟩ := (hs.ints 0 rfl).get (M % zs.length) (by simpa using hKL)
      injection eg with eg1 eg2 eg3
      clear eg2 eg3
      subst eg1
      have r0 := hcR (M % zs.length) (by simpa using hKL)
      rw [rep_get b hKL] at r0
      clear hcR
      have hs2 := hs.setInts (j := M % zs.length) 0 rfl (b + 1)
      simp only [List.set_cons_zero] at hs2
      obtain ⟨gb, ob, eb, hbb, hce⟩ := (hs2.rdRecs 1 rfl).at (M % zs.length) (by rw [HN.out]; exact hKL)
      subst eb
      rw [rL_get zs b hKL] at hce
      have e0 := hce 0 (by decide)
      have e1 := hce 1 (by decide)
      have e3 := hce 3 (by decide)
      simp only [edR, Nat.add_zero, List.getElem?_cons_zero, List.getElem?_cons_succ] at e0 e1 e3
      have HMF := Lib.hid (m_flows zs HBB.out rfl hL0 hL hKL)
      have HMW := Lib.hid (m_within zs HBB.out hL (M % zs.length))
      have hmc := m_cost zs HBB.out hL hKL
      have hkk : (rEd zs b (M % zs.length)).k = ((M % zs.length : Nat) : Int) - 20 := rfl
      rw [← hkk] at hmc
      have kb0 : -20 ≤ (rEd zs b (M % zs.length)).k := by rw [hkk]; omega
      have kb1 : (rEd zs b (M % zs.length)).k ≤ 20 := by rw [hkk]; omega
      have HMC := Lib.hid hmc
      clear hmc hkk
      generalize (rEd zs b (M % zs.length)).k = ek at *
      obtain ⟨c0, c1⟩ := HC.out
      have HML := Lib.hid (moreL_length b zs.length (M % zs.length))
      generalize costV 40 (rL zs b zs.length) (List.replicate zs.length b) = CV at *
      generalize (rEd zs b (M % zs.length)).f = p at *
      generalize (rEd zs b (M % zs.length)).t = q at *
      clear hce HC
      rw [show (List.replicate zs.length b).set (M % zs.length) (b + 1) = moreL b zs.length (M % zs.length) from rfl] at hs2
      have hfl : Rd .i64 _ (.slice (some ⟨g, 0, none⟩) zs.length cf) (moreL b zs.length (M % zs.length)) := hs2.rdInts 0 rfl
      have hpq : ∃ pq : Bool, (p == q) = pq ∧ decide (p = q) = pq := ⟨decide (p = q), by rw [Bool.eq_iff_iff]; simp, rfl⟩
      obtain ⟨pq, hp1, hp2⟩ := hpq
      rw [hp2] at HMF
      clear hp2 hs
      go_wp2_with fail
      generalize w3.setCell _ _ = w4 at hs2 hfl e0 e1 e3 hbb ⊢
      have hre : RdG edR w4 (.slice (some ⟨gb, ob, none⟩) (rL zs b zs.length).length cb) (rL zs b zs.length) := by rw [HN.out]; exact hs2.rdRecs 1 rfl
      have n0 := cell_of (hs2.cells 2 rfl) 0
      have n1 := cell_of (hs2.cells 2 rfl) 1
      simp only [List.getElem?_toArray, List.getElem?_cons_zero, List.getElem?_cons_succ] at n0 n1
      have N0 := lt_of (hs2.cells 2 rfl)
      have HB := Lib.hid hs2.below
      have WIT := Lib.hid (fun (W : World) h1 h2 => within_l HN.out 40 (some ⟨gb, ob, none⟩) cb (.slice (some ⟨g, 0, none⟩) zs.length cf) (moreL b zs.length (M % zs.length)) W h1 h2)
      have FLO := Lib.hid (fun (W : World) h1 h2 => flows_l HN.out 40 (some ⟨gb, ob, none⟩) cb (.slice (some ⟨g, 0, none⟩) zs.length cf) (moreL b zs.length (M % zs.length)) W h1 h2)
      have COS := Lib.hid (fun (W : World) h1 h2 => cost_l HN.out 40 (some ⟨gb, ob, none⟩) cb (.slice (some ⟨g, 0, none⟩) zs.length cf) (moreL b zs.length (M % zs.length)) W h1 h2)
      have FIN := Lib.hid (fun (W : World) (L : List Thing) (h : Sep w4 W L) =>
        (⟨(h.cell N0).trans n0, (h.cell N0).trans n1, (h.cell hbb).trans e0, (h.cell hbb).trans e1, (h.cell hbb).trans e3⟩ : W.cell? ⟨w.heap.size, 0, none⟩ = some (.int .i64 40) ∧ W.cell? ⟨w.heap.size, 1, none⟩ = some (.slice (some ⟨gb, ob, none⟩) zs.length cb) ∧ W.cell? ⟨gb, ob + M % zs.length * 4, none⟩ = some (.int .i64 p) ∧ W.cell? ⟨gb, ob + M % zs.length * 4 + 1, none⟩ = some (.int .i64 q) ∧ W.cell? ⟨gb, ob + M % zs.length * 4 + 3, none⟩ = some (.int .i64 ek)))
      have hs := (Sep.start w4).drew
      have hre' := hre
      have hfl' := hfl
      clear n0 n1 e0 e1 e3 hs2 hbb N0
      have hCW := FIN.out _ _ hs
      obtain ⟨n0, n1, e0, e1, e3⟩ := hCW
      refine Mix.region [0, 0, 2, 0, 0, 0, 2, 1, 1, 1, 1, 1, 1, 1, 1, 1, 1, 1, 1, 1, 0, 0, 0, 0, 0, 2, 1, 1, 1, 1, 1, 1, 1, 1, 0, 0, 0, 2, 0, 0] (fun W : World => W.cell? ⟨w.heap.size, 0, none⟩ = some (.int .i64 40) ∧ W.cell? ⟨w.heap.size, 1, none⟩ = some (.slice (some ⟨gb, ob, none⟩) zs.length cb) ∧ W.cell? ⟨gb, ob + M % zs.length * 4, none⟩ = some (.int .i64 p) ∧ W.cell? ⟨gb, ob + M % zs.length * 4 + 1, none⟩ = some (.int .i64 q) ∧ W.cell? ⟨gb, ob + M % zs.length * 4 + 3, none⟩ = some (.int .i64 ek)) (by kernel_rfl) (by kernel_rfl) (FIN.out _ _ hs) ?_
      simp only [List.zip_cons_cons, List.zip_nil_right]
      iterate 2 (refine Mix.step0 fun K hK => ?_; go_simp; (try (go_bits; try go_simp)); first | ((with_reducible refine hK _ _ ?_); clear hK K) | ((try (simp only [IntWalk.iteOmega]; try go_simp)); (try go_bits); (with_reducible refine hK _ _ ?_); clear hK K))
      refine Mix.step2n (by first | rfl | simp [Region.wanted, yielded]) fun K hK => ?_
      go_wp2_with fail
      refine (WIT.out _ (hs.rdG hre) (hs.rd hfl)).mono ?_
      rintro en wx ⟨rfl, hb⟩
      rw [HMW.out]
      replace hs := hs.belowStep hb
      clear hb; (try clear n0 n1)
      clear e0 e1 e3
      obtain ⟨n0, n1, e0, e1, e3⟩ := FIN.out _ _ hs
      go_wp2_with fail
      refine Mix.post_mk (C := (fun W : World => W.cell? ⟨w.heap.size, 0, none⟩ = some (.int .i64 40) ∧ W.cell? ⟨w.heap.size, 1, none⟩ = some (.slice (some ⟨gb, ob, none⟩) zs.length cb) ∧ W.cell? ⟨gb, ob + M % zs.length * 4, none⟩ = some (.int .i64 p) ∧ W.cell? ⟨gb, ob + M % zs.length * 4 + 1, none⟩ = some (.int .i64 q) ∧ W.cell? ⟨gb, ob + M % zs.length * 4 + 3, none⟩ = some (.int .i64 ek))) (by first | exact (FIN.out _ _ hs) | exact HCW.out _) (hK _ _ ?_)
      clear hK K
      iterate 1 (refine Mix.step0 fun K hK => ?_; go_simp; (try (go_bits; try go_simp)); first | ((with_reducible refine hK _ _ ?_); clear hK K) | ((try (simp only [IntWalk.iteOmega]; try go_simp)); (try go_bits); (with_reducible refine hK _ _ ?_); clear hK K))
      iterate 2 (first | (refine Mix.stepS rfl fun K hK => ?_; go_simp; (with_reducible refine hK _ _ ?_); clear hK K) | (refine Mix.step0 fun K hK => ?_; go_simp; (try (go_bits; try go_simp)); first | ((with_reducible refine hK _ _ ?_); clear hK K) | ((try (simp only [IntWalk.iteOmega]; try go_simp)); (try go_bits); (with_reducible refine hK _ _ ?_); clear hK K)))
      refine Mix.step2n (by first | rfl | simp [Region.wanted, yielded]) fun K hK => ?_
      go_wp2_with fail
      refine (FLO.out _ (hs.rdG hre) (hs.rd hfl)).mono ?_
      rintro en wx ⟨rfl, hb⟩
      rw [HMF.out]
      replace hs := hs.belowStep hb
      clear hb; (try clear n0 n1)
      clear e0 e1 e3
      obtain ⟨n0, n1, e0, e1, e3⟩ := FIN.out _ _ hs
      go_wp2_with fail
      refine Mix.post_mk (C := (fun W : World => W.cell? ⟨w.heap.size, 0, none⟩ = some (.int .i64 40) ∧ W.cell? ⟨w.heap.size, 1, none⟩ = some (.slice (some ⟨gb, ob, none⟩) zs.length cb) ∧ W.cell? ⟨gb, ob + M % zs.length * 4, none⟩ = some (.int .i64 p) ∧ W.cell? ⟨gb, ob + M % zs.length * 4 + 1, none⟩ = some (.int .i64 q) ∧ W.cell? ⟨gb, ob + M % zs.length * 4 + 3, none⟩ = some (.int .i64 ek))) (by first | exact (FIN.out _ _ hs) | exact HCW.out _) (hK _ _ ?_)
      clear hK K
      (refine Mix.step1 fun K hK => ?_; go_simp; (try (go_bits; try go_simp)); first | ((with_reducible refine hK _ _ ?_); clear hK K) | ((try (simp only [IntWalk.iteOmega]; try go_simp)); (try go_bits); (with_reducible refine hK _ _ ?_); clear hK K))
      (refine Mix.step1 fun K hK => ?_; go_simp; refine ⟨fun W => ?_, hK _ _ ?_⟩; (intro hW1; (try intro hW2); (try intro hW3); (try intro hW4); (try intro hW5); (try intro hW6); (try intro hW7); (try intro hW8); go_simp); clear hK K)
      (refine Mix.step1 fun K hK => ?_; go_simp; (try (go_bits; try go_simp)); first | ((with_reducible refine hK _ _ ?_); clear hK K) | ((try (simp only [IntWalk.iteOmega]; try go_simp)); (try go_bits); (with_reducible refine hK _ _ ?_); clear hK K))
      (refine Mix.step1 fun K hK => ?_; go_simp; (try (go_bits; try go_simp)); first | ((with_reducible refine hK _ _ ?_); clear hK K) | ((try (simp only [IntWalk.iteOmega]; try go_simp)); (try go_bits); (with_reducible refine hK _ _ ?_); clear hK K))
      (refine Mix.step1 fun K hK => ?_; go_simp; (try (go_bits; try go_simp)); first | ((with_reducible refine hK _ _ ?_); clear hK K) | ((try (simp only [IntWalk.iteOmega]; try go_simp)); (try go_bits); (with_reducible refine hK _ _ ?_); clear hK K))
      (refine Mix.step1 fun K hK => ?_; go_simp; refine ⟨fun W => ?_, hK _ _ ?_⟩; (intro hW1; (try intro hW2); (try intro hW3); (try intro hW4); (try intro hW5); (try intro hW6); (try intro hW7); (try intro hW8); go_simp); clear hK K)
      (refine Mix.step1 fun K hK => ?_; go_simp; (try (go_bits; try go_simp)); first | ((with_reducible refine hK _ _ ?_); clear hK K) | ((try (simp only [IntWalk.iteOmega]; try go_simp)); (try go_bits); (with_reducible refine hK _ _ ?_); clear hK K))
      (refine Mix.step1 fun K hK => ?_; go_simp; refine ⟨fun W => ?_, hK _ _ ?_⟩; (intro hW1; (try intro hW2); (try intro hW3); (try intro hW4); (try intro hW5); (try intro hW6); (try intro hW7); (try intro hW8); go_simp); clear hK K)
      (refine Mix.step1 fun K hK => ?_; go_simp; (try (go_bits; try go_simp)); first | ((with_reducible refine hK _ _ ?_); clear hK K) | ((try (simp only [IntWalk.iteOmega]; try go_simp)); (try go_bits); (with_reducible refine hK _ _ ?_); clear hK K))
      (refine Mix.step1 fun K hK => ?_; go_simp; (try (go_bits; try go_simp)); first | ((with_reducible refine hK _ _ ?_); clear hK K) | ((try (simp only [IntWalk.iteOmega]; try go_simp)); (try go_bits); (with_reducible refine hK _ _ ?_); clear hK K))
      (refine Mix.step1 fun K hK => ?_; go_simp; (try (go_bits; try go_simp)); first | ((with_reducible refine hK _ _ ?_); clear hK K) | ((try (simp only [IntWalk.iteOmega]; try go_simp)); (try go_bits); (with_reducible refine hK _ _ ?_); clear hK K))
      (refine Mix.step1 fun K hK => ?_; go_simp; refine ⟨fun W => ?_, hK _ _ ?_⟩; (intro hW1; (try intro hW2); (try intro hW3); (try intro hW4); (try intro hW5); (try intro hW6); (try intro hW7); (try intro hW8); go_simp); clear hK K)
      (refine Mix.step1 fun K hK => ?_; go_simp; (try (go_bits; try go_simp)); first | ((with_reducible refine hK _ _ ?_); clear hK K) | ((try (simp only [IntWalk.iteOmega]; try go_simp)); (try go_bits); (with_reducible refine hK _ _ ?_); clear hK K))
      iterate 1 (first | (refine Mix.stepS rfl fun K hK => ?_; go_simp; (with_reducible refine hK _ _ ?_); clear hK K) | (refine Mix.step0 fun K hK => ?_; go_simp; (try (go_bits; try go_simp)); first | ((with_reducible refine hK _ _ ?_); clear hK K) | ((try (simp only [IntWalk.iteOmega]; try go_simp)); (try go_bits); (with_reducible refine hK _ _ ?_); clear hK K)))
      iterate 2 (refine Mix.step0 fun K hK => ?_; go_simp; (try (go_bits; try go_simp)); first | ((with_reducible refine hK _ _ ?_); clear hK K) | ((try (simp only [IntWalk.iteOmega]; try go_simp)); (try go_bits); (with_reducible refine hK _ _ ?_); clear hK K))
      iterate 2 (first | (refine Mix.stepS rfl fun K hK => ?_; go_simp; (with_reducible refine hK _ _ ?_); clear hK K) | (refine Mix.step0 fun K hK => ?_; go_simp; (try (go_bits; try go_simp)); first | ((with_reducible refine hK _ _ ?_); clear hK K) | ((try (simp only [IntWalk.iteOmega]; try go_simp)); (try go_bits); (with_reducible refine hK _ _ ?_); clear hK K)))
      refine Mix.step2n (by first | rfl | simp [Region.wanted, yielded]) fun K hK => ?_
      go_wp2_with fail
      refine (COS.out _ (hs.rdG hre) (hs.rd hfl)).mono ?_
      rintro en wx ⟨rfl, hb⟩
      rw [HMC.out]
      replace hs := hs.belowStep hb
      clear hb; (try clear n0 n1)
      clear e0 e1 e3
      obtain ⟨n0, n1, e0, e1, e3⟩ := FIN.out _ _ hs
      go_wp2_with fail
      refine Mix.post_mk (C := (fun W : World => W.cell? ⟨w.heap.size, 0, none⟩ = some (.int .i64 40) ∧ W.cell? ⟨w.heap.size, 1, none⟩ = some (.slice (some ⟨gb, ob, none⟩) zs.length cb) ∧ W.cell? ⟨gb, ob + M % zs.length * 4, none⟩ = some (.int .i64 p) ∧ W.cell? ⟨gb, ob + M % zs.length * 4 + 1, none⟩ = some (.int .i64 q) ∧ W.cell? ⟨gb, ob + M % zs.length * 4 + 3, none⟩ = some (.int .i64 ek))) (by first | exact (FIN.out _ _ hs) | exact HCW.out _) (hK _ _ ?_)
      clear hK K
      (refine Mix.step1 fun K hK => ?_; go_simp; (try (go_bits; try go_simp)); first | ((with_reducible refine hK _ _ ?_); clear hK K) | ((try (simp only [IntWalk.iteOmega]; try go_simp)); (try go_bits); (with_reducible refine hK _ _ ?_); clear hK K))
      (refine Mix.step1 fun K hK => ?_; go_simp; (try (go_bits; try go_simp)); first | ((with_reducible refine hK _ _ ?_); clear hK K) | ((try (simp only [IntWalk.iteOmega]; try go_simp)); (try go_bits); (with_reducible refine hK _ _ ?_); clear hK K))
      (refine Mix.step1 fun K hK => ?_; go_simp; refine ⟨fun W => ?_, hK _ _ ?_⟩; (intro hW1; (try intro hW2); (try intro hW3); (try intro hW4); (try intro hW5); (try intro hW6); (try intro hW7); (try intro hW8); go_simp); clear hK K)
      (refine Mix.step1 fun K hK => ?_; go_simp; (try (go_bits; try go_simp)); first | ((with_reducible refine hK _ _ ?_); clear hK K) | ((try (simp only [IntWalk.iteOmega]; try go_simp)); (try go_bits); (with_reducible refine hK _ _ ?_); clear hK K))
      (refine Mix.step1 fun K hK => ?_; go_simp; (try (go_bits; try go_simp)); first | ((with_reducible refine hK _ _ ?_); clear hK K) | ((try (simp only [IntWalk.iteOmega]; try go_simp)); (try go_bits); (with_reducible refine hK _ _ ?_); clear hK K))
      (refine Mix.step1 fun K hK => ?_; go_simp; (try (go_bits; try go_simp)); first | ((with_reducible refine hK _ _ ?_); clear hK K) | ((try (simp only [IntWalk.iteOmega]; try go_simp)); (try go_bits); (with_reducible refine hK _ _ ?_); clear hK K))
      (refine Mix.step1 fun K hK => ?_; go_simp; refine ⟨fun W => ?_, hK _ _ ?_⟩; (intro hW1; (try intro hW2); (try intro hW3); (try intro hW4); (try intro hW5); (try intro hW6); (try intro hW7); (try intro hW8); go_simp); clear hK K)
      (refine Mix.step1 fun K hK => ?_; go_simp; (try (go_bits; try go_simp)); first | ((with_reducible refine hK _ _ ?_); clear hK K) | ((try (simp only [IntWalk.iteOmega]; try go_simp)); (try go_bits); (with_reducible refine hK _ _ ?_); clear hK K))
      iterate 1 (first | (refine Mix.stepS rfl fun K hK => ?_; go_simp; (with_reducible refine hK _ _ ?_); clear hK K) | (refine Mix.step0 fun K hK => ?_; go_simp; (try (go_bits; try go_simp)); first | ((with_reducible refine hK _ _ ?_); clear hK K) | ((try (simp only [IntWalk.iteOmega]; try go_simp)); (try go_bits); (with_reducible refine hK _ _ ?_); clear hK K)))
      iterate 2 (refine Mix.step0 fun K hK => ?_; go_simp; (try (go_bits; try go_simp)); first | ((with_reducible refine hK _ _ ?_); clear hK K) | ((try (simp only [IntWalk.iteOmega]; try go_simp)); (try go_bits); (with_reducible refine hK _ _ ?_); clear hK K))
      refine Mix.step2n (by first | rfl | simp [Region.wanted, yielded]) fun K hK => ?_
      go_wp2_with fail
      refine (works_any _).mono ?_
      rintro en wx ⟨rfl, hb⟩
      replace hs := hs.belowStep hb
      clear hb; (try clear n0 n1)
      clear e0 e1 e3
      obtain ⟨n0, n1, e0, e1, e3⟩ := FIN.out _ _ hs
      go_wp2_with fail
      refine Mix.post_mk (C := (fun W : World => W.cell? ⟨w.heap.size, 0, none⟩ = some (.int .i64 40) ∧ W.cell? ⟨w.heap.size, 1, none⟩ = some (.slice (some ⟨gb, ob, none⟩) zs.length cb) ∧ W.cell? ⟨gb, ob + M % zs.length * 4, none⟩ = some (.int .i64 p) ∧ W.cell? ⟨gb, ob + M % zs.length * 4 + 1, none⟩ = some (.int .i64 q) ∧ W.cell? ⟨gb, ob + M % zs.length * 4 + 3, none⟩ = some (.int .i64 ek))) (by first | exact (FIN.out _ _ hs) | exact HCW.out _) (hK _ _ ?_)
      clear hK K
      iterate 2 (refine Mix.step0 fun K hK => ?_; go_simp; (try (go_bits; try go_simp)); first | ((with_reducible refine hK _ _ ?_); clear hK K) | ((try (simp only [IntWalk.iteOmega]; try go_simp)); (try go_bits); (with_reducible refine hK _ _ ?_); clear hK K))
      refine Mix.done ?_
      have HZZ := Lib.hid (HB.out.trans (hs.below.mono HB.out.size))
      clear hs n0 n1 e0 e1 e3
      go_wp2_with fail
      go_ret
      exact ⟨rfl, HZZ.out⟩

theorem netRound_args (v : Value) (zs : List Int) (b m : Int) (w : World) (h : Rd .u8 w v zs) (hz : ∀ x ∈ zs, (Lit.int .u8 x).wf = true) (hb : (Lit.int .u16 b).wf = true) (hm : (Lit.int .u8 m).wf = true) :
    Calls Try.prog 6 #[v, .int .u16 b, .int .u8 m] w fun e w' => e = .returned (.bool true) ∧ Below w.heap.size w w' := by
  have hm' := bounds_u8 hm
  obtain ⟨M, rfl⟩ : ∃ M : Nat, m = M := ⟨m.toNat, by omega⟩
  exact netRound_any v zs b M w h (fun x hx => bounds_u8 (hz x hx)) (bounds_u16 hb) (by omega)
end Go.Proofs.Ytdjkpnddjiapgaa
