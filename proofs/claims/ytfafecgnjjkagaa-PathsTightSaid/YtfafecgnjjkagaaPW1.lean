/-
  Package paths: the arcs with room gone through by a function, walked.
-/
import Derived.RangeFuncNested
import Derived.RangeFuncBound
import Derived.RangeFuncCalls
import Derived.RangeFuncLeaves
import Derived.Shelf.Abstract
import Derived.Shelf.RegionOpen
import Derived.WalkKit
import Derived.OwnWalkIn
import Derived.TacticsInMore
import Derived.LoopNIn
import Derived.LoopIn
import Derived.Stop.RegionWithIn
import Derived.Test.YtfafecgnjjkagaaMixIn
import Derived.Test.YtfafecgnjjkagaaSeq
import Derived.Test.YtfafecgnjjkagaaNW1
import Derived.Test.YtfafecgnjjkagaaKeepT
import Derived.Test.YtfafecgnjjkagaaPPlain3
namespace Go.PathP
open Go Go.RowKit Go.Mem Go.NetP Go.RestP Go.CertP
/-- An arc as it lies. -/
def arR : Rec Ar where
  m := 4
  cells a := [.int .i64 a.k, .int .i64 a.u, .int .i64 a.v, .int .i64 a.len]
  len _ := rfl
  one e u hu := by simp only [List.mem_cons, List.not_mem_nil, or_false] at hu; rcases hu with rfl | rfl | rfl | rfl <;> rfl
  pos := by decide
def encA (a : Ar) : Array Value := #[.agg #[.int .i64 a.k, .int .i64 a.u, .int .i64 a.v, .int .i64 a.len]]
theorem room_even (es : List Ed) (fl : List Int) (k : Nat) : roomE es fl (2 * k) = (edAt es k).c - fl.getD k 0 := by
  unfold roomE
  rw [if_neg (by unfold oddB; simp), show 2 * k / 2 = k by omega]
theorem room_odd (es : List Ed) (fl : List Int) (k : Nat) : roomE es fl (2 * k + 1) = fl.getD k 0 := by
  unfold roomE
  rw [if_pos (by unfold oddB; simp), show (2 * k + 1) / 2 = k by omega]
theorem arcs_even (es : List Ed) (fl pot : List Int) (k : Nat) : arcsN es fl pot (2 * k + 1) = arcsN es fl pot (2 * k) ++ if fl.getD k 0 < (edAt es k).c then [⟨2 * k, (edAt es k).f.toNat, (edAt es k).t.toNat, lenA es pot (2 * k)⟩] else [] := by
  rw [arcsN_succ]
  congr 1
  unfold hasRoom arcAt
  rw [room_even, ends_even2]
  by_cases h : fl.getD k 0 < (edAt es k).c
  · rw [if_pos h, if_pos (by rw [decide_eq_true_eq]; omega)]
  · rw [if_neg h, if_neg (by rw [decide_eq_true_eq]; omega)]
theorem arcs_odd (es : List Ed) (fl pot : List Int) (k : Nat) : arcsN es fl pot (2 * (k + 1)) = arcsN es fl pot (2 * k + 1) ++ if 0 < fl.getD k 0 then [⟨2 * k + 1, (edAt es k).t.toNat, (edAt es k).f.toNat, -lenA es pot (2 * k)⟩] else [] := by
  rw [show 2 * (k + 1) = 2 * k + 1 + 1 by omega, arcsN_succ]
  congr 1
  unfold hasRoom arcAt
  rw [room_odd, ends_odd2, len_odd]
  by_cases h : 0 < fl.getD k 0
  · rw [if_pos h, if_pos (by rw [decide_eq_true_eq]; omega)]
  · rw [if_neg h, if_neg (by rw [decide_eq_true_eq]; omega)]
theorem arcsN_le (es : List Ed) (fl pot : List Int) : ∀ m, (arcsN es fl pot m).length ≤ m
  | 0 => Nat.le_refl _
  | m + 1 => by
    have := arcsN_le es fl pot m
    rw [arcsN_succ, List.length_append]
    split <;> simp <;> omega
theorem arcsN_sub {es : List Ed} {fl pot : List Int} {m m' : Nat} (h : m ≤ m') {a : Ar} (ha : a ∈ arcsN es fl pot m) : a ∈ arcsN es fl pot m' := by
  obtain ⟨k, h1, h2, rfl⟩ := arcs_mem.1 ha
  exact arcs_mem.2 ⟨k, by omega, h2, rfl⟩
end Go.PathP
namespace Go.Proofs.Ytfafecgnjjkagaa
open Go Go.RowKit Go.Mem Go.NetP Go.RestP Go.CertP Go.PathP Go.Shelf

attribute [local go_sem] Oper.semAt_some
/-- A round's two ways out, under one name. -/
def OutA (J Jx : List Ar → World → Prop) (N : Nat) (S : Nat → Prop) (p : List Ar) (W : World) (b : Bool) (W' : World) : Prop := (b = true ∧ J p W' ∧ KeepT 39 N S W W') ∨ (b = false ∧ Jx p W')

set_option maxRecDepth 100000 in
set_option maxHeartbeats 6000000 in
theorem arcs1_in (F : Fence) (n : Nat) (hf : F.fn 33) (hdep : F.depth = none) (hro : F.round = none) (hn : 1 ≤ n) (l N : Nat) (S : Nat → Prop) (Bn Bp Bf : Nat) (nn : Int) (a1 a2 a3 : Option Addr) (c1 c2 c3 : Nat) (es : List Ed) (fl pot : List Int) (hw : withinB nn es fl = true) (hp : potB nn pot = true)
    (hBn : Bn < N) (hSn : ¬ S Bn) (hBp : Bp < N) (hSp : ¬ S Bp) (hBf : Bf < N) (hSf : ¬ S Bf) (J Jx : List Ar → World → Prop) (W : World) (hN : N ≤ W.heap.size)
    (hJa : ∀ pre W1 (o : Obj), W.heap.size ≤ W1.heap.size → J pre W1 → J pre (W1.alloc o)) (hJd : ∀ pre W1, J pre W1 → J pre W1.drew)
    (hY : ∀ pre x W1, x ∈ arcsL es fl pot → J pre W1 → pre.length < 2 * es.length → YieldAt F (n - 1) Try.prog l (encA x) W1 fun e W' =>
      (e = .returned (.bool true) ∧ J (pre ++ [x]) W' ∧ KeepT 39 N S W1 W') ∨ (e = .returned (.bool false) ∧ Jx (pre ++ [x]) W'))
    (cn : ∀ j, W.cell? ⟨Bn, j, none⟩ = #[Value.int .i64 nn, .slice a1 es.length c1][j]?) (cf : W.cell? ⟨Bf, 0, none⟩ = some (.slice a2 fl.length c2)) (cp : W.cell? ⟨Bp, 0, none⟩ = some (.slice a3 pot.length c3))
    (ce : ∀ (i : Nat) (hi : i < es.length), ∃ b o, a1 = some ⟨b, o, none⟩ ∧ b < N ∧ ¬ S b ∧ ∀ (j : Nat), j < 4 → W.cell? ⟨b, o + i * 4 + j, none⟩ = (edR.cells es[i])[j]?) (cx : ∀ i, i < fl.length → ∃ b o, a2 = some ⟨b, o, none⟩ ∧ b < N ∧ ¬ S b ∧ W.cell? ⟨b, o + i, none⟩ = some (.int .i64 (fl.getD i 0)))
    (cq : ∀ i, i < pot.length → ∃ b o, a3 = some ⟨b, o, none⟩ ∧ b < N ∧ ¬ S b ∧ W.cell? ⟨b, o + i, none⟩ = some (.int .i64 (pot.getD i 0))) (h0 : J [] W) :
    CallsIn F n Try.prog 33 #[.func (.yield l) #[] #[], .pointer (some ⟨Bn, 0, none⟩), .pointer (some ⟨Bp, 0, none⟩), .pointer (some ⟨Bf, 0, none⟩)] W fun e W' => (∃ v, e = .returned v) ∧
      (J (arcsL es fl pot) W' ∨ ∃ p, Jx p W') := by
  refine callsIn_of_wp Try.func33 rfl hf ?_ hro
  simp only [Try.ntmps33, List.size_toArray, List.length_cons, List.length_nil, Nat.reduceAdd, Nat.reduceSub, Array.replicate_succ, Array.replicate_zero, List.push_toArray, List.append_toArray, List.nil_append, List.cons_append]
  have n1 := cn 1
  simp only [List.getElem?_toArray, List.getElem?_cons_zero, List.getElem?_cons_succ] at n1
  have hrt := (within_cap hw).2.1
  have hsm : es.length ≤ 200 := (right_cap hrt).2.2.1
  have CE := Lib.hid ce
  have CX := Lib.hid cx
  have CQ := Lib.hid cq
  have HY := Lib.hid hY
  have HL := Lib.hid (within_cap hw).1
  have HW := Lib.hid hw
  have HP := Lib.hid hp
  have HRT := Lib.hid hrt
  have HJA := Lib.hid hJa
  have HJD := Lib.hid hJd
  have H0 := Lib.hid h0
  have HCF := Lib.hid cf
  have HCP := Lib.hid cp
  clear ce cx cq hY cn hJa hJd h0 hw hp hrt cf cp
  gi_wp2
  gi_loopw [11] (fun i wr => ∃ k : Nat, k ≤ es.length ∧ i = .int .i64 k ∧ J (arcsN es fl pot (2 * k)) wr ∧ KeepT 39 N S W wr) (fun i _ => es.length - (intOf i).toNat)
  case atStart => exact ⟨0, Nat.zero_le _, rfl, H0.out, KeepT.refl _ _ _ _⟩
  case round =>
    obtain ⟨k, hk, rfl, hJs, hkx⟩ := hrel
    have HK := Lib.hid hkx
    have HJ := Lib.hid hJs
    clear hJs hkx n1
    by_cases hlt : k < es.length
    · have hlf : k < fl.length := by rw [HL.out]; exact hlt
      have hed := (edgeB_iff _ _).1 ((right_cap HRT.out).2.2.2.2 _ (List.getElem_mem hlt))
      have hlb := len_bound HRT.out HP.out (show 2 * k < 2 * es.length by omega)
      have hcap := within_at HW.out hlt
      have hpc := pot_cap HP.out
      obtain ⟨b1, o1, rfl, hb1, hS1, ce⟩ := CE.out k hlt
      obtain ⟨b2, o2, rfl, hb2, hS2, cx⟩ := CX.out k hlf
      have HEV := Lib.hid (arcs_even es fl pot k)
      have HOD := Lib.hid (arcs_odd es fl pot k)
      have HLE := Lib.hid (len_even es pot k)
      rw [edAt_of hlt] at HEV HOD HLE
      have hpf := hpc.2 (es[k].f.toNat)
      have hpt := hpc.2 (es[k].t.toNat)
      have hpl := hpc.1
      obtain ⟨e, hee⟩ : ∃ e, e = es[k] := ⟨_, rfl⟩
      obtain ⟨x, hx⟩ : ∃ x, x = fl.getD k 0 := ⟨_, rfl⟩
      rw [← hee] at hed hcap ce HEV HOD HLE hpf hpt
      rw [← hx] at hcap cx HEV HOD
      clear hee hx hpc
      obtain ⟨ef, et, ec, ek⟩ := e
      dsimp only at hed hcap HEV HOD HLE hpf hpt
      obtain ⟨⟨f0, f1⟩, ⟨t0, t1⟩, c0, c1', k0, k1⟩ := hed
      obtain ⟨P, rfl⟩ : ∃ P : Nat, ef = P := ⟨ef.toNat, by omega⟩
      obtain ⟨T, rfl⟩ : ∃ T : Nat, et = T := ⟨et.toNat, by omega⟩
      unfold potAt at HLE
      simp only [Int.toNat_natCast] at HEV HOD HLE hpf hpt
      obtain ⟨b3, o3, rfl, hb3, hS3, cqf⟩ := CQ.out P (by omega)
      obtain ⟨b4, o4, e4, hb4, hS4, cqt⟩ := CQ.out T (by omega)
      injection e4 with e4
      injection e4 with q1 q2
      subst q1; subst q2
      obtain ⟨pf, hpf'⟩ : ∃ x, x = pot.getD P 0 := ⟨_, rfl⟩
      obtain ⟨pt, hpt'⟩ : ∃ x, x = pot.getD T 0 := ⟨_, rfl⟩
      rw [← hpf'] at cqf hpf HLE
      rw [← hpt'] at cqt hpt HLE
      have e0 := (HK.out.cell hb1 hS1).trans (ce 0 (by decide))
      have e1 := (HK.out.cell hb1 hS1).trans (ce 1 (by decide))
      have e2 := (HK.out.cell hb1 hS1).trans (ce 2 (by decide))
      have e3 := (HK.out.cell hb1 hS1).trans (ce 3 (by decide))
      simp only [edR, Nat.add_zero, List.getElem?_cons_zero, List.getElem?_cons_succ] at e0 e1 e2 e3
      clear hpf' hpt' ce
      obtain ⟨W1, hW1⟩ : ∃ W1, W1 = (wr.alloc (.cells #[.int .i64 P, .int .i64 T, .int .i64 ec, .int .i64 ek] 39)) := ⟨_, rfl⟩
      have hkA : KeepT 39 N S W W1 := by rw [hW1]; exact HK.out.trans (KeepT.alloc (Nat.le_trans hN HK.out.1.1) _)
      have hJA : J (arcsN es fl pot (2 * k)) W1 := by rw [hW1]; exact HJA.out _ _ _ HK.out.1.1 HJ.out
      have hbk : W1.heap[wr.heap.size]? = some (.cells #[.int .i64 P, .int .i64 T, .int .i64 ec, .int .i64 ek] 39 (0, 0)) := by rw [hW1]; exact heap_alloc_new wr _
      obtain ⟨BX, hBX⟩ : ∃ BX, BX = wr.heap.size := ⟨_, rfl⟩
      have hBXN : N ≤ BX := by rw [hBX]; exact Nat.le_trans hN HK.out.1.1
      gi_wp2_with fail
      rw [← hW1]
      rw [← hBX] at hbk ⊢
      clear hW1 hBX e0 e1 e2 e3
      have y0 := cell_of hbk 0
      have y1 := cell_of hbk 1
      have y2 := cell_of hbk 2
      have y3 := cell_of hbk 3
      simp only [List.getElem?_toArray, List.getElem?_cons_zero, List.getElem?_cons_succ] at y0 y1 y2 y3
      have z0 := (hkA.cell (o := 0) hBp hSp).trans HCP.out
      have z1 := (hkA.cell hb3 hS3).trans cqf
      have z2 := (hkA.cell hb3 hS3).trans cqt
      have z3 := (hkA.cell (o := 0) hBf hSf).trans HCF.out
      have z4 := (hkA.cell hb2 hS2).trans cx
      refine MixI.region hdep [0, 0, 0, 0, 0, 0, 0, 0, 0, 0, 0, 0, 0, 0, 0] (fun _ => True) (by kernel_rfl) (by kernel_rfl) trivial ?_
      simp only [List.zip_cons_cons, List.zip_nil_right]
      iterate 15 (refine MixI.step0 fun K hK => ?_; go_simp; (try (go_bits; try go_simp)); first | ((with_reducible refine hK _ _ ?_); clear hK K) | ((try (simp only [IntWalk.iteOmega]; try go_simp)); (try go_bits); (with_reducible refine hK _ _ ?_); clear hK K))
      refine MixI.done ?_
      have hL' : lenA es pot (2 * k) = ek + pf - pt := HLE.out
      rw [hL'] at HEV HOD hlb
      clear hL' HLE
      have hkB := hkA.drew
      have hJB := HJD.out _ _ hJA
      have HKB := Lib.hid hkB
      have HLX := Lib.hid (show BX < W1.heap.size ∧ N ≤ BX ∧ W1.heap[BX]? = some (.cells #[.int .i64 P, .int .i64 T, .int .i64 ec, .int .i64 ek] 39 (0, 0)) from ⟨(Array.getElem?_eq_some_iff.1 hbk).1, hBXN, hbk⟩)
      clear hkB hkA hbk hJA
      gi_wp2_with fail
      by_cases h1 : x < ec
      · have d1 : decide (x < ec) = true := decide_eq_true h1
        rw [if_pos h1] at HEV
        obtain ⟨fn, tmps, assign, body, hy, hR⟩ := HY.out _ ⟨2 * k, P, T, ek + pf - pt⟩ _ (arcsN_sub (m := 2 * k + 1) (by omega) (by rw [HEV.out]; exact List.mem_append_right _ (List.mem_singleton.2 rfl))) (HJD.out _ _ hJB) (by have := arcsN_le es fl pot (2 * k); omega)
        have hR' := hR.mono (R' := fun en W' => ∃ b, en = .returned (.bool b) ∧ OutA J Jx N S (arcsN es fl pot (2 * k) ++ [⟨2 * k, P, T, ek + pf - pt⟩]) W1.drew.drew b W')
          (fun en W' h => by
            rcases h with ⟨h1, h2, h3⟩ | ⟨h1, h2⟩
            · exact ⟨true, h1, .inl ⟨rfl, h2, h3⟩⟩
            · exact ⟨false, h1, .inr ⟨rfl, h2⟩⟩)
        dsimp only [encA] at hy
        rw [show ((2 * k : Nat) : Int) = 2 * (k : Int) by omega] at hy
        have HR' := Lib.hid hR'
        clear hR hR'
        clear hJB h1
        refine MixI.region hdep [0, 0, 0, 0, 0, 0, 0, 0, 0, 0, 0, 0, 0, 0, 0, 0, 0, 2, 0, 0] (fun _ => True) (by kernel_rfl) (by kernel_rfl) trivial ?_
        simp only [List.zip_cons_cons, List.zip_nil_right]
        iterate 8 (refine MixI.step0 fun K hK => ?_; go_simp; (try (go_bits; try go_simp)); first | ((with_reducible refine hK _ _ ?_); clear hK K) | ((try (simp only [IntWalk.iteOmega]; try go_simp)); (try go_bits); (with_reducible refine hK _ _ ?_); clear hK K))
        iterate 9 (first | (refine MixI.stepS rfl fun K hK => ?_; go_simp; (with_reducible refine hK _ _ ?_); clear hK K) | (refine MixI.step0 fun K hK => ?_; go_simp; (try (go_bits; try go_simp)); first | ((with_reducible refine hK _ _ ?_); clear hK K) | ((try (simp only [IntWalk.iteOmega]; try go_simp)); (try go_bits); (with_reducible refine hK _ _ ?_); clear hK K)))
        refine MixI.step2n (by first | rfl | simp [Region.wanted, yielded]) fun K hK => ?_
        gi_wp2_with fail
        refine HR'.out.mono ?_
        rintro en W3 ⟨b, rfl, h3⟩
        gi_wp2_with fail
        refine MixI.post_mk (C := (fun _ => True)) trivial (hK _ _ ?_)
        clear hK K
        iterate 1 (first | (refine MixI.stepS rfl fun K hK => ?_; go_simp; (with_reducible refine hK _ _ ?_); clear hK K) | (refine MixI.step0 fun K hK => ?_; go_simp; (try (go_bits; try go_simp)); first | ((with_reducible refine hK _ _ ?_); clear hK K) | ((try (simp only [IntWalk.iteOmega]; try go_simp)); (try go_bits); (with_reducible refine hK _ _ ?_); clear hK K)))
        iterate 1 (refine MixI.step0 fun K hK => ?_; go_simp; (try (go_bits; try go_simp)); first | ((with_reducible refine hK _ _ ?_); clear hK K) | ((try (simp only [IntWalk.iteOmega]; try go_simp)); (try go_bits); (with_reducible refine hK _ _ ?_); clear hK K))
        refine MixI.done ?_
        clear HR' hy y0 y1 y2 y3 z0 z1 z2 z3 z4
        rcases h3 with ⟨rfl, hJ3, hk3⟩ | ⟨rfl, hJx3⟩
        rotate_left
        · gi_wp2
          repeat (refine ⟨fun f h => (by cases h), ?_⟩; gi_wp2)
          (repeat rw [Exit.noGoto_ret]); refine bodyPost_ret (results_none rfl _ _ _) rfl ?_
          exact ⟨⟨_, rfl⟩, .inr ⟨_, hJx3⟩⟩
        rw [← HEV.out] at hJ3
        have HKX := Lib.hid (HKB.out.drew.trans hk3)
        have hbx := (hk3.2 _ _ _ HLX.out.2.2)
        (try clear hk3 hx3)
        have y0 := cell_of hbx 0
        have y1 := cell_of hbx 1
        simp only [List.getElem?_toArray, List.getElem?_cons_zero, List.getElem?_cons_succ] at y0 y1
        have z3 := (HKX.out.cell (o := 0) hBf hSf).trans HCF.out
        have z4 := (HKX.out.cell hb2 hS2).trans cx
        have HJ3 := Lib.hid hJ3
        clear hJ3 hbx
        by_cases h2 : 0 < x
        · have d2 : decide (0 < x) = true := decide_eq_true h2
          rw [if_pos h2] at HOD
          obtain ⟨fn, tmps, assign, body, hy, hR⟩ := HY.out _ ⟨2 * k + 1, T, P, -(ek + pf - pt)⟩ _ (arcsN_sub (m := 2 * (k + 1)) (by omega) (by rw [HOD.out]; exact List.mem_append_right _ (List.mem_singleton.2 rfl))) HJ3.out (by have := arcsN_le es fl pot (2 * k + 1); omega)
          have hR' := hR.mono (R' := fun en W' => ∃ b, en = .returned (.bool b) ∧ OutA J Jx N S (arcsN es fl pot (2 * k + 1) ++ [⟨2 * k + 1, T, P, -(ek + pf - pt)⟩]) W3 b W')
            (fun en W' h => by
              rcases h with ⟨h1, h2, h3⟩ | ⟨h1, h2⟩
              · exact ⟨true, h1, .inl ⟨rfl, h2, h3⟩⟩
              · exact ⟨false, h1, .inr ⟨rfl, h2⟩⟩)
          dsimp only [encA] at hy
          rw [show ((2 * k + 1 : Nat) : Int) = 2 * (k : Int) + 1 by omega] at hy
          have HR' := Lib.hid hR'
          clear hR hR'
          clear h2
          gi_wp2_with fail
          refine HR'.out.mono ?_
          rintro en W4 ⟨b, rfl, h4⟩
          clear HR' hy y0 y1 z3 z4
          rcases h4 with ⟨rfl, hJ4, hk4⟩ | ⟨rfl, hJx4⟩
          · rw [← HOD.out] at hJ4
            gi_wp2
            go_roundw
            case rel => exact ⟨k + 1, hlt, by go_num, hJ4, HKX.out.trans hk4⟩
            case measure => simp [intOf]; omega
          · gi_wp2
            repeat (refine ⟨fun f h => (by cases h), ?_⟩; gi_wp2)
            (repeat rw [Exit.noGoto_ret]); refine bodyPost_ret (results_none rfl _ _ _) rfl ?_
            exact ⟨⟨_, rfl⟩, .inr ⟨_, hJx4⟩⟩
        · have d2 : decide (0 < x) = false := decide_eq_false h2
          rw [if_neg h2, List.append_nil] at HOD
          have hJ4 := HJ3.out
          rw [← HOD.out] at hJ4
          clear h2
          gi_wp2
          repeat (refine ⟨fun f h => (by cases h), ?_⟩; gi_wp2)
          go_roundw
          case rel => exact ⟨k + 1, hlt, by go_num, hJ4, HKX.out⟩
          case measure => simp [intOf]; omega
      · have d1 : decide (x < ec) = false := decide_eq_false h1
        rw [if_neg h1, List.append_nil] at HEV
        have hJ3 := HJD.out _ _ hJB
        rw [← HEV.out] at hJ3
        clear hJB h1
        refine MixI.region hdep [0, 0, 0, 0, 0, 0, 0, 0, 0, 0, 0, 0, 0, 0, 0, 0, 0, 2, 0, 0] (fun _ => True) (by kernel_rfl) (by kernel_rfl) trivial ?_
        simp only [List.zip_cons_cons, List.zip_nil_right]
        iterate 8 (refine MixI.step0 fun K hK => ?_; go_simp; (try (go_bits; try go_simp)); first | ((with_reducible refine hK _ _ ?_); clear hK K) | ((try (simp only [IntWalk.iteOmega]; try go_simp)); (try go_bits); (with_reducible refine hK _ _ ?_); clear hK K))
        iterate 9 (first | (refine MixI.stepS rfl fun K hK => ?_; go_simp; (with_reducible refine hK _ _ ?_); clear hK K) | (refine MixI.step0 fun K hK => ?_; go_simp; (try (go_bits; try go_simp)); first | ((with_reducible refine hK _ _ ?_); clear hK K) | ((try (simp only [IntWalk.iteOmega]; try go_simp)); (try go_bits); (with_reducible refine hK _ _ ?_); clear hK K)))
        refine MixI.stepS (by first | rfl | simp [Region.wanted, yielded]) fun K hK => ⟨fun W f h => (by first | (cases h; done) | (exact absurd h (by simp [Oper.about, resolve, undef, go_sem, stuck]))), hK _ _ ?_⟩; clear hK K; (try go_simp)
        iterate 1 (first | (refine MixI.stepS rfl fun K hK => ?_; go_simp; (with_reducible refine hK _ _ ?_); clear hK K) | (refine MixI.step0 fun K hK => ?_; go_simp; (try (go_bits; try go_simp)); first | ((with_reducible refine hK _ _ ?_); clear hK K) | ((try (simp only [IntWalk.iteOmega]; try go_simp)); (try go_bits); (with_reducible refine hK _ _ ?_); clear hK K)))
        iterate 1 (refine MixI.step0 fun K hK => ?_; go_simp; (try (go_bits; try go_simp)); first | ((with_reducible refine hK _ _ ?_); clear hK K) | ((try (simp only [IntWalk.iteOmega]; try go_simp)); (try go_bits); (with_reducible refine hK _ _ ?_); clear hK K))
        refine MixI.done ?_
        clear y0 y1 y2 y3 z0 z1 z2 z3 z4
        obtain ⟨W3, hW3⟩ : ∃ W3, W3 = W1.drew.drew := ⟨_, rfl⟩
        rw [← hW3] at hJ3 ⊢
        have hk3 : KeepT 39 N S W W3 := by rw [hW3]; exact HKB.out.drew
        have hx3 : W3.heap[BX]? = some (.cells #[.int .i64 P, .int .i64 T, .int .i64 ec, .int .i64 ek] 39 (0, 0)) := by rw [hW3]; exact HLX.out.2.2
        clear hW3
        have HKX := Lib.hid hk3
        have hbx := hx3
        (try clear hk3 hx3)
        have y0 := cell_of hbx 0
        have y1 := cell_of hbx 1
        simp only [List.getElem?_toArray, List.getElem?_cons_zero, List.getElem?_cons_succ] at y0 y1
        have z3 := (HKX.out.cell (o := 0) hBf hSf).trans HCF.out
        have z4 := (HKX.out.cell hb2 hS2).trans cx
        have HJ3 := Lib.hid hJ3
        clear hJ3 hbx
        by_cases h2 : 0 < x
        · have d2 : decide (0 < x) = true := decide_eq_true h2
          rw [if_pos h2] at HOD
          obtain ⟨fn, tmps, assign, body, hy, hR⟩ := HY.out _ ⟨2 * k + 1, T, P, -(ek + pf - pt)⟩ _ (arcsN_sub (m := 2 * (k + 1)) (by omega) (by rw [HOD.out]; exact List.mem_append_right _ (List.mem_singleton.2 rfl))) HJ3.out (by have := arcsN_le es fl pot (2 * k + 1); omega)
          have hR' := hR.mono (R' := fun en W' => ∃ b, en = .returned (.bool b) ∧ OutA J Jx N S (arcsN es fl pot (2 * k + 1) ++ [⟨2 * k + 1, T, P, -(ek + pf - pt)⟩]) W3 b W')
            (fun en W' h => by
              rcases h with ⟨h1, h2, h3⟩ | ⟨h1, h2⟩
              · exact ⟨true, h1, .inl ⟨rfl, h2, h3⟩⟩
              · exact ⟨false, h1, .inr ⟨rfl, h2⟩⟩)
          dsimp only [encA] at hy
          rw [show ((2 * k + 1 : Nat) : Int) = 2 * (k : Int) + 1 by omega] at hy
          have HR' := Lib.hid hR'
          clear hR hR'
          clear h2
          gi_wp2_with fail
          refine HR'.out.mono ?_
          rintro en W4 ⟨b, rfl, h4⟩
          clear HR' hy y0 y1 z3 z4
          rcases h4 with ⟨rfl, hJ4, hk4⟩ | ⟨rfl, hJx4⟩
          · rw [← HOD.out] at hJ4
            gi_wp2
            go_roundw
            case rel => exact ⟨k + 1, hlt, by go_num, hJ4, HKX.out.trans hk4⟩
            case measure => simp [intOf]; omega
          · gi_wp2
            repeat (refine ⟨fun f h => (by cases h), ?_⟩; gi_wp2)
            (repeat rw [Exit.noGoto_ret]); refine bodyPost_ret (results_none rfl _ _ _) rfl ?_
            exact ⟨⟨_, rfl⟩, .inr ⟨_, hJx4⟩⟩
        · have d2 : decide (0 < x) = false := decide_eq_false h2
          rw [if_neg h2, List.append_nil] at HOD
          have hJ4 := HJ3.out
          rw [← HOD.out] at hJ4
          clear h2
          gi_wp2
          repeat (refine ⟨fun f h => (by cases h), ?_⟩; gi_wp2)
          go_roundw
          case rel => exact ⟨k + 1, hlt, by go_num, hJ4, HKX.out⟩
          case measure => simp [intOf]; omega
    · obtain rfl : k = es.length := by omega
      gi_wp2
      go_end0
      exact ⟨⟨_, rfl⟩, .inl HJ.out⟩

/-- The arcs that come, as a contract. -/
theorem arcs_stops (F : Fence) (n : Nat) (hf : F.fn 33) (hdep : F.depth = none) (hro : F.round = none) (hn : 1 ≤ n) (N : Nat) (S : Nat → Prop) (Bn Bp Bf : Nat) (nn : Int) (a1 a2 a3 : Option Addr) (c1 c2 c3 : Nat) (es : List Ed) (fl pot : List Int) (hwi : withinB nn es fl = true) (hp : potB nn pot = true)
    (hBn : Bn < N) (hSn : ¬ S Bn) (hBp : Bp < N) (hSp : ¬ S Bp) (hBf : Bf < N) (hSf : ¬ S Bf) (w : World) (hN : N ≤ w.heap.size)
    (cn : ∀ j, w.cell? ⟨Bn, j, none⟩ = #[Value.int .i64 nn, .slice a1 es.length c1][j]?) (cf : w.cell? ⟨Bf, 0, none⟩ = some (.slice a2 fl.length c2)) (cp : w.cell? ⟨Bp, 0, none⟩ = some (.slice a3 pot.length c3))
    (ce : ∀ (i : Nat) (hi : i < es.length), ∃ b o, a1 = some ⟨b, o, none⟩ ∧ b < N ∧ ¬ S b ∧ ∀ (j : Nat), j < 4 → w.cell? ⟨b, o + i * 4 + j, none⟩ = (edR.cells es[i])[j]?) (cx : ∀ i, i < fl.length → ∃ b o, a2 = some ⟨b, o, none⟩ ∧ b < N ∧ ¬ S b ∧ w.cell? ⟨b, o + i, none⟩ = some (.int .i64 (fl.getD i 0)))
    (cq : ∀ i, i < pot.length → ∃ b o, a3 = some ⟨b, o, none⟩ ∧ b < N ∧ ¬ S b ∧ w.cell? ⟨b, o + i, none⟩ = some (.int .i64 (pot.getD i 0))) :
    SeqStopsK F n Try.prog 33 #[.pointer (some ⟨Bn, 0, none⟩), .pointer (some ⟨Bp, 0, none⟩), .pointer (some ⟨Bf, 0, none⟩)] (fun x : { x // x ∈ arcsL es fl pot } => encA x.1) (KeepT 39 N S) (fun xs => xs.map Subtype.val = arcsL es fl pot) (fun _ => True) (2 * es.length) w := fun l J Jx W hW hJ hJx hY h0 => by
  have hlt : ∀ b, b < N → b < w.heap.size := fun b hb => Nat.lt_of_lt_of_le hb hN
  have cell : ∀ b o, b < N → W.cell? ⟨b, o, none⟩ = w.cell? ⟨b, o, none⟩ := fun b o hb => hW.cell (p := ⟨b, o, none⟩) (hlt b hb)
  refine (arcs1_in F n hf hdep hro hn l N S Bn Bp Bf nn a1 a2 a3 c1 c2 c3 es fl pot hwi hp hBn hSn hBp hSp hBf hSf (fun pre W' => ∃ p : List { x // x ∈ arcsL es fl pot }, p.map Subtype.val = pre ∧ J p W' ∧ W.heap.size ≤ W'.heap.size) (fun pre W' => ∃ p : List { x // x ∈ arcsL es fl pot }, p.map Subtype.val = pre ∧ Jx p W') W (Nat.le_trans hN hW.size)
    (fun pre W1 o hs h => ?_) (fun pre W1 h => ?_) (fun pre x W1 hx h hlen => ?_) (fun j => (cell _ _ hBn).trans (cn j)) ((cell _ _ hBf).trans cf) ((cell _ _ hBp).trans cp) (fun i hi => by obtain ⟨b, o, e, hb, hs, h⟩ := ce i hi; exact ⟨b, o, e, hb, hs, fun j hj => (cell _ _ hb).trans (h j hj)⟩) (fun i hi => by obtain ⟨b, o, e, hb, hs, h⟩ := cx i hi; exact ⟨b, o, e, hb, hs, (cell _ _ hb).trans h⟩) (fun i hi => by obtain ⟨b, o, e, hb, hs, h⟩ := cq i hi; exact ⟨b, o, e, hb, hs, (cell _ _ hb).trans h⟩) ⟨[], rfl, h0, Nat.le_refl _⟩).mono ?_
  · obtain ⟨p, h1, h2, h3⟩ := h
    exact ⟨p, h1, hJ p _ _ none h2 (World.grownBy_alloc W1 o none) (fun r e => by cases e), by simp; omega⟩
  · obtain ⟨p, h1, h2, h3⟩ := h
    exact ⟨p, h1, hJ p _ _ none h2 ⟨rfl, rfl, rfl, Nat.le_refl _, fun _ _ _ => rfl⟩ (fun r e => by cases e), h3⟩
  · obtain ⟨p, h1, h2, h3⟩ := h
    have hy := hY p ⟨x, hx⟩ W1 h2 (by rw [← h1, List.length_map] at hlen; exact hlen)
    obtain ⟨fn, tmps, assign, body, hy1, hR⟩ := hy
    refine ⟨fn, tmps, assign, body, hy1, hR.mono (fun e W' h => ?_)⟩
    rcases h with ⟨a1, a2, a3⟩ | ⟨a1, a2⟩
    · exact .inl ⟨a1, ⟨p ++ [⟨x, hx⟩], by simp [h1], a2, Nat.le_trans h3 a3.1.1⟩, a3⟩
    · exact .inr ⟨a1, ⟨p ++ [⟨x, hx⟩], by simp [h1], a2⟩⟩
  · rintro e W' ⟨h1, h2⟩
    refine ⟨h1, ?_⟩
    rcases h2 with ⟨p, a1, a2, _⟩ | ⟨_, p, a1, a2⟩
    · exact .inl ⟨p, a1, a2⟩
    · exact .inr ⟨p, trivial, a2⟩

set_option maxRecDepth 100000 in
theorem arcs_calls (nn : Int) (a1 a2 a3 : Option Addr) (n1 n2 n3 c1 c2 c3 : Nat) (w : World) :
    Calls Try.prog 19 #[.agg #[.int .i64 nn, .slice a1 n1 c1], .slice a2 n2 c2, .slice a3 n3 c3] w fun e w' => e = .returned (.func (.func 33) #[] #[.pointer (some ⟨w.heap.size, 0, none⟩), .pointer (some ⟨w.heap.size + 2, 0, none⟩), .pointer (some ⟨w.heap.size + 1, 0, none⟩)]) ∧ w' = ((w.alloc (.cells #[.int .i64 nn, .slice a1 n1 c1] 24)).alloc (.cells #[.slice a2 n2 c2] 25)).alloc (.cells #[.slice a3 n3 c3] 25) := by
  go_enter Try.func19, Try.ntmps19
  go_wp2_with fail
  go_ret
  exact ⟨rfl, rfl⟩
end Go.Proofs.Ytfafecgnjjkagaa
