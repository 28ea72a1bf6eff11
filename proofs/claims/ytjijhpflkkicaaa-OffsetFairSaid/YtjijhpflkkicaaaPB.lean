/-
 Package paths: arcs, Fits, the finder, walked.
-/
import Derived.RangeFuncNested
import Derived.RangeFuncBound
import Derived.RangeFuncCalls
import Derived.RangeFuncLeaves
import Derived.Shelf.Abstract
import Derived.Shelf.RegionOpen
import Derived.WalkKit
import Derived.OwnWalkIn
import Derived.TacticsInMore
import Derived.LoopNIn
import Derived.LoopIn
import Derived.Stop.RegionWithIn
import Derived.Test.YtjijhpflkkicaaaLB
import Derived.Test.YtjijhpflkkicaaaLA
import Derived.Test.YtjijhpflkkicaaaNB
import Derived.Test.YtjijhpflkkicaaaPA
import Derived.Test.YtjijhpflkkicaaaHA
set_option linter.unusedVariables false
set_option linter.unusedSimpArgs false
namespace Go.PathP
open Go Go.RowKit Go.Mem Go.NetP Go.RestP Go.CertP
/-- An arc as it lies. -/
def arR : Rec Ar where
 m := 4
 cells a := [.int .i64 a.k, .int .i64 a.u, .int .i64 a.v, .int .i64 a.len]
 len _ := rfl
 one e u hu := by simp only [List.mem_cons, List.not_mem_nil, or_false] at hu; rcases hu with rfl | rfl | rfl | rfl <;> rfl
 pos := by decide
def encA (a : Ar) : Array Value := #[.agg #[.int .i64 a.k, .int .i64 a.u, .int .i64 a.v, .int .i64 a.len]]
theorem room_even (es : List Ed) (fl : List Int) (k : Nat) : roomE es fl (2 * k) = (edAt es k).c - fl.getD k 0 := by
 unfold roomE
 rw [if_neg (by unfold oddB; simp), show 2 * k / 2 = k by omega]
theorem room_odd (es : List Ed) (fl : List Int) (k : Nat) : roomE es fl (2 * k + 1) = fl.getD k 0 := by
 unfold roomE
 rw [if_pos (by unfold oddB; simp), show (2 * k + 1) / 2 = k by omega]
theorem arcs_even (es : List Ed) (fl pot : List Int) (k : Nat) : arcsN es fl pot (2 * k + 1) = arcsN es fl pot (2 * k) ++ if fl.getD k 0 < (edAt es k).c then [⟨2 * k, (edAt es k).f.toNat, (edAt es k).t.toNat, lenA es pot (2 * k)⟩] else [] := by
 rw [arcsN_succ]
 congr 1
 unfold hasRoom arcAt
 rw [room_even, ends_even2]
 by_cases h : fl.getD k 0 < (edAt es k).c
 ·rw [if_pos h, if_pos (by rw [decide_eq_true_eq]; omega)]
 ·rw [if_neg h, if_neg (by rw [decide_eq_true_eq]; omega)]
theorem arcs_odd (es : List Ed) (fl pot : List Int) (k : Nat) : arcsN es fl pot (2 * (k + 1)) = arcsN es fl pot (2 * k + 1) ++ if 0 < fl.getD k 0 then [⟨2 * k + 1, (edAt es k).t.toNat, (edAt es k).f.toNat, -lenA es pot (2 * k)⟩] else [] := by
 rw [show 2 * (k + 1) = 2 * k + 1 + 1 by omega, arcsN_succ]
 congr 1
 unfold hasRoom arcAt
 rw [room_odd, ends_odd2, len_odd]
 by_cases h : 0 < fl.getD k 0
 ·rw [if_pos h, if_pos (by rw [decide_eq_true_eq]; omega)]
 ·rw [if_neg h, if_neg (by rw [decide_eq_true_eq]; omega)]
theorem arcsN_le (es : List Ed) (fl pot : List Int) : ∀ m, (arcsN es fl pot m).length ≤ m
 | 0 => Nat.le_refl _
 | m + 1 => by
  have := arcsN_le es fl pot m
  rw [arcsN_succ, List.length_append]
  split <;> simp <;> omega
theorem arcsN_sub {es : List Ed} {fl pot : List Int} {m m' : Nat} (h : m ≤ m') {a : Ar} (ha : a ∈ arcsN es fl pot m) : a ∈ arcsN es fl pot m' := by
 obtain ⟨k, h1, h2, rfl⟩ := arcs_mem.1 ha
 exact arcs_mem.2 ⟨k, by omega, h2, rfl⟩
end Go.PathP
namespace Go.Proofs.Ytjijhpflkkicaaa
open Go Go.RowKit Go.Mem Go.NetP Go.RestP Go.CertP Go.PathP Go.Shelf

attribute [local go_sem] Oper.semAt_some
/-- A round's two ways out, under one name. -/
def OutA (J Jx : List Ar → World → Prop) (N : Nat) (S : Nat → Prop) (p : List Ar) (W : World) (b : Bool) (W' : World) : Prop := (b = true ∧ J p W' ∧ KeepT 77 N S W W') ∨ (b = false ∧ Jx p W')

set_option maxRecDepth 100000 in
set_option maxHeartbeats 6000000 in
theorem arcs1_in (F : Fence) (n : Nat) (hf : F.fn 91) (hdep : F.depth = none) (hro : F.round = none) (hn : 1 ≤ n) (l N : Nat) (S : Nat → Prop) (Bn Bp Bf : Nat) (nn : Int) (a1 a2 a3 : Option Addr) (c1 c2 c3 : Nat) (es : List Ed) (fl pot : List Int) (hw : withinB nn es fl = true) (hp : potB nn pot = true)
  (hBn : Bn < N) (hSn : ¬ S Bn) (hBp : Bp < N) (hSp : ¬ S Bp) (hBf : Bf < N) (hSf : ¬ S Bf) (J Jx : List Ar → World → Prop) (W : World) (hN : N ≤ W.heap.size)
  (hJa : ∀ pre W1 (o : Obj), W.heap.size ≤ W1.heap.size → J pre W1 → J pre (W1.alloc o)) (hJd : ∀ pre W1, J pre W1 → J pre W1.drew)
  (hY : ∀ pre x W1, x ∈ arcsL es fl pot → J pre W1 → pre.length < 2 * es.length → YieldAt F (n - 1) Try.prog l (encA x) W1 fun e W' =>
   (e = .returned (.bool true) ∧ J (pre ++ [x]) W' ∧ KeepT 77 N S W1 W') ∨ (e = .returned (.bool false) ∧ Jx (pre ++ [x]) W'))
  (cn : ∀ j, W.cell? ⟨Bn, j, none⟩ = #[Value.int .i64 nn, .slice a1 es.length c1][j]?) (cf : W.cell? ⟨Bf, 0, none⟩ = some (.slice a2 fl.length c2)) (cp : W.cell? ⟨Bp, 0, none⟩ = some (.slice a3 pot.length c3))
  (ce : ∀ (i : Nat) (hi : i < es.length), ∃ b o, a1 = some ⟨b, o, none⟩ ∧ b < N ∧ ¬ S b ∧ ∀ (j : Nat), j < 4 → W.cell? ⟨b, o + i * 4 + j, none⟩ = (edR.cells es[i])[j]?) (cx : ∀ i, i < fl.length → ∃ b o, a2 = some ⟨b, o, none⟩ ∧ b < N ∧ ¬ S b ∧ W.cell? ⟨b, o + i, none⟩ = some (.int .i64 (fl.getD i 0)))
  (cq : ∀ i, i < pot.length → ∃ b o, a3 = some ⟨b, o, none⟩ ∧ b < N ∧ ¬ S b ∧ W.cell? ⟨b, o + i, none⟩ = some (.int .i64 (pot.getD i 0))) (h0 : J [] W) :
  CallsIn F n Try.prog 91 #[.func (.yield l) #[] #[], .pointer (some ⟨Bn, 0, none⟩), .pointer (some ⟨Bp, 0, none⟩), .pointer (some ⟨Bf, 0, none⟩)] W fun e W' => (∃ v, e = .returned v) ∧
   (J (arcsL es fl pot) W' ∨ ∃ p, Jx p W') := by
 refine callsIn_of_wp Try.func91 rfl hf ?_ hro
 simp only [Try.ntmps91, List.size_toArray, List.length_cons, List.length_nil, Nat.reduceAdd, Nat.reduceSub, Array.replicate_succ, Array.replicate_zero, List.push_toArray, List.append_toArray, List.nil_append, List.cons_append]
 have n1 := cn 1
 simp only [List.getElem?_toArray, List.getElem?_cons_zero, List.getElem?_cons_succ] at n1
 have hrt := (within_cap hw).2.1
 have hsm : es.length ≤ 200 := (right_cap hrt).2.2.1
 have CE := Lib.hid ce
 have CX := Lib.hid cx
 have CQ := Lib.hid cq
 have HY := Lib.hid hY
 have HL := Lib.hid (within_cap hw).1
 have HW := Lib.hid hw
 have HP := Lib.hid hp
 have HRT := Lib.hid hrt
 have HJA := Lib.hid hJa
 have HJD := Lib.hid hJd
 have H0 := Lib.hid h0
 have HCF := Lib.hid cf
 have HCP := Lib.hid cp
 clear ce cx cq hY cn hJa hJd h0 hw hp hrt cf cp
 gi_wp2
 gi_loopw [11] (fun i wr => ∃ k : Nat, k ≤ es.length ∧ i = .int .i64 k ∧ J (arcsN es fl pot (2 * k)) wr ∧ KeepT 77 N S W wr) (fun i _ => es.length - (intOf i).toNat)
 case atStart => exact ⟨0, Nat.zero_le _, rfl, H0.out, KeepT.refl _ _ _ _⟩
 case round =>
  obtain ⟨k, hk, rfl, hJs, hkx⟩ := hrel
  have HK := Lib.hid hkx
  have HJ := Lib.hid hJs
  clear hJs hkx n1
  by_cases hlt : k < es.length
  ·have hlf : k < fl.length := by rw [HL.out]; exact hlt
   have hed := (edgeB_iff _ _).1 ((right_cap HRT.out).2.2.2.2 _ (List.getElem_mem hlt))
   have hlb := len_bound HRT.out HP.out (show 2 * k < 2 * es.length by omega)
   have hcap := within_at HW.out hlt
   have hpc := pot_cap HP.out
   obtain ⟨b1, o1, rfl, hb1, hS1, ce⟩ := CE.out k hlt
   obtain ⟨b2, o2, rfl, hb2, hS2, cx⟩ := CX.out k hlf
   have HEV := Lib.hid (arcs_even es fl pot k)
   have HOD := Lib.hid (arcs_odd es fl pot k)
   have HLE := Lib.hid (len_even es pot k)
   rw [edAt_of hlt] at HEV HOD HLE
   have hpf := hpc.2 (es[k].f.toNat)
   have hpt := hpc.2 (es[k].t.toNat)
   have hpl := hpc.1
   obtain ⟨e, hee⟩ : ∃ e, e = es[k] := ⟨_, rfl⟩
   obtain ⟨x, hx⟩ : ∃ x, x = fl.getD k 0 := ⟨_, rfl⟩
   rw [← hee] at hed hcap ce HEV HOD HLE hpf hpt
   rw [← hx] at hcap cx HEV HOD
   clear hee hx hpc
   obtain ⟨ef, et, ec, ek⟩ := e
   dsimp only at hed hcap HEV HOD HLE hpf hpt
   obtain ⟨⟨f0, f1⟩, ⟨t0, t1⟩, c0, c1', k0, k1⟩ := hed
   obtain ⟨P, rfl⟩ : ∃ P : Nat, ef = P := ⟨ef.toNat, by omega⟩
   obtain ⟨T, rfl⟩ : ∃ T : Nat, et = T := ⟨et.toNat, by omega⟩
   unfold potAt at HLE
   simp only [Int.toNat_natCast] at HEV HOD HLE hpf hpt
   obtain ⟨b3, o3, rfl, hb3, hS3, cqf⟩ := CQ.out P (by omega)
   obtain ⟨b4, o4, e4, hb4, hS4, cqt⟩ := CQ.out T (by omega)
   injection e4 with e4
   injection e4 with q1 q2
   subst q1; subst q2
   obtain ⟨pf, hpf'⟩ : ∃ x, x = pot.getD P 0 := ⟨_, rfl⟩
   obtain ⟨pt, hpt'⟩ : ∃ x, x = pot.getD T 0 := ⟨_, rfl⟩
   rw [← hpf'] at cqf hpf HLE
   rw [← hpt'] at cqt hpt HLE
   have e0 := (HK.out.cell hb1 hS1).trans (ce 0 (by decide))
   have e1 := (HK.out.cell hb1 hS1).trans (ce 1 (by decide))
   have e2 := (HK.out.cell hb1 hS1).trans (ce 2 (by decide))
   have e3 := (HK.out.cell hb1 hS1).trans (ce 3 (by decide))
   simp only [edR, Nat.add_zero, List.getElem?_cons_zero, List.getElem?_cons_succ] at e0 e1 e2 e3
   clear hpf' hpt' ce
   obtain ⟨W1, hW1⟩ : ∃ W1, W1 = (wr.alloc (.cells #[.int .i64 P, .int .i64 T, .int .i64 ec, .int .i64 ek] 77)) := ⟨_, rfl⟩
   have hkA : KeepT 77 N S W W1 := by rw [hW1]; exact HK.out.trans (KeepT.alloc (Nat.le_trans hN HK.out.1.1) _)
   have hJA : J (arcsN es fl pot (2 * k)) W1 := by rw [hW1]; exact HJA.out _ _ _ HK.out.1.1 HJ.out
   have hbk : W1.heap[wr.heap.size]? = some (.cells #[.int .i64 P, .int .i64 T, .int .i64 ec, .int .i64 ek] 77 (0, 0)) := by rw [hW1]; exact heap_alloc_new wr _
   obtain ⟨BX, hBX⟩ : ∃ BX, BX = wr.heap.size := ⟨_, rfl⟩
   have hBXN : N ≤ BX := by rw [hBX]; exact Nat.le_trans hN HK.out.1.1
   gi_wp2_with fail
   rw [← hW1]
   rw [← hBX] at hbk ⊢
   clear hW1 hBX e0 e1 e2 e3
   have y0 := cell_of hbk 0
   have y1 := cell_of hbk 1
   have y2 := cell_of hbk 2
   have y3 := cell_of hbk 3
   simp only [List.getElem?_toArray, List.getElem?_cons_zero, List.getElem?_cons_succ] at y0 y1 y2 y3
   have z0 := (hkA.cell (o := 0) hBp hSp).trans HCP.out
   have z1 := (hkA.cell hb3 hS3).trans cqf
   have z2 := (hkA.cell hb3 hS3).trans cqt
   have z3 := (hkA.cell (o := 0) hBf hSf).trans HCF.out
   have z4 := (hkA.cell hb2 hS2).trans cx
   refine MixI.region hdep [0, 0, 0, 0, 0, 0, 0, 0, 0, 0, 0, 0, 0, 0, 0] (fun _ => True) (by kernel_rfl) (by kernel_rfl) trivial ?_
   simp only [List.zip_cons_cons, List.zip_nil_right]
   iterate 15 (refine MixI.step0 fun K hK => ?_; go_simp; (try (go_bits; try go_simp)); first | ((with_reducible refine hK _ _ ?_); clear hK K) | ((try (simp only [IntWalk.iteOmega]; try go_simp)); (try go_bits); (with_reducible refine hK _ _ ?_); clear hK K))
   refine MixI.done ?_
   have hL' : lenA es pot (2 * k) = ek + pf - pt := HLE.out
   rw [hL'] at HEV HOD hlb
   clear hL' HLE
   have hkB := hkA.drew
   have hJB := HJD.out _ _ hJA
   have HKB := Lib.hid hkB
   have HLX := Lib.hid (show BX < W1.heap.size ∧ N ≤ BX ∧ W1.heap[BX]? = some (.cells #[.int .i64 P, .int .i64 T, .int .i64 ec, .int .i64 ek] 77 (0, 0)) from ⟨(Array.getElem?_eq_some_iff.1 hbk).1, hBXN, hbk⟩)
   clear hkB hkA hbk hJA
   gi_wp2_with fail
   by_cases h1 : x < ec
   ·have d1 : decide (x < ec) = true := decide_eq_true h1
    rw [if_pos h1] at HEV
    obtain ⟨fn, tmps, assign, body, hy, hR⟩ := HY.out _ ⟨2 * k, P, T, ek + pf - pt⟩ _ (arcsN_sub (m := 2 * k + 1) (by omega) (by rw [HEV.out]; exact List.mem_append_right _ (List.mem_singleton.2 rfl))) (HJD.out _ _ hJB) (by have := arcsN_le es fl pot (2 * k); omega)
    have hR' := hR.mono (R' := fun en W' => ∃ b, en = .returned (.bool b) ∧ OutA J Jx N S (arcsN es fl pot (2 * k) ++ [⟨2 * k, P, T, ek + pf - pt⟩]) W1.drew.drew b W')
     (fun en W' h => by
      rcases h with ⟨h1, h2, h3⟩ | ⟨h1, h2⟩
      ·exact ⟨true, h1, .inl ⟨rfl, h2, h3⟩⟩
      ·exact ⟨false, h1, .inr ⟨rfl, h2⟩⟩)
    dsimp only [encA] at hy
    rw [show ((2 * k : Nat) : Int) = 2 * (k : Int) by omega] at hy
    have HR' := Lib.hid hR'
    clear hR hR'
    clear hJB h1
    refine MixI.region hdep [0, 0, 0, 0, 0, 0, 0, 0, 0, 0, 0, 0, 0, 0, 0, 0, 0, 2, 0, 0] (fun _ => True) (by kernel_rfl) (by kernel_rfl) trivial ?_
    simp only [List.zip_cons_cons, List.zip_nil_right]
    iterate 8 (refine MixI.step0 fun K hK => ?_; go_simp; (try (go_bits; try go_simp)); first | ((with_reducible refine hK _ _ ?_); clear hK K) | ((try (simp only [IntWalk.iteOmega]; try go_simp)); (try go_bits); (with_reducible refine hK _ _ ?_); clear hK K))
    iterate 9 (first | (refine MixI.stepS rfl fun K hK => ?_; go_simp; (with_reducible refine hK _ _ ?_); clear hK K) | (refine MixI.step0 fun K hK => ?_; go_simp; (try (go_bits; try go_simp)); first | ((with_reducible refine hK _ _ ?_); clear hK K) | ((try (simp only [IntWalk.iteOmega]; try go_simp)); (try go_bits); (with_reducible refine hK _ _ ?_); clear hK K)))
    refine MixI.step2n (by first | rfl | simp [Region.wanted, yielded]) fun K hK => ?_
    gi_wp2_with fail
    refine HR'.out.mono ?_
    rintro en W3 ⟨b, rfl, h3⟩
    gi_wp2_with fail
    refine MixI.post_mk (C := (fun _ => True)) trivial (hK _ _ ?_)
    clear hK K
    iterate 1 (first | (refine MixI.stepS rfl fun K hK => ?_; go_simp; (with_reducible refine hK _ _ ?_); clear hK K) | (refine MixI.step0 fun K hK => ?_; go_simp; (try (go_bits; try go_simp)); first | ((with_reducible refine hK _ _ ?_); clear hK K) | ((try (simp only [IntWalk.iteOmega]; try go_simp)); (try go_bits); (with_reducible refine hK _ _ ?_); clear hK K)))
    iterate 1 (refine MixI.step0 fun K hK => ?_; go_simp; (try (go_bits; try go_simp)); first | ((with_reducible refine hK _ _ ?_); clear hK K) | ((try (simp only [IntWalk.iteOmega]; try go_simp)); (try go_bits); (with_reducible refine hK _ _ ?_); clear hK K))
    refine MixI.done ?_
    clear HR' hy y0 y1 y2 y3 z0 z1 z2 z3 z4
    rcases h3 with ⟨rfl, hJ3, hk3⟩ | ⟨rfl, hJx3⟩
    rotate_left
    ·gi_wp2
     repeat (refine ⟨fun f h => (by cases h), ?_⟩; gi_wp2)
     (repeat rw [Exit.noGoto_ret]); refine bodyPost_ret (results_none rfl _ _ _) rfl ?_
     exact ⟨⟨_, rfl⟩, .inr ⟨_, hJx3⟩⟩
    rw [← HEV.out] at hJ3
    have HKX := Lib.hid (HKB.out.drew.trans hk3)
    have hbx := (hk3.2 _ _ _ HLX.out.2.2)
    (try clear hk3 hx3)
    have y0 := cell_of hbx 0
    have y1 := cell_of hbx 1
    simp only [List.getElem?_toArray, List.getElem?_cons_zero, List.getElem?_cons_succ] at y0 y1
    have z3 := (HKX.out.cell (o := 0) hBf hSf).trans HCF.out
    have z4 := (HKX.out.cell hb2 hS2).trans cx
    have HJ3 := Lib.hid hJ3
    clear hJ3 hbx
    by_cases h2 : 0 < x
    ·have d2 : decide (0 < x) = true := decide_eq_true h2
     rw [if_pos h2] at HOD
     obtain ⟨fn, tmps, assign, body, hy, hR⟩ := HY.out _ ⟨2 * k + 1, T, P, -(ek + pf - pt)⟩ _ (arcsN_sub (m := 2 * (k + 1)) (by omega) (by rw [HOD.out]; exact List.mem_append_right _ (List.mem_singleton.2 rfl))) HJ3.out (by have := arcsN_le es fl pot (2 * k + 1); omega)
     have hR' := hR.mono (R' := fun en W' => ∃ b, en = .returned (.bool b) ∧ OutA J Jx N S (arcsN es fl pot (2 * k + 1) ++ [⟨2 * k + 1, T, P, -(ek + pf - pt)⟩]) W3 b W')
      (fun en W' h => by
       rcases h with ⟨h1, h2, h3⟩ | ⟨h1, h2⟩
       ·exact ⟨true, h1, .inl ⟨rfl, h2, h3⟩⟩
       ·exact ⟨false, h1, .inr ⟨rfl, h2⟩⟩)
     dsimp only [encA] at hy
     rw [show ((2 * k + 1 : Nat) : Int) = 2 * (k : Int) + 1 by omega] at hy
     have HR' := Lib.hid hR'
     clear hR hR'
     clear h2
     gi_wp2_with fail
     refine HR'.out.mono ?_
     rintro en W4 ⟨b, rfl, h4⟩
     clear HR' hy y0 y1 z3 z4
     rcases h4 with ⟨rfl, hJ4, hk4⟩ | ⟨rfl, hJx4⟩
     ·rw [← HOD.out] at hJ4
      gi_wp2
      go_roundw
      case rel => exact ⟨k + 1, hlt, by go_num, hJ4, HKX.out.trans hk4⟩
      case measure => simp [intOf]; omega
     ·gi_wp2
      repeat (refine ⟨fun f h => (by cases h), ?_⟩; gi_wp2)
      (repeat rw [Exit.noGoto_ret]); refine bodyPost_ret (results_none rfl _ _ _) rfl ?_
      exact ⟨⟨_, rfl⟩, .inr ⟨_, hJx4⟩⟩
    ·have d2 : decide (0 < x) = false := decide_eq_false h2
     rw [if_neg h2, List.append_nil] at HOD
     have hJ4 := HJ3.out
     rw [← HOD.out] at hJ4
     clear h2
     gi_wp2
     repeat (refine ⟨fun f h => (by cases h), ?_⟩; gi_wp2)
     go_roundw
     case rel => exact ⟨k + 1, hlt, by go_num, hJ4, HKX.out⟩
     case measure => simp [intOf]; omega
   ·have d1 : decide (x < ec) = false := decide_eq_false h1
    rw [if_neg h1, List.append_nil] at HEV
    have hJ3 := HJD.out _ _ hJB
    rw [← HEV.out] at hJ3
    clear hJB h1
    refine MixI.region hdep [0, 0, 0, 0, 0, 0, 0, 0, 0, 0, 0, 0, 0, 0, 0, 0, 0, 2, 0, 0] (fun _ => True) (by kernel_rfl) (by kernel_rfl) trivial ?_
    simp only [List.zip_cons_cons, List.zip_nil_right]
    iterate 8 (refine MixI.step0 fun K hK => ?_; go_simp; (try (go_bits; try go_simp)); first | ((with_reducible refine hK _ _ ?_); clear hK K) | ((try (simp only [IntWalk.iteOmega]; try go_simp)); (try go_bits); (with_reducible refine hK _ _ ?_); clear hK K))
    iterate 9 (first | (refine MixI.stepS rfl fun K hK => ?_; go_simp; (with_reducible refine hK _ _ ?_); clear hK K) | (refine MixI.step0 fun K hK => ?_; go_simp; (try (go_bits; try go_simp)); first | ((with_reducible refine hK _ _ ?_); clear hK K) | ((try (simp only [IntWalk.iteOmega]; try go_simp)); (try go_bits); (with_reducible refine hK _ _ ?_); clear hK K)))
    refine MixI.stepS (by first | rfl | simp [Region.wanted, yielded]) fun K hK => ⟨fun W f h => (by first | (cases h; done) | (exact absurd h (by simp [Oper.about, resolve, undef, go_sem, stuck]))), hK _ _ ?_⟩; clear hK K; (try go_simp)
    iterate 1 (first | (refine MixI.stepS rfl fun K hK => ?_; go_simp; (with_reducible refine hK _ _ ?_); clear hK K) | (refine MixI.step0 fun K hK => ?_; go_simp; (try (go_bits; try go_simp)); first | ((with_reducible refine hK _ _ ?_); clear hK K) | ((try (simp only [IntWalk.iteOmega]; try go_simp)); (try go_bits); (with_reducible refine hK _ _ ?_); clear hK K)))
    iterate 1 (refine MixI.step0 fun K hK => ?_; go_simp; (try (go_bits; try go_simp)); first | ((with_reducible refine hK _ _ ?_); clear hK K) | ((try (simp only [IntWalk.iteOmega]; try go_simp)); (try go_bits); (with_reducible refine hK _ _ ?_); clear hK K))
    refine MixI.done ?_
    clear y0 y1 y2 y3 z0 z1 z2 z3 z4
    obtain ⟨W3, hW3⟩ : ∃ W3, W3 = W1.drew.drew := ⟨_, rfl⟩
    rw [← hW3] at hJ3 ⊢
    have hk3 : KeepT 77 N S W W3 := by rw [hW3]; exact HKB.out.drew
    have hx3 : W3.heap[BX]? = some (.cells #[.int .i64 P, .int .i64 T, .int .i64 ec, .int .i64 ek] 77 (0, 0)) := by rw [hW3]; exact HLX.out.2.2
    clear hW3
    have HKX := Lib.hid hk3
    have hbx := hx3
    (try clear hk3 hx3)
    have y0 := cell_of hbx 0
    have y1 := cell_of hbx 1
    simp only [List.getElem?_toArray, List.getElem?_cons_zero, List.getElem?_cons_succ] at y0 y1
    have z3 := (HKX.out.cell (o := 0) hBf hSf).trans HCF.out
    have z4 := (HKX.out.cell hb2 hS2).trans cx
    have HJ3 := Lib.hid hJ3
    clear hJ3 hbx
    by_cases h2 : 0 < x
    ·have d2 : decide (0 < x) = true := decide_eq_true h2
     rw [if_pos h2] at HOD
     obtain ⟨fn, tmps, assign, body, hy, hR⟩ := HY.out _ ⟨2 * k + 1, T, P, -(ek + pf - pt)⟩ _ (arcsN_sub (m := 2 * (k + 1)) (by omega) (by rw [HOD.out]; exact List.mem_append_right _ (List.mem_singleton.2 rfl))) HJ3.out (by have := arcsN_le es fl pot (2 * k + 1); omega)
     have hR' := hR.mono (R' := fun en W' => ∃ b, en = .returned (.bool b) ∧ OutA J Jx N S (arcsN es fl pot (2 * k + 1) ++ [⟨2 * k + 1, T, P, -(ek + pf - pt)⟩]) W3 b W')
      (fun en W' h => by
       rcases h with ⟨h1, h2, h3⟩ | ⟨h1, h2⟩
       ·exact ⟨true, h1, .inl ⟨rfl, h2, h3⟩⟩
       ·exact ⟨false, h1, .inr ⟨rfl, h2⟩⟩)
     dsimp only [encA] at hy
     rw [show ((2 * k + 1 : Nat) : Int) = 2 * (k : Int) + 1 by omega] at hy
     have HR' := Lib.hid hR'
     clear hR hR'
     clear h2
     gi_wp2_with fail
     refine HR'.out.mono ?_
     rintro en W4 ⟨b, rfl, h4⟩
     clear HR' hy y0 y1 z3 z4
     rcases h4 with ⟨rfl, hJ4, hk4⟩ | ⟨rfl, hJx4⟩
     ·rw [← HOD.out] at hJ4
      gi_wp2
      go_roundw
      case rel => exact ⟨k + 1, hlt, by go_num, hJ4, HKX.out.trans hk4⟩
      case measure => simp [intOf]; omega
     ·gi_wp2
      repeat (refine ⟨fun f h => (by cases h), ?_⟩; gi_wp2)
      (repeat rw [Exit.noGoto_ret]); refine bodyPost_ret (results_none rfl _ _ _) rfl ?_
      exact ⟨⟨_, rfl⟩, .inr ⟨_, hJx4⟩⟩
    ·have d2 : decide (0 < x) = false := decide_eq_false h2
     rw [if_neg h2, List.append_nil] at HOD
     have hJ4 := HJ3.out
     rw [← HOD.out] at hJ4
     clear h2
     gi_wp2
     repeat (refine ⟨fun f h => (by cases h), ?_⟩; gi_wp2)
     go_roundw
     case rel => exact ⟨k + 1, hlt, by go_num, hJ4, HKX.out⟩
     case measure => simp [intOf]; omega
  ·obtain rfl : k = es.length := by omega
   gi_wp2
   go_end0
   exact ⟨⟨_, rfl⟩, .inl HJ.out⟩

/-- The arcs that come, as a contract. -/
theorem arcs_stops (F : Fence) (n : Nat) (hf : F.fn 91) (hdep : F.depth = none) (hro : F.round = none) (hn : 1 ≤ n) (N : Nat) (S : Nat → Prop) (Bn Bp Bf : Nat) (nn : Int) (a1 a2 a3 : Option Addr) (c1 c2 c3 : Nat) (es : List Ed) (fl pot : List Int) (hwi : withinB nn es fl = true) (hp : potB nn pot = true)
  (hBn : Bn < N) (hSn : ¬ S Bn) (hBp : Bp < N) (hSp : ¬ S Bp) (hBf : Bf < N) (hSf : ¬ S Bf) (w : World) (hN : N ≤ w.heap.size)
  (cn : ∀ j, w.cell? ⟨Bn, j, none⟩ = #[Value.int .i64 nn, .slice a1 es.length c1][j]?) (cf : w.cell? ⟨Bf, 0, none⟩ = some (.slice a2 fl.length c2)) (cp : w.cell? ⟨Bp, 0, none⟩ = some (.slice a3 pot.length c3))
  (ce : ∀ (i : Nat) (hi : i < es.length), ∃ b o, a1 = some ⟨b, o, none⟩ ∧ b < N ∧ ¬ S b ∧ ∀ (j : Nat), j < 4 → w.cell? ⟨b, o + i * 4 + j, none⟩ = (edR.cells es[i])[j]?) (cx : ∀ i, i < fl.length → ∃ b o, a2 = some ⟨b, o, none⟩ ∧ b < N ∧ ¬ S b ∧ w.cell? ⟨b, o + i, none⟩ = some (.int .i64 (fl.getD i 0)))
  (cq : ∀ i, i < pot.length → ∃ b o, a3 = some ⟨b, o, none⟩ ∧ b < N ∧ ¬ S b ∧ w.cell? ⟨b, o + i, none⟩ = some (.int .i64 (pot.getD i 0))) :
  SeqStopsK F n Try.prog 91 #[.pointer (some ⟨Bn, 0, none⟩), .pointer (some ⟨Bp, 0, none⟩), .pointer (some ⟨Bf, 0, none⟩)] (fun x : { x // x ∈ arcsL es fl pot } => encA x.1) (KeepT 77 N S) (fun xs => xs.map Subtype.val = arcsL es fl pot) (fun _ => True) (2 * es.length) w := fun l J Jx W hW hJ hJx hY h0 => by
 have hlt : ∀ b, b < N → b < w.heap.size := fun b hb => Nat.lt_of_lt_of_le hb hN
 have cell : ∀ b o, b < N → W.cell? ⟨b, o, none⟩ = w.cell? ⟨b, o, none⟩ := fun b o hb => hW.cell (p := ⟨b, o, none⟩) (hlt b hb)
 refine (arcs1_in F n hf hdep hro hn l N S Bn Bp Bf nn a1 a2 a3 c1 c2 c3 es fl pot hwi hp hBn hSn hBp hSp hBf hSf (fun pre W' => ∃ p : List { x // x ∈ arcsL es fl pot }, p.map Subtype.val = pre ∧ J p W' ∧ W.heap.size ≤ W'.heap.size) (fun pre W' => ∃ p : List { x // x ∈ arcsL es fl pot }, p.map Subtype.val = pre ∧ Jx p W') W (Nat.le_trans hN hW.size)
  (fun pre W1 o hs h => ?_) (fun pre W1 h => ?_) (fun pre x W1 hx h hlen => ?_) (fun j => (cell _ _ hBn).trans (cn j)) ((cell _ _ hBf).trans cf) ((cell _ _ hBp).trans cp) (fun i hi => by obtain ⟨b, o, e, hb, hs, h⟩ := ce i hi; exact ⟨b, o, e, hb, hs, fun j hj => (cell _ _ hb).trans (h j hj)⟩) (fun i hi => by obtain ⟨b, o, e, hb, hs, h⟩ := cx i hi; exact ⟨b, o, e, hb, hs, (cell _ _ hb).trans h⟩) (fun i hi => by obtain ⟨b, o, e, hb, hs, h⟩ := cq i hi; exact ⟨b, o, e, hb, hs, (cell _ _ hb).trans h⟩) ⟨[], rfl, h0, Nat.le_refl _⟩).mono ?_
 ·obtain ⟨p, h1, h2, h3⟩ := h
  exact ⟨p, h1, hJ p _ _ none h2 (World.grownBy_alloc W1 o none) (fun r e => by cases e), by simp; omega⟩
 ·obtain ⟨p, h1, h2, h3⟩ := h
  exact ⟨p, h1, hJ p _ _ none h2 ⟨rfl, rfl, rfl, Nat.le_refl _, fun _ _ _ => rfl⟩ (fun r e => by cases e), h3⟩
 ·obtain ⟨p, h1, h2, h3⟩ := h
  have hy := hY p ⟨x, hx⟩ W1 h2 (by rw [← h1, List.length_map] at hlen; exact hlen)
  obtain ⟨fn, tmps, assign, body, hy1, hR⟩ := hy
  refine ⟨fn, tmps, assign, body, hy1, hR.mono (fun e W' h => ?_)⟩
  rcases h with ⟨a1, a2, a3⟩ | ⟨a1, a2⟩
  ·exact .inl ⟨a1, ⟨p ++ [⟨x, hx⟩], by simp [h1], a2, Nat.le_trans h3 a3.1.1⟩, a3⟩
  ·exact .inr ⟨a1, ⟨p ++ [⟨x, hx⟩], by simp [h1], a2⟩⟩
 ·rintro e W' ⟨h1, h2⟩
  refine ⟨h1, ?_⟩
  rcases h2 with ⟨p, a1, a2, _⟩ | ⟨_, p, a1, a2⟩
  ·exact .inl ⟨p, a1, a2⟩
  ·exact .inr ⟨p, trivial, a2⟩

set_option maxRecDepth 100000 in
theorem arcs_calls (nn : Int) (a1 a2 a3 : Option Addr) (n1 n2 n3 c1 c2 c3 : Nat) (w : World) :
  Calls Try.prog 77 #[.agg #[.int .i64 nn, .slice a1 n1 c1], .slice a2 n2 c2, .slice a3 n3 c3] w fun e w' => e = .returned (.func (.func 91) #[] #[.pointer (some ⟨w.heap.size, 0, none⟩), .pointer (some ⟨w.heap.size + 2, 0, none⟩), .pointer (some ⟨w.heap.size + 1, 0, none⟩)]) ∧ w' = ((w.alloc (.cells #[.int .i64 nn, .slice a1 n1 c1] 48)).alloc (.cells #[.slice a2 n2 c2] 23)).alloc (.cells #[.slice a3 n3 c3] 23) := by
 go_enter Try.func77, Try.ntmps77
 go_wp2_with fail
 go_ret
 exact ⟨rfl, rfl⟩
end Go.Proofs.Ytjijhpflkkicaaa
namespace Go.PathP
open Go Go.RowKit Go.Mem Go.NetP Go.RestP Go.CertP
/-- What fits has no arc of a length below 0. -/
theorem tight_arcs {es : List Ed} {fl pot : List Int} : tightB es fl pot = true ↔ ∀ a ∈ arcsL es fl pot, 0 ≤ a.len := by
 constructor
 ·intro h a ha
  obtain ⟨k, h1, h2, rfl⟩ := arcs_mem.1 ha
  exact tight_at h h1 h2
 ·intro h
  unfold tightB
  rw [List.all_eq_true]
  intro k hk
  have hk := List.mem_range.1 hk
  unfold tightS
  by_cases hr : 0 < roomE es fl k
  ·have := h _ (arcs_mem.2 ⟨k, hk, hr, rfl⟩)
   unfold arcAt at this
   dsimp only at this
   simp; omega
  ·simp [hr]
/-- None of these has a length below 0. -/
def NonNeg {p : Ar → Prop} (pre : List { x // p x }) : Prop := ∀ x ∈ pre, 0 ≤ x.1.len
theorem NonNeg.nil {p : Ar → Prop} : NonNeg (p := p) [] := fun _ h => by simp at h
theorem NonNeg.snoc {p : Ar → Prop} {pre : List { x // p x }} {x : { x // p x }} (h : NonNeg pre) (hx : 0 ≤ x.1.len) : NonNeg (pre ++ [x]) := fun y hy => by
 rcases List.mem_append.1 hy with hy | hy
 ·exact h y hy
 ·simp at hy; subst hy; exact hx
end Go.PathP
namespace Go.Proofs.Ytjijhpflkkicaaa
open Go Go.RowKit Go.Mem Go.NetP Go.RestP Go.CertP Go.PathP Go.Shelf
attribute [local go_sem] Oper.semAt_some
set_option maxRecDepth 100000 in
set_option maxHeartbeats 4000000 in
theorem pfits_any (nn : Int) (a : Option Addr) (c : Nat) (es : List Ed) (vf vp : Value) (fl pot : List Int) (w : World) (h : RdG edR w (.slice a es.length c) es) (hf : Rd .i64 w vf fl) (hp : Rd .i64 w vp pot) :
  Calls Try.prog 76 #[.agg #[.int .i64 nn, .slice a es.length c], vf, vp] w fun en w' => en = .returned (.bool (fitsB nn es fl pot)) ∧ Below w.heap.size w w' := by
 have hlp := hp.le'
 obtain ⟨af, cf, rfl⟩ := hf.shape
 obtain ⟨ap, cp, rfl⟩ := hp.shape
 have hs0 := ((Sep.start w).newCells #[.int .i64 nn, .slice a es.length c] 48).newCells #[.bool false] 4
 simp only [World.size_alloc] at hs0
 have HW := Lib.hid (within_any nn a c es _ fl _ (hs0.rdG h) (hs0.rd hf))
 have n0 := cell_of (hs0.cells 1 rfl) 0
 have n1 := cell_of (hs0.cells 1 rfl) 1
 simp only [List.getElem?_toArray, List.getElem?_cons_zero, List.getElem?_cons_succ] at n0 n1
 refine (callsIn_wide (n := 6)).1 ?_
 refine callsIn_of_wp_marks Try.func76 rfl trivial ?_ rfl
 simp only [Try.ntmps76, List.size_toArray, List.length_cons, List.length_nil, Nat.reduceAdd, Nat.reduceSub, Array.replicate_succ, Array.replicate_zero, List.push_toArray, List.append_toArray, List.nil_append, List.cons_append]
 gi_wp2_with fail
 refine ⟨trivial, (callsIn_wide.2 HW.out).mono ?_⟩
 rintro en w2 ⟨rfl, hb⟩
 have hs := hs0.belowStep hb
 clear hs0 hb HW n0 n1
 obtain ⟨B, hB⟩ : ∃ B, B = w.heap.size := ⟨_, rfl⟩
 have HB := Lib.hid (show w.heap.size ≤ B ∧ B + 1 < w2.heap.size by rw [hB]; exact ⟨Nat.le_refl _, lt_of (hs.cells 0 rfl)⟩)
 rw [← hB] at hs ⊢
 clear hB
 have n0 := cell_of (hs.cells 1 rfl) 0
 have n1 := cell_of (hs.cells 1 rfl) 1
 simp only [List.getElem?_toArray, List.getElem?_cons_zero, List.getElem?_cons_succ] at n0 n1
 have r0 := cell_of (hs.cells 0 rfl) 0
 simp only [List.getElem?_toArray, List.getElem?_cons_zero, List.getElem?_cons_succ] at r0
 have rf := fun j => frozen_of (hs.cells 0 rfl) j
 cases hw : withinB nn es fl
 ·have H := Lib.hid (show fitsB nn es fl pot = false by simp [fitsB, hw])
  clear hw
  gi_wp2
  clear r0 rf n0 n1
  have hq := (hs.setCells 0 rfl 0 (.bool false) #[.bool false] rfl)
  have z0 := cell_of (hq.cells 0 rfl) 0
  simp only [List.set_cons_zero, List.getElem?_toArray, List.getElem?_cons_zero, List.getElem?_cons_succ] at z0
  exact ⟨.bool false, by simp [results, Try.results76, go_sem, z0], by rw [H.out], hq.below⟩
 by_cases hpl : (pot.length : Int) = nn
 rotate_left
 ·have H := Lib.hid (show fitsB nn es fl pot = false by simp [fitsB, potB, hpl])
  have e1 : ((pot.length : Int) != nn) = true := by simpa using hpl
  clear hw hpl
  gi_wp2
  clear r0 rf n0 n1
  have hq := (hs.setCells 0 rfl 0 (.bool false) #[.bool false] rfl)
  have z0 := cell_of (hq.cells 0 rfl) 0
  simp only [List.set_cons_zero, List.getElem?_toArray, List.getElem?_cons_zero, List.getElem?_cons_succ] at z0
  exact ⟨.bool false, by simp [results, Try.results76, go_sem, z0], by rw [H.out], hq.below⟩
 have e1 : ((pot.length : Int) != nn) = false := by simpa using hpl
 have HPL := Lib.hid hpl
 have HWI := Lib.hid hw
 have hsm : pot.length ≤ 40 := by have := (right_cap (within_cap hw).2.1).2.1; omega
 clear hw hpl
 gi_wp2
 clear e1 n0 n1 r0 rf
 gi_loopw [23] (fun i wr => ∃ k : Nat, k ≤ pot.length ∧ i = .int .i64 k ∧ (pot.take k).all farB = true ∧ Sep w wr [cellsT (B + 1) #[.bool false] 4, cellsT B #[.int .i64 nn, .slice a es.length c] 48]) (fun i _ => pot.length - (intOf i).toNat)
 case atStart => exact ⟨0, Nat.zero_le _, rfl, rfl, hs⟩
 case round =>
  clear hs
  obtain ⟨k, hk, rfl, hall, hs⟩ := hrel
  have HA := Lib.hid hall
  clear hall
  by_cases hlt : k < pot.length
  ·obtain ⟨b1, o1, e1, hb1, x0⟩ := (hs.rd hp).at k hlt
   subst e1
   have HST := Lib.hid (fun q => far_stop hlt q)
   have HGO := Lib.hid (fun q => far_step hlt HA.out q)
   obtain ⟨x, hx⟩ : ∃ x, x = pot.getD k 0 := ⟨_, rfl⟩
   rw [← hx] at x0 HST HGO
   clear hx
   have r0 := cell_of (hs.cells 0 rfl) 0
   simp only [List.getElem?_toArray, List.getElem?_cons_zero, List.getElem?_cons_succ] at r0
   have rf := fun j => frozen_of (hs.cells 0 rfl) j
   by_cases h1 : x < -1099511627776
   ·have H := Lib.hid (show fitsB nn es fl pot = false by simp [fitsB, potB, HST.out ((farB_no _).2 (.inl h1))])
    have d1 : decide (x < -1099511627776) = true := decide_eq_true h1
    clear h1 HST HGO
    gi_wp2
    clear r0 rf x0
    have hq := (hs.setCells 0 rfl 0 (.bool false) #[.bool false] rfl)
    have z0 := cell_of (hq.cells 0 rfl) 0
    simp only [List.set_cons_zero, List.getElem?_toArray, List.getElem?_cons_zero, List.getElem?_cons_succ] at z0
    exact ⟨.bool false, by simp [results, Try.results76, go_sem, z0], by rw [H.out], hq.below⟩
   ·have d1 : decide (x < -1099511627776) = false := decide_eq_false h1
    by_cases h2 : 1099511627776 < x
    ·have H := Lib.hid (show fitsB nn es fl pot = false by simp [fitsB, potB, HST.out ((farB_no _).2 (.inr h2))])
     have d2 : decide (1099511627776 < x) = true := decide_eq_true h2
     clear h1 h2 HST HGO
     gi_wp2
     clear r0 rf x0
     have hq := (hs.setCells 0 rfl 0 (.bool false) #[.bool false] rfl)
     have z0 := cell_of (hq.cells 0 rfl) 0
     simp only [List.set_cons_zero, List.getElem?_toArray, List.getElem?_cons_zero, List.getElem?_cons_succ] at z0
     exact ⟨.bool false, by simp [results, Try.results76, go_sem, z0], by rw [H.out], hq.below⟩
    ·have d2 : decide (1099511627776 < x) = false := decide_eq_false h2
     have HA2 := Lib.hid (HGO.out ((farB_iff _).2 ⟨by omega, by omega⟩))
     clear h1 h2 HST HGO
     gi_wp2
     go_roundw
     case rel => exact ⟨k + 1, hlt, by go_num, HA2.out, hs⟩
     case measure => simp [intOf]; omega
  ·obtain rfl : k = pot.length := by omega
   rw [List.take_length] at HA
   have HP := Lib.hid (show potB nn pot = true by unfold potB; rw [HA.out, HPL.out]; simp)
   have HFT := Lib.hid (show fitsB nn es fl pot = tightB es fl pot by unfold fitsB; rw [HWI.out, HP.out]; rfl)
   clear HA
   have n0 := cell_of (hs.cells 1 rfl) 0
   have n1 := cell_of (hs.cells 1 rfl) 1
   simp only [List.getElem?_toArray, List.getElem?_cons_zero, List.getElem?_cons_succ] at n0 n1
   gi_wp2_with fail
   refine ⟨trivial, (callsIn_wide.2 (arcs_calls _ _ _ _ _ _ _ _ _ _ _)).mono ?_⟩
   rintro en w5 ⟨rfl, rfl⟩
   clear n0 n1
   have HWS := Lib.hid (show B + 1 < wr.heap.size from lt_of (hs.cells 0 rfl))
   have hs4 := ((hs.newCells #[.int .i64 nn, .slice a es.length c] 48).newCells #[.slice af fl.length cf] 23).newCells #[.slice ap pot.length cp] 23
   simp only [World.size_alloc] at hs4
   gi_wp2_with fail
   obtain ⟨W0, hW0⟩ : ∃ W0, W0 = ((wr.alloc (Obj.cells #[.int .i64 nn, .slice a es.length c] 48)).alloc (Obj.cells #[.slice af fl.length cf] 23)).alloc (Obj.cells #[.slice ap pot.length cp] 23) := ⟨_, rfl⟩
   have hsz : W0.heap.size = wr.heap.size + 3 := by rw [hW0]; simp
   rw [← hW0] at hs4 ⊢
   clear hW0
   have hcp := cell_of (hs4.cells 0 rfl) 0
   have hcf := cell_of (hs4.cells 1 rfl) 0
   have hcn := cell_of (hs4.cells 2 rfl)
   have hBw := HB.out.1
   have hBr := HWS.out
   have hi0s := hs4.tail.tail.tail
   have hge := hs4.size
   have hgw := hs.size
   refine nameRF fun a0 ha0 => ?_
   have HSZ := Lib.hid hsz
   refine wpIn_rangeFunc_ownH rfl (by decide) (gf := 91) (lb := #[.pointer (some ⟨wr.heap.size, 0, none⟩), .pointer (some ⟨wr.heap.size + 2, 0, none⟩), .pointer (some ⟨wr.heap.size + 1, 0, none⟩)]) (by rw [ha0]; rfl) trivial (enters_of Try.func91 (by kernel_rfl) rfl)
    (arcs_stops Fence.wide (6 - 1) trivial rfl rfl (by decide) (wr.heap.size + 3) (fun _ => False) wr.heap.size (wr.heap.size + 2) (wr.heap.size + 1) nn a af ap c cf cp es fl pot HWI.out HP.out (by omega) (fun q => q) (by omega) (fun q => q) (by omega) (fun q => q) W0 (by omega) hcn hcf hcp ?hce ?hcx ?hcq) KeepT.trans (keepT_b (by omega)) (Below.refl _ _) (fun _ => rfl)
    (fun pre W => Sep w W [cellsT (B + 1) #[.bool false] 4, cellsT B #[.int .i64 nn, .slice a es.length c] 48] ∧ NonNeg pre ∧ W0.heap.size ≤ W.heap.size)
    (fun cd _ W => cd = Code.ret ∧ Sep w W [cellsT (B + 1) #[.bool false] 4, cellsT B #[.int .i64 nn, .slice a es.length c] 48] ∧ tightB es fl pot = false)
    (OwnFrom.and (sep_ownFrom (fun _ => [cellsT (B + 1) #[.bool false] 4, cellsT B #[.int .i64 nn, .slice a es.length c] 48]) (by omega) (fun s A hA => by simp at hA; rcases hA with rfl | rfl; exact cellsT_cells _ _ _; exact cellsT_cells _ _ _)) (OwnFrom.and (ownFrom_pure _ _) (fun _ _ _ _ h hg _ => Nat.le_trans h hg.size)))
    (fun cd => OwnFrom.and (ownFrom_pure _ _) (OwnFrom.and (sep_ownFrom (fun _ => [cellsT (B + 1) #[.bool false] 4, cellsT B #[.int .i64 nn, .slice a es.length c] 48]) (by omega) (fun s A hA => by simp at hA; rcases hA with rfl | rfl; exact cellsT_cells _ _ _; exact cellsT_cells _ _ _)) (ownFrom_pure _ _)))
    ⟨hi0s, NonNeg.nil, Nat.le_refl _⟩
    (fun x a1 W => ∃ Bx, W.heap[Bx]? = some (.cells #[.int .i64 x.1.k, .int .i64 x.1.u, .int .i64 x.1.v, .int .i64 x.1.len] 132 (0, 0)) ∧
     a1 = { tmps := (a0.tmps.setIfInBounds 38 (.agg #[.int .i64 x.1.k, .int .i64 x.1.u, .int .i64 x.1.v, .int .i64 x.1.len])).setIfInBounds 9 (.pointer (some ⟨Bx, 0, none⟩)), defers := [] })
    (fun x a1 _ X Y row hs hg hr => by obtain ⟨Bx, h2, h3⟩ := hs; exact ⟨Bx, cellsRow_own Bx _ (fun (_ : Unit) => _) () X Y row h2 hg (fun r e => (hr r e).2), h3⟩)
    ?assign ?body ?done ?stop
   case hce =>
    intro i hi
    obtain ⟨b, o, e, hb, hc⟩ := h.at i hi
    exact ⟨b, o, e, by omega, by simp, fun j hj => (hs4.cell hb).trans (hc j hj)⟩
   case hcx =>
    intro i hi
    obtain ⟨b, o, e, hb, hc⟩ := hf.at i hi
    exact ⟨b, o, e, by omega, by simp, (hs4.cell hb).trans hc⟩
   case hcq =>
    intro i hi
    obtain ⟨b, o, e, hb, hc⟩ := hp.at i hi
    exact ⟨b, o, e, by omega, by simp, (hs4.cell hb).trans hc⟩
   case assign =>
    rintro l pre ⟨⟨ak, au, av, al⟩, hx⟩ W K hI hK
    clear hsz
    dsimp only [encA]
    subst ha0
    obtain ⟨hs, hv, hz⟩ := hI
    gi_wp2
    exact hK _ _ ((KeepsOthers.alloc _ _).from _) (KeepT.alloc (by have := HSZ.out; omega) _) ⟨hs.alloc _, hv, by simp; omega⟩ ⟨W.heap.size, heap_alloc_new W _, rfl⟩
   case body =>
    rintro l pre ⟨⟨ak, au, av, al⟩, hx⟩ a1 W hl _ ⟨hs, hv, hz⟩ ⟨Bx, hbx, rfl⟩ hlt
    clear hsz
    subst ha0
    have e3 := cell_of hbx 3
    have r0 := cell_of (hs.cells 0 rfl) 0
    simp only [List.getElem?_toArray, List.getElem?_cons_zero, List.getElem?_cons_succ] at e3 r0
    have rf := fun j => frozen_of (hs.cells 0 rfl) j
    by_cases h1 : al < 0
    ·have d1 : decide (al < 0) = true := decide_eq_true h1
     have HT := Lib.hid (show tightB es fl pot = false by
      rw [Bool.eq_false_iff]; intro q
      have := tight_arcs.1 q _ hx
      dsimp only at this; omega)
     clear h1
     gi_wp2
     have hs5 := hs.setCells 0 rfl 0 (.bool false) #[.bool false] rfl
     simp only [List.set_cons_zero] at hs5
     exact ⟨(KeepsOthers.setCell _ _ _).from _, rfl, hs5, HT.out⟩
    ·have d1 : decide (al < 0) = false := decide_eq_false h1
     have HN := Lib.hid (show 0 ≤ al by omega)
     clear h1
     gi_wp2
     refine ⟨(KeepsOthers.refl _).from _, KeepT.refl _ _ _ _, hs, hv.snoc HN.out, hz⟩
   case done =>
    rintro D xs W hD hS ⟨hs, hv, hz⟩ hK
    clear hsz
    subst ha0
    have HT := Lib.hid (show fitsB nn es fl pot = true by
     rw [HFT.out, tight_arcs]
     intro y hy
     rw [← hS] at hy
     obtain ⟨q, hq, rfl⟩ := List.mem_map.1 hy
     exact hv q hq)
    clear hS hv
    have r0 := cell_of (hs.cells 0 rfl) 0
    simp only [List.getElem?_toArray, List.getElem?_cons_zero, List.getElem?_cons_succ] at r0
    have rf := fun j => frozen_of (hs.cells 0 rfl) j
    gi_wp2
    clear r0 rf
    have hs5 := hs.setCells 0 rfl 0 (.bool true) #[.bool true] rfl
    simp only [List.set_cons_zero] at hs5
    have hK' := (KeepsOthers.setCell W ⟨B + 1, 0, none⟩ (.bool true)).same D _ hK rfl
    generalize W.setCell ⟨B + 1, 0, none⟩ (.bool true) = W9 at hs5 hK' ⊢
    refine ⟨by simp, .inl ⟨_, _, rfl, run_takeDeferred hK', ?_⟩⟩
    have hs7 := (hs5).turned (fun A hA => by simp at hA; rcases hA with rfl | rfl; exact cellsT_cells _ _ _; exact cellsT_cells _ _ _) (grownBy_putObj' _ D (.deferred none)) (fun r e => by cases e; exact ⟨by have := HSZ.out; omega, _, hK', rfl⟩)
    have z0 := cell_of (hs7.cells 0 rfl) 0
    simp only [List.getElem?_toArray, List.getElem?_cons_zero, List.getElem?_cons_succ] at z0
    generalize World.putObj _ D (.deferred none) = W8 at hs7 z0 ⊢
    exact ⟨.bool true, by simp [results, Try.results76, go_sem, z0], by rw [HT.out], hs7.below⟩
   case stop =>
    rintro D cd pre W hD _ ⟨rfl, hs, hT⟩ hK
    clear hsz
    subst ha0
    have HT := Lib.hid (show fitsB nn es fl pot = false by rw [HFT.out, hT])
    clear hT
    gi_wp2
    refine ⟨by simp, .inl ⟨_, _, rfl, run_takeDeferred hK, ?_⟩⟩
    have hs7 := (hs).turned (fun A hA => by simp at hA; rcases hA with rfl | rfl; exact cellsT_cells _ _ _; exact cellsT_cells _ _ _) (grownBy_putObj' _ D (.deferred none)) (fun r e => by cases e; exact ⟨by have := HSZ.out; omega, _, hK, rfl⟩)
    have z0 := cell_of (hs7.cells 0 rfl) 0
    simp only [List.getElem?_toArray, List.getElem?_cons_zero, List.getElem?_cons_succ] at z0
    generalize World.putObj _ D (.deferred none) = W8 at hs7 z0 ⊢
    exact ⟨.bool false, by simp [results, Try.results76, go_sem, z0], by rw [HT.out], hs7.below⟩
end Go.Proofs.Ytjijhpflkkicaaa
namespace Go.Proofs.Ytjijhpflkkicaaa
open Go Go.RowKit Go.Mem Go.NetP Go.RestP Go.CertP Go.PathP

/-- A finder's blocks, and the arcs that leave each node. -/
structure Fi where
 bf : Nat
 go : Nat
 gd : Nat
 gh : Nat
 gb : Nat
 n : Nat
 rows : List (Value × List Ar)
 ex : List Thing
def Fi.cells (F : Fi) : Array Value := #[.slice (some ⟨F.go, 0, none⟩) F.n F.n, .slice (some ⟨F.gd, 0, none⟩) F.n F.n, .slice (some ⟨F.gh, 0, none⟩) F.n F.n, .slice (some ⟨F.gb, 0, none⟩) F.n F.n]
def rowsL (rows : List (Value × List Ar)) : List Thing := rows.map fun p => recT arR 132 p.1 p.2
/-- The finder, with its numbers. -/
def fiL (F : Fi) (D H B : List Int) : List Thing :=
 cellsT F.bf F.cells 127 :: intsT .i64 2 (.slice (some ⟨F.gd, 0, none⟩) F.n F.n) D :: intsT .i64 3 (.slice (some ⟨F.gh, 0, none⟩) F.n F.n) H :: intsT .i64 3 (.slice (some ⟨F.gb, 0, none⟩) F.n F.n) B ::
  cellsT F.go (F.rows.map (·.1)).toArray 133 :: (rowsL F.rows ++ F.ex)
theorem rows_at {F : Fi} {u : Nat} (hu : u < F.rows.length) (A1 A2 A3 A4 A5 A6 : Thing) : (A1 :: A2 :: A3 :: A4 :: A5 :: A6 :: (rowsL F.rows ++ F.ex))[6 + u]? = some (recT arR 132 F.rows[u].1 F.rows[u].2) := by
 rw [show 6 + u = u + 1 + 1 + 1 + 1 + 1 + 1 by omega]
 simp only [List.getElem?_cons_succ]
 unfold rowsL
 rw [List.getElem?_append_left (by simpa using hu), List.getElem?_map, List.getElem?_eq_getElem hu]
 rfl
/-- What better asks, of numbers. -/
def betX (X Y x y : Int) : Bool := decide (X = -1) || decide (x < X) || (decide (x = X) && decide (y < Y))
theorem betX_eq (D H : List Int) (v : Nat) (x y : Int) : betX (g D v) (g H v) x y = bet (g D) (g H) v x y := rfl
set_option maxHeartbeats 1000000 in
theorem better_any (BF gd gh n : Nat) (vo vb : Value) (D H : List Int) (v : Nat) (x y : Int) (w : World) (hf : w.heap[BF]? = some (.cells #[vo, .slice (some ⟨gd, 0, none⟩) n n, .slice (some ⟨gh, 0, none⟩) n n, vb] 127 (0, 0)))
  (hd : Rd .i64 w (.slice (some ⟨gd, 0, none⟩) n n) D) (hh : Rd .i64 w (.slice (some ⟨gh, 0, none⟩) n n) H) (hv : v < n) :
  Calls Try.prog 95 #[.pointer (some ⟨BF, 0, none⟩), .int .i64 v, .int .i64 x, .int .i64 y] w fun e w' => e = .returned (.bool (bet (g D) (g H) v x y)) ∧ w' = w := by
 have e1 := hd.len
 have e2 := hh.len
 obtain ⟨b1, o1, q1, _, x0⟩ := hd.at v (by omega)
 obtain ⟨b2, o2, q2, _, y0⟩ := hh.at v (by omega)
 injection q1 with q1
 injection q1 with q1 q3
 subst q1; subst q3
 injection q2 with q2
 injection q2 with q2 q3
 subst q2; subst q3
 have f1 := cell_of hf 1
 have f2 := cell_of hf 2
 simp only [List.getElem?_toArray, List.getElem?_cons_zero, List.getElem?_cons_succ] at f1 f2
 rw [Nat.zero_add] at x0 y0
 have HB := Lib.hid (betX_eq D H v x y)
 have hle := hd.le'
 obtain ⟨X, hX⟩ : ∃ X, X = D.getD v 0 := ⟨_, rfl⟩
 obtain ⟨Y, hY⟩ : ∃ Y, Y = H.getD v 0 := ⟨_, rfl⟩
 rw [show g D v = X from hX.symm, show g H v = Y from hY.symm] at HB
 rw [← hX] at x0
 rw [← hY] at y0
 have hvn : (v : Int) < n := by omega
 clear hX hY hd hh e2 hf
 by_cases c1 : X = -1
 ·have HR := Lib.hid (show betX X Y x y = true by simp [betX, c1])
  have d1 : (X == -1) = true := by simpa using c1
  clear c1
  go_enter Try.func95, Try.ntmps95
  go_wp2_with fail
  go_ret
  exact ⟨by rw [← HB.out, HR.out]; rfl, rfl⟩
 have d1 : (X == -1) = false := by simpa using c1
 by_cases c2 : x < X
 ·have HR := Lib.hid (show betX X Y x y = true by simp [betX, c2])
  have d2 : decide (x < X) = true := decide_eq_true c2
  clear c1 c2
  go_enter Try.func95, Try.ntmps95
  go_wp2_with fail
  go_ret
  exact ⟨by rw [← HB.out, HR.out]; rfl, rfl⟩
 have d2 : decide (x < X) = false := decide_eq_false c2
 by_cases c3 : x = X
 ·have HR := Lib.hid (show betX X Y x y = decide (y < Y) by simp [betX, c1, c3])
  have d3 : (x == X) = true := by simpa using c3
  clear c1 c2 c3
  go_enter Try.func95, Try.ntmps95
  go_wp2_with fail
  go_ret
  exact ⟨by rw [← HB.out, HR.out]; rfl, rfl⟩
 have HR := Lib.hid (show betX X Y x y = false by simp [betX, c1, c2, c3])
 have d3 : (x == X) = false := by simpa using c3
 clear c1 c2 c3
 go_enter Try.func95, Try.ntmps95
 go_wp2_with fail
 go_ret
 exact ⟨by rw [← HB.out, HR.out]; rfl, rfl⟩
end Go.Proofs.Ytjijhpflkkicaaa
namespace Go.PathP
open Go Go.Mem
/-- May a way begin there? -/
def nodeI (n : Nat) (x : Int) : Bool := decide (0 ≤ x) && decide (x < n)
theorem nodeI_iff {n : Nat} {x : Int} : nodeI n x = true ↔ 0 ≤ x ∧ x < n := by simp [nodeI]
def fromB (n : Nat) (zs : List Int) : Bool := zs.all (nodeI n) && decide (zs ≠ [])
def fromN (zs : List Int) : List Nat := zs.map Int.toNat
/-- Behind some of the nodes from which the ways lead. -/
structure BGX (n : Nat) (zs : List Int) (k : Nat) (D : List Int) (Q : List Th) : Prop where
 bg : BG n (fromN (zs.take k)) (D, Q)
 ok : (zs.take k).all (nodeI n) = true
 len : Q.length ≤ k
theorem BG.perm {N : Nat} {pre : List Nat} {D : List Int} {Q Q' : List Th} (h : BG N pre (D, Q)) (p : Q.Perm Q') : BG N pre (D, Q') :=
 ⟨h.lD, fun v hv => by have := h.val v hv; dsimp only at this ⊢; rw [← p.count_eq]; exact this, fun q hq => h.ent q (p.mem_iff.2 hq)⟩
theorem BGX.perm {n k : Nat} {zs D : List Int} {Q Q' : List Th} (h : BGX n zs k D Q) (p : Q.Perm Q') : BGX n zs k D Q' := ⟨h.bg.perm p, h.ok, by rw [← p.length_eq]; exact h.len⟩
theorem BGX.start (n : Nat) (zs : List Int) : BGX n zs 0 (List.replicate n (-1)) [] := ⟨BG.start n, rfl, Nat.le_refl _⟩
theorem BGX.step {n k : Nat} {zs D : List Int} {Q : List Th} (h : BGX n zs k D Q) (hk : k < zs.length) (hv : nodeI n (zs.getD k 0) = true) :
  (g D (zs.getD k 0).toNat = 0 → BGX n zs (k + 1) D Q) ∧ (g D (zs.getD k 0).toNat ≠ 0 → BGX n zs (k + 1) (D.set (zs.getD k 0).toNat 0) ((0, zs.getD k 0) :: Q)) := by
 have hx : zs[k] = zs.getD k 0 := by simp [hk]
 have hn := nodeI_iff.1 hv
 have e1 : zs.take (k + 1) = zs.take k ++ [zs.getD k 0] := by rw [List.take_succ_eq_append_getElem hk, hx]
 have e2 : fromN (zs.take (k + 1)) = fromN (zs.take k) ++ [(zs.getD k 0).toNat] := by unfold fromN; rw [e1, List.map_append]; rfl
 have ho : (zs.take (k + 1)).all (nodeI n) = true := by rw [e1, List.all_append, h.ok]; simp only [List.all_cons, List.all_nil, Bool.and_true, Bool.true_and]; exact hv
 have hs := h.bg.step (v := (zs.getD k 0).toNat) (by omega)
 rw [← e2] at hs
 unfold begStep at hs
 dsimp only at hs
 constructor
 ·intro q
  rw [if_pos q] at hs
  exact ⟨hs, ho, by have := h.len; omega⟩
 ·intro q
  rw [if_neg q, Int.toNat_of_nonneg hn.1] at hs
  exact ⟨hs, ho, by have := h.len; rw [List.length_cons]; omega⟩
end Go.PathP
namespace Go.Proofs.Ytjijhpflkkicaaa
open Go Go.RowKit Go.Mem Go.NetP Go.RestP Go.CertP Go.PathP
set_option maxRecDepth 100000 in
set_option maxHeartbeats 4000000 in
theorem begin_any (F : Fi) (b : Nat) (H B zs : List Int) (vf : Value) (w0 w : World) (hs : Sep w0 w (heapT b [] :: fiL F (List.replicate F.n (-1)) H B)) (hr : Rd .i64 w0 vf zs) (hsm : zs.length ≤ 1000) (hn : F.n ≤ 1000) :
  Calls Try.prog 79 #[.pointer (some ⟨F.bf, 0, none⟩), .pointer (some ⟨b, 0, none⟩), vf] w fun e w' =>
   (e = .returned (.bool false) ∧ fromB F.n zs = false ∧ ∃ D Q, Sep w0 w' (heapT b Q :: fiL F D H B)) ∨ (e = .returned (.bool true) ∧ fromB F.n zs = true ∧ ∃ D Q, BGX F.n zs zs.length D Q ∧ Sep w0 w' (heapT b Q :: fiL F D H B)) := by
 obtain ⟨af, cf, rfl⟩ := hr.shape
 unfold fiL at hs
 go_enter Try.func79, Try.ntmps79
 go_wp2_with fail
 refine wp_loopM [none, none, none, none, none, none, some 6, none, some 8, none, none, some 11, some 12, some 13, some 14, some 15, some 16, some 17, some 18, some 19, some 20, some 21, some 22, some 23, some 24, some 25, some 26, some 27, some 28, some 29, some 30, some 31, some 32, some 33, some 34, some 35, some 36, some 37, some 38, some 39, some 40, some 41, some 42, some 43, none, none, none] (fun (r : Nat) (f : Nat → Value) (wr : World) => (fun (v : Value) => ∃ (k : Nat) (D : List Int) (Q : List Th), v = .int .i64 k ∧ k ≤ zs.length ∧ r = zs.length - k ∧ BGX F.n zs k D Q ∧ Sep w0 wr (heapT b Q :: fiL F D H B)) (f 11)) (zs.length) (by kernel_rfl) ?atStart1 ?round1
 case' atStart1 => (try dsimp only [nthV])
 case' round1 =>
  intro gk f wr l hl hrel J1 K1 hJ1 hK1
  (try simp only [mask] at hl)
  generalize f 11 = u11 at hl hrel
  subst hl
  (try dsimp only at hrel)
 case atStart1 => exact ⟨0, _, _, rfl, Nat.zero_le _, rfl, BGX.start _ _, hs⟩
 case round1 =>
  clear hs
  obtain ⟨k, D, Q, rfl, hk, rfl, hbg, hs⟩ := hrel
  have HBG := Lib.hid hbg
  clear hbg
  unfold fiL at hs
  by_cases hlt : k < zs.length
  ·obtain ⟨b1, o1, e1, hb1, x0⟩ := (hs.rd hr).at k hlt
   subst e1
   have HST := Lib.hid (HBG.out.step hlt)
   have HNO := Lib.hid (fun (q : nodeI F.n (zs.getD k 0) = false) => (show fromB F.n zs = false by
    unfold fromB
    rw [show zs.all (nodeI F.n) = false by
     rw [Bool.eq_false_iff]; intro q2
     have := List.all_eq_true.1 q2 _ (List.getElem_mem hlt)
     rw [show zs[k] = zs.getD k 0 by simp [hlt]] at this
     rw [q] at this; cases this]
    rfl))
   obtain ⟨X, hX⟩ : ∃ X, X = zs.getD k 0 := ⟨_, rfl⟩
   rw [← hX] at x0 HST HNO
   clear hX
   have f1 := cell_of (hs.cells 1 rfl) 1
   simp only [Fi.cells, List.getElem?_toArray, List.getElem?_cons_zero, List.getElem?_cons_succ] at f1
   by_cases h1 : X < 0
   ·have d1 : decide (X < 0) = true := decide_eq_true h1
    have HF := Lib.hid (HNO.out (by simp [nodeI]; omega))
    clear h1
    go_wp2_with fail
    go_ret
    exact .inl ⟨rfl, HF.out, _, _, hs⟩
   have d1 : decide (X < 0) = false := decide_eq_false h1
   by_cases h2 : (F.n : Int) ≤ X
   ·have d2 : decide ((F.n : Int) ≤ X) = true := decide_eq_true h2
    have HF := Lib.hid (HNO.out (by simp [nodeI]; omega))
    clear h1 h2
    go_wp2_with fail
    go_ret
    exact .inl ⟨rfl, HF.out, _, _, hs⟩
   have d2 : decide ((F.n : Int) ≤ X) = false := decide_eq_false h2
   obtain ⟨V, rfl⟩ : ∃ V : Nat, X = V := ⟨X.toNat, by omega⟩
   have hV : V < F.n := by omega
   have HSV := Lib.hid (HST.out (nodeI_iff.2 ⟨by omega, by omega⟩))
   rw [Int.toNat_natCast] at HSV
   have hlD := HBG.out.bg.lD
   dsimp only at hlD
   have HLD := Lib.hid hlD
   obtain ⟨g', cg', eg, _, hcR, yf⟩ := (hs.ints 2 rfl).get V (by rw [hlD]; exact hV)
   injection eg with eg q1 q2
   injection eg with eg
   injection eg with eg
   subst eg
   have y0 := hcR V (by rw [hlD]; exact hV)
   clear q1 q2 hcR
   obtain ⟨Y, hY⟩ : ∃ Y, Y = D.getD V 0 := ⟨_, rfl⟩
   rw [show g D V = Y from hY.symm] at HSV
   rw [← hY] at y0
   clear hY h1 h2 hlD HST HNO
   by_cases h0 : Y = 0
   ·have HN := Lib.hid (HSV.out.1 h0)
    have d3 : (Y != 0) = false := by simpa using h0
    clear h0
    go_wp2_with fail
    refine Round.intro (zs.length - (k + 1)) ?measure2 (by kernel_rfl) (hJ1 _ _ _ ?rel2)
    case' rel2 => (try dsimp only [nthV])
    case measure2 => omega
    case rel2 => exact ⟨k + 1, _, _, by go_num, hlt, rfl, HN.out, hs⟩
   ·have HN := Lib.hid (HSV.out.2 h0)
    have d3 : (Y != 0) = true := by simpa using h0
    clear h0
    have hs2 := hs.setInts (j := V) 2 rfl 0
    simp only [List.set_cons_zero, List.set_cons_succ] at hs2
    go_wp2_with fail
    refine (push_sep hs2 0 rfl 0 V (by have := HBG.out.len; omega)).mono ?_
    rintro en w2 ⟨rfl, Q', hp, hs3⟩
    simp only [List.set_cons_zero] at hs3
    have HN2 := Lib.hid (HN.out.perm hp.symm)
    clear hs hs2 HN hp y0 yf f1
    go_wp2_with fail
    refine Round.intro (zs.length - (k + 1)) ?measure3 (by kernel_rfl) (hJ1 _ _ _ ?rel3)
    case' rel3 => (try dsimp only [nthV])
    case measure3 => omega
    case rel3 => exact ⟨k + 1, _, _, by go_num, hlt, rfl, HN2.out, hs3⟩
  ·obtain rfl : k = zs.length := by omega
   have HOK := HBG.out.ok
   rw [List.take_length] at HOK
   have HO := Lib.hid HOK
   clear HOK
   by_cases h0 : 0 < zs.length
   ·have HD := Lib.hid (show decide (0 < zs.length) = true from decide_eq_true h0)
    have HF := Lib.hid (show fromB F.n zs = true by unfold fromB; rw [HO.out]; simp; intro q; rw [q] at h0; simp at h0)
    clear h0
    go_wp2_with fail
    go_ret
    exact .inr ⟨(show Ending.returned (.bool (decide (0 < zs.length))) = _ by rw [HD.out]), HF.out, D, Q, HBG.out, hs⟩
   ·have HD := Lib.hid (show decide (0 < zs.length) = false from decide_eq_false h0)
    have HF := Lib.hid (show fromB F.n zs = false by
     have : zs = [] := List.eq_nil_of_length_eq_zero (by omega)
     unfold fromB; rw [this]; rfl)
    clear h0
    go_wp2_with fail
    go_ret
    exact .inl ⟨(show Ending.returned (.bool (decide (0 < zs.length))) = _ by rw [HD.out]), HF.out, _, _, hs⟩
end Go.Proofs.Ytjijhpflkkicaaa
namespace Go.PathP
open Go Go.Mem
/-- The arcs of a node that are to come. -/
theorem drop_at {O : List Ar} {i : Nat} (hi : i < O.length) : O.drop i = O[i] :: O.drop (i + 1) := List.drop_eq_getElem_cons hi
/-- A node at hand, its label, and how many things there are at most. -/
structure AtN (A : List Ar) (src : Nat → Prop) (n : Nat) (O : List Ar) (u : Nat) (X : Nat → Nat) (c y : Int) (q : Nat) (i : Nat) (D H : List Int) (Q : List Th) : Prop where
 dj : DJ A src n maxL (O.drop i) D H Q X c
 d : g D u = c
 h : g H u = y
 len : Q.length ≤ q + i
theorem AtN.bound {A : List Ar} {src : Nat → Prop} {n : Nat} {O : List Ar} {u : Nat} {X : Nat → Nat} {c y : Int} {q i : Nat} {D H : List Int} {Q : List Th} (h : AtN A src n O u X c y q i D H Q) (hu : u < n) (h0 : 0 ≤ c) (hn : n ≤ 40) : c ≤ 87960942262080 ∧ 0 ≤ y ∧ y ≤ 39 := by
 rcases h.dj.real.pos h.dj.net hu with p | ⟨p1, p2, p3, p4⟩
 ·have := h.d; omega
 ·have e1 := h.d
  have e2 := h.h
  have : g H u * maxL ≤ 40 * maxL := Int.mul_le_mul_of_nonneg_right (by omega) (by unfold maxL; omega)
  unfold maxL at *
  omega
/-- One arc more. -/
theorem AtN.step {A : List Ar} {src : Nat → Prop} {n : Nat} {O : List Ar} {u : Nat} {X : Nat → Nat} {c y : Int} {q i : Nat} {D H : List Int} {Q : List Th} (h : AtN A src n O u X c y q i D H Q) (h0 : 0 ≤ c) (hi : i < O.length) (hO : ∀ a ∈ O, a ∈ A ∧ a.u = u) :
  (bet (g D) (g H) O[i].v (c + O[i].len) (y + 1) = false → AtN A src n O u X c y q (i + 1) D H Q) ∧
  (bet (g D) (g H) O[i].v (c + O[i].len) (y + 1) = true → AtN A src n O u X c y q (i + 1) (D.set O[i].v (c + O[i].len)) (H.set O[i].v (y + 1)) ((c + O[i].len, (O[i].v : Int)) :: Q)) := by
 obtain ⟨ha, hu⟩ := hO _ (List.getElem_mem hi)
 have hd := h.dj
 rw [drop_at hi] at hd
 have hs := hd.step h.d (by rw [h.d]; exact h0) ha hu _ rfl
 unfold goStep at hs
 dsimp only at hs
 rw [h.d, h.h] at hs
 constructor
 ·intro hb
  rw [if_neg (by rw [hb]; simp)] at hs
  exact ⟨hs.1, hs.2.1, hs.2.2, by have := h.len; omega⟩
 ·intro hb
  rw [if_pos hb] at hs
  exact ⟨hs.1, hs.2.1, hs.2.2, by have := h.len; rw [List.length_cons]; omega⟩
theorem AtN.perm {A : List Ar} {src : Nat → Prop} {n : Nat} {O : List Ar} {u : Nat} {X : Nat → Nat} {c y : Int} {q i : Nat} {D H : List Int} {Q Q' : List Th} (h : AtN A src n O u X c y q i D H Q) (p : Q.Perm Q') : AtN A src n O u X c y q i D H Q' :=
 ⟨h.dj.perm p, h.d, h.h, by rw [← p.length_eq]; exact h.len⟩
end Go.PathP
namespace Go.Proofs.Ytjijhpflkkicaaa
open Go Go.RowKit Go.Mem Go.NetP Go.RestP Go.CertP Go.PathP
set_option maxRecDepth 100000 in
set_option maxHeartbeats 4000000 in
theorem goes_any (F : Fi) (b u : Nat) (A : List Ar) (src : Nat → Prop) (D H B : List Int) (Q : List Th) (X : Nat → Nat) (c y : Int) (w0 w : World) (hn : F.n ≤ 40) (hl : F.rows.length = F.n) (hu : u < F.n) (hO : ∀ a ∈ (F.rows[u]'(by omega)).2, a ∈ A ∧ a.u = u)
  (hat : AtN A src F.n (F.rows[u]'(by omega)).2 u X c y Q.length 0 D H Q) (h0 : 0 ≤ c) (hsm : Q.length + (F.rows[u]'(by omega)).2.length ≤ 99999) (hs : Sep w0 w (heapT b Q :: fiL F D H B)) :
  Calls Try.prog 82 #[.pointer (some ⟨F.bf, 0, none⟩), .pointer (some ⟨b, 0, none⟩), .int .i64 u] w fun e w' =>
   (∃ v, e = .returned v) ∧ ∃ D' H' Q', DJ A src F.n maxL [] D' H' Q' X c ∧ Q'.length ≤ Q.length + (F.rows[u]'(by omega)).2.length ∧ Sep w0 w' (heapT b Q' :: fiL F D' H' B) := by
 have hur : u < F.rows.length := by omega
 obtain ⟨O, hOd⟩ : ∃ O, O = F.rows[u].2 := ⟨_, rfl⟩
 rw [← hOd] at hO hat hsm
 have HR := Lib.hid (fun (A1 A2 A3 A4 A5 A6 : Thing) => (show (A1 :: A2 :: A3 :: A4 :: A5 :: A6 :: (rowsL F.rows ++ F.ex))[6 + u]? = some (recT arR 132 F.rows[u].1 O) from by rw [hOd]; exact rows_at hur A1 A2 A3 A4 A5 A6))
 rw [← hOd]
 have hbd := hat.bound hu h0 hn
 obtain ⟨hc1, hy0, hy1⟩ := hbd
 have HO := Lib.hid hO
 have HAT := Lib.hid hat
 unfold fiL at hs
 obtain ⟨av, cv, hrv⟩ := (hs.rdRecs (6 + u) (HR.out _ _ _ _ _ _)).shape
 have hg5 := cell_of (hs.cells 5 rfl) u
 have hg1 : (F.rows.map (·.1)).toArray[u]? = some (.slice av O.length cv) := by
  rw [List.getElem?_toArray, List.getElem?_map, List.getElem?_eq_getElem hur]
  simp [hrv]
 rw [hg1] at hg5
 have f0 := cell_of (hs.cells 1 rfl) 0
 simp only [Fi.cells, List.getElem?_toArray, List.getElem?_cons_zero, List.getElem?_cons_succ] at f0
 rw [hrv] at HR
 have hun : (u : Int) < F.n := by omega
 clear hrv hg1 hOd hO hat
 have hle := (hs.rdRecs (6 + u) (HR.out _ _ _ _ _ _)).le'
 go_enter Try.func82, Try.ntmps82
 go_wp2_with fail
 clear hg5 f0
 refine wp_loopM [none, none, none, none, none, none, none, some 7, some 8, none, none, none, none, none, none, none, none, some 17, some 18, some 19, some 20, some 21, some 22, some 23, some 24, some 25, some 26, some 27, some 28, some 29, some 30, some 31, some 32, some 33, some 34, some 35, some 36, some 37, some 38, some 39, some 40, some 41, some 42, some 43, some 44, some 45, some 46, some 47, some 48, some 49, some 50, some 51, some 52, some 53, some 54, some 55, some 56, some 57, some 58, some 59, some 60, some 61, some 62, some 63, some 64, some 65, some 66, some 67, some 68, some 69, some 70, some 71, some 72] (fun (r : Nat) (f : Nat → Value) (wr : World) => (fun (v : Value) => ∃ (i : Nat) (D H : List Int) (Q' : List Th), v = .int .i64 i ∧ i ≤ O.length ∧ r = O.length - i ∧ AtN A src F.n O u X c y Q.length i D H Q' ∧ Sep w0 wr (heapT b Q' :: fiL F D H B)) (f 17)) (O.length) (by kernel_rfl) ?atStart4 ?round4
 case' atStart4 => (try dsimp only [nthV])
 case' round4 =>
  intro gk f wr l hl hrel J1 K1 hJ1 hK1
  (try simp only [mask] at hl)
  generalize f 17 = u17 at hl hrel
  subst hl
  (try dsimp only at hrel)
 case atStart4 => exact ⟨0, D, H, Q, rfl, Nat.zero_le _, rfl, HAT.out, hs⟩
 case round4 =>
  clear hs
  obtain ⟨i, D, H, Q', rfl, hi, rfl, hat, hs⟩ := hrel
  have HA := Lib.hid hat
  clear hat
  by_cases hlt : i < O.length
  ·unfold fiL at hs
   obtain ⟨b1, o1, e1, hb1, hc⟩ := (hs.rdRecs (6 + u) (HR.out _ _ _ _ _ _)).at i hlt
   subst e1
   have HST := Lib.hid (HA.out.step h0 hlt HO.out)
   have haA := (HO.out _ (List.getElem_mem hlt)).1
   have hnv := HA.out.dj.net.v _ haA
   have hl0 := HA.out.dj.net.l0 _ haA
   have hl1 := HA.out.dj.net.l1 _ haA
   obtain ⟨a, ha⟩ : ∃ a, a = O[i] := ⟨_, rfl⟩
   rw [← ha] at hc HST hnv hl0 hl1
   clear ha haA
   obtain ⟨ak, au, av', al⟩ := a
   have x0 := hc 0 (by decide)
   have x1 := hc 1 (by decide)
   have x2 := hc 2 (by decide)
   have x3 := hc 3 (by decide)
   simp only [arR, Nat.add_zero, List.getElem?_cons_zero, List.getElem?_cons_succ] at x0 x1 x2 x3
   dsimp only at HST hnv hl0 hl1
   clear hc
   unfold maxL at hl1
   have hlD := HA.out.dj.lD
   have hlH := HA.out.dj.lH
   have HLD := Lib.hid hlD
   have HLH := Lib.hid hlH
   have hDu := HA.out.d
   have hHu := HA.out.h
   have hs1 := hs.alloc (.cells #[.int .i64 ak, .int .i64 au, .int .i64 av', .int .i64 al] 132)
   have hnb := heap_alloc_new wr (.cells #[.int .i64 ak, .int .i64 au, .int .i64 av', .int .i64 al] 132)
   obtain ⟨BX, hBX⟩ : ∃ BX, BX = wr.heap.size := ⟨_, rfl⟩
   have hgdL : F.gd < BX := by rw [hBX]; exact (hs.ints 2 rfl).low F.gd rfl
   have hghL : F.gh < BX := by rw [hBX]; exact (hs.ints 3 rfl).low F.gh rfl
   go_wp2_with fail
   rw [← hBX] at hnb ⊢
   clear hs hBX x0 x1 x2 x3
   have hs := hs1
   generalize World.alloc wr _ = W1 at hs hnb ⊢
   clear hs1
   have bx2 := cell_of hnb 2
   have bx3 := cell_of hnb 3
   have f1 := cell_of (hs.cells 1 rfl) 1
   have f2 := cell_of (hs.cells 1 rfl) 2
   simp only [Fi.cells, List.getElem?_toArray, List.getElem?_cons_zero, List.getElem?_cons_succ] at f1 f2 bx2 bx3
   obtain ⟨g', cg', eg, _, hcR, df⟩ := (hs.ints 2 rfl).get u (by rw [HLD.out]; exact hu)
   injection eg with eg q1 q2
   injection eg with eg
   injection eg with eg
   subst eg
   have du := hcR u (by rw [HLD.out]; exact hu)
   clear q1 q2 hcR
   obtain ⟨g', cg', eg, _, hcR, hf⟩ := (hs.ints 3 rfl).get u (by rw [HLH.out]; exact hu)
   injection eg with eg q1 q2
   injection eg with eg
   injection eg with eg
   subst eg
   have hu' := hcR u (by rw [HLH.out]; exact hu)
   clear q1 q2 hcR
   rw [show D.getD u 0 = c from hDu] at du
   rw [show H.getD u 0 = y from hHu] at hu'
   have HNB := Lib.hid (show BX < W1.heap.size ∧ W1.heap[BX]? = some (.cells #[.int .i64 ak, .int .i64 au, .int .i64 av', .int .i64 al] 132 (0, 0)) from ⟨lt_of hnb, hnb⟩)
   have HLO := Lib.hid (show F.gd < BX ∧ F.gh < BX from ⟨hgdL, hghL⟩)
   clear hDu hHu hlD hlH hnb hgdL hghL
   refine Mix.region [0, 0, 0, 0, 0, 0, 0, 0, 0, 0, 0] (fun _ => True) (by kernel_rfl) (by kernel_rfl) trivial ?_
   simp only [List.zip_cons_cons, List.zip_nil_right]
   iterate 11 (refine Mix.step0 fun K hK => ?_; go_simp; (try (go_bits; try go_simp)); first | ((with_reducible refine hK _ _ ?_); clear hK K) | ((try (simp only [IntWalk.iteOmega]; try go_simp)); (try go_bits); (with_reducible refine hK _ _ ?_); clear hK K))
   refine Mix.done ?_
   have HBT := Lib.hid (better_any F.bf F.gd F.gh F.n (.slice (some ⟨F.go, 0, none⟩) F.n F.n) (.slice (some ⟨F.gb, 0, none⟩) F.n F.n) D H av' (c + al) (y + 1) W1.drew.drew (hs.drew.drew.cells 1 rfl) (hs.drew.drew.rdInts 2 rfl) (hs.drew.drew.rdInts 3 rfl) hnv)
   cases hb : bet (g D) (g H) av' (c + al) (y + 1)
   ·have HN := Lib.hid (HST.out.1 hb)
    rw [hb] at HBT
    clear hb HST
    go_wp2_with fail
    refine Mix.region [0, 0, 0, 0, 0, 0, 0, 0, 0, 0, 0, 0, 2] (fun _ => True) (by kernel_rfl) (by kernel_rfl) trivial ?_
    simp only [List.zip_cons_cons, List.zip_nil_right]
    iterate 12 (refine Mix.step0 fun K hK => ?_; go_simp; (try (go_bits; try go_simp)); first | ((with_reducible refine hK _ _ ?_); clear hK K) | ((try (simp only [IntWalk.iteOmega]; try go_simp)); (try go_bits); (with_reducible refine hK _ _ ?_); clear hK K))
    refine Mix.step2n (by first | rfl | simp [Region.wanted, yielded]) fun K hK => ?_
    go_wp2_with fail
    refine HBT.out.mono ?_
    rintro en w2 ⟨rfl, rfl⟩
    go_wp2_with fail
    refine Mix.post_mk (C := (fun _ => True)) trivial (hK _ _ ?_)
    clear hK K
    refine Mix.done ?_
    go_wp2_with fail
    refine Round.intro (O.length - (i + 1)) ?measure5 (by kernel_rfl) (hJ1 _ _ _ ?rel5)
    case' rel5 => (try dsimp only [nthV])
    case measure5 => omega
    case rel5 => exact ⟨i + 1, _, _, _, by go_num, hlt, rfl, HN.out, hs.drew.drew⟩
   ·have HN := Lib.hid (HST.out.2 hb)
    rw [hb] at HBT
    clear hb HST
    go_wp2_with fail
    refine Mix.region [0, 0, 0, 0, 0, 0, 0, 0, 0, 0, 0, 0, 2] (fun _ => True) (by kernel_rfl) (by kernel_rfl) trivial ?_
    simp only [List.zip_cons_cons, List.zip_nil_right]
    iterate 12 (refine Mix.step0 fun K hK => ?_; go_simp; (try (go_bits; try go_simp)); first | ((with_reducible refine hK _ _ ?_); clear hK K) | ((try (simp only [IntWalk.iteOmega]; try go_simp)); (try go_bits); (with_reducible refine hK _ _ ?_); clear hK K))
    refine Mix.step2n (by first | rfl | simp [Region.wanted, yielded]) fun K hK => ?_
    go_wp2_with fail
    refine HBT.out.mono ?_
    rintro en w2 ⟨rfl, rfl⟩
    go_wp2_with fail
    refine Mix.post_mk (C := (fun _ => True)) trivial (hK _ _ ?_)
    clear hK K
    refine Mix.done ?_
    go_wp2_with fail
    obtain ⟨g', cg', eg, _, hcR, df2⟩ := (hs.ints 2 rfl).get av' (by rw [HLD.out]; exact hnv)
    injection eg with eg q1 q2
    injection eg with eg
    injection eg with eg
    subst eg
    have dv := hcR av' (by rw [HLD.out]; exact hnv)
    clear q1 q2 hcR
    obtain ⟨g', cg', eg, _, hcR, hf2⟩ := (hs.ints 3 rfl).get av' (by rw [HLH.out]; exact hnv)
    injection eg with eg q1 q2
    injection eg with eg
    injection eg with eg
    subst eg
    have hv' := hcR av' (by rw [HLH.out]; exact hnv)
    clear q1 q2 hcR
    clear df2 hf2
    have hCB : (fun W : World => W.cell? ⟨BX, 2, none⟩ = some (.int .i64 av')) W1.drew.drew.drew := bx2
    refine Mix.region [0, 0, 0, 0, 0, 0, 0, 0, 0, 0, 1, 1, 0, 0, 0, 0, 0, 0, 0, 0, 1, 0, 2, 0, 2] (fun W : World => W.cell? ⟨BX, 2, none⟩ = some (.int .i64 av')) (by kernel_rfl) (by kernel_rfl) hCB ?_
    simp only [List.zip_cons_cons, List.zip_nil_right]
    iterate 10 (refine Mix.step0 fun K hK => ?_; go_simp; (try (go_bits; try go_simp)); first | ((with_reducible refine hK _ _ ?_); clear hK K) | ((try (simp only [IntWalk.iteOmega]; try go_simp)); (try go_bits); (with_reducible refine hK _ _ ?_); clear hK K))
    (refine Mix.step1 fun K hK => ?_; go_simp; (try (go_bits; try go_simp)); first | ((with_reducible refine hK _ _ ?_); clear hK K) | ((try (simp only [IntWalk.iteOmega]; try go_simp)); (try go_bits); (with_reducible refine hK _ _ ?_); clear hK K))
    (refine Mix.step1 fun K hK => ?_; go_simp; refine ⟨fun W => ?_, hK _ _ ?_⟩; (intro hW1; (try intro hW2); (try intro hW3); (try intro hW4); (try intro hW5); (try intro hW6); (try intro hW7); (try intro hW8); go_simp); clear hK K)
    iterate 8 (refine Mix.step0 fun K hK => ?_; go_simp; (try (go_bits; try go_simp)); first | ((with_reducible refine hK _ _ ?_); clear hK K) | ((try (simp only [IntWalk.iteOmega]; try go_simp)); (try go_bits); (with_reducible refine hK _ _ ?_); clear hK K))
    (refine Mix.step1 fun K hK => ?_; go_simp; (try (go_bits; try go_simp)); first | ((with_reducible refine hK _ _ ?_); clear hK K) | ((try (simp only [IntWalk.iteOmega]; try go_simp)); (try go_bits); (with_reducible refine hK _ _ ?_); clear hK K))
    iterate 1 (refine Mix.step0 fun K hK => ?_; go_simp; (try (go_bits; try go_simp)); first | ((with_reducible refine hK _ _ ?_); clear hK K) | ((try (simp only [IntWalk.iteOmega]; try go_simp)); (try go_bits); (with_reducible refine hK _ _ ?_); clear hK K))
    refine Mix.step2n (by first | rfl | simp [Region.wanted, yielded]) fun K hK => ?_
    go_wp2_with fail
    have hs2p := hs.setInts (j := av') 2 rfl (c + al)
    have hs2 := hs2p.drew.drew.drew
    simp only [List.set_cons_zero, List.set_cons_succ] at hs2 hs2p
    have hFr := (Fr.set1 W1 F.gd av' (.int .i64 (c + al)))
    have hCB := (hFr.cell (b := BX) (o := 2) HNB.out.1 (by have := HLO.out; omega)).trans bx2
    have hB2 : (W1.setCell ⟨F.gd, av', none⟩ (.int .i64 (c + al))).heap[BX]? = some (.cells #[.int .i64 ak, .int .i64 au, .int .i64 av', .int .i64 al] 132 (0, 0)) := (hFr.block BX HNB.out.1 (by have := HLO.out; omega)).trans HNB.out.2
    clear hFr du hu' df hf dv hv' f1 f2 bx3
    obtain ⟨g', cg', eg, _, hcR, hf⟩ := (hs2.ints 3 rfl).get av' (by rw [HLH.out]; exact hnv)
    injection eg with eg q1 q2
    injection eg with eg
    injection eg with eg
    subst eg
    have hv' := hcR av' (by rw [HLH.out]; exact hnv)
    clear q1 q2 hcR
    refine Mix.post_mk (C := (fun W : World => W.cell? ⟨BX, 2, none⟩ = some (.int .i64 av'))) (by first | exact hCB | exact HCW.out _) (hK _ _ ?_)
    clear hK K
    iterate 1 (refine Mix.step0 fun K hK => ?_; go_simp; (try (go_bits; try go_simp)); first | ((with_reducible refine hK _ _ ?_); clear hK K) | ((try (simp only [IntWalk.iteOmega]; try go_simp)); (try go_bits); (with_reducible refine hK _ _ ?_); clear hK K))
    refine Mix.step2n (by first | rfl | simp [Region.wanted, yielded]) fun K hK => ?_
    go_wp2_with fail
    have hs3 := (hs2p.setInts (j := av') 3 rfl (y + 1)).drew.drew.drew
    simp only [List.set_cons_zero, List.set_cons_succ] at hs3
    have hCB := ((Fr.set1 (W1.setCell ⟨F.gd, av', none⟩ (.int .i64 (c + al))) F.gh av' (.int .i64 (y + 1))).cell (b := BX) (o := 2) (lt_of hB2) (by have := HLO.out; omega)).trans hCB
    clear hs hs2 hs2p hB2 hf hv' bx2
    refine Mix.post_mk (C := (fun W : World => W.cell? ⟨BX, 2, none⟩ = some (.int .i64 av'))) (by first | exact hCB | exact HCW.out _) (hK _ _ ?_)
    clear hK K
    refine Mix.done ?_
    have hcb : (((W1.setCell ⟨F.gd, av', none⟩ (.int .i64 (c + al))).setCell ⟨F.gh, av', none⟩ (.int .i64 (y + 1))).drew.drew.drew).cell? ⟨BX, 2, none⟩ = some (.int .i64 av') := hCB
    clear hCB
    generalize World.drew (World.drew (World.drew _)) = W3 at hs3 hcb ⊢
    go_wp2_with fail
    refine (push_sep hs3 0 rfl (c + al) av' (by have := HA.out.len; omega)).mono ?_
    rintro en w2 ⟨rfl, Q2, hp, hs4⟩
    simp only [List.set_cons_zero] at hs4
    have HN2 := Lib.hid (HN.out.perm hp.symm)
    clear HN hs3 hp hcb
    go_wp2_with fail
    refine Round.intro (O.length - (i + 1)) ?measure6 (by kernel_rfl) (hJ1 _ _ _ ?rel6)
    case' rel6 => (try dsimp only [nthV])
    case measure6 => omega
    case rel6 => exact ⟨i + 1, _, _, _, by go_num, hlt, rfl, HN2.out, hs4⟩
  ·obtain rfl : i = O.length := by omega
   have hd := HA.out.dj
   rw [List.drop_length] at hd
   have HD := Lib.hid hd
   clear hd
   go_wp2_with fail
   exact bodyPost_end (results_none rfl _ _ _) rfl ⟨⟨_, rfl⟩, D, H, Q', HD.out, HA.out.len, hs⟩
end Go.Proofs.Ytjijhpflkkicaaa
