/-
  Package net: the edges of a net gone through by a function, walked.
-/
import Derived.RangeFuncNested
import Derived.RangeFuncBound
import Derived.RangeFuncCalls
import Derived.RangeFuncLeaves
import Derived.Shelf.Abstract
import Derived.Shelf.RegionOpen
import Derived.WalkKit
import Derived.OwnWalkIn
import Derived.TacticsInMore
import Derived.LoopNIn
import Derived.LoopIn
import Derived.Stop.RegionWithIn
import Derived.Test.YtfnkmkfkomhhnaaMixIn
import Derived.Test.YtfnkmkfkomhhnaaSeq
import Derived.Test.YtfnkmkfkomhhnaaNW2
namespace Go.Proofs.Ytfnkmkfkomhhnaa
open Go Go.RowKit Go.Mem Go.NetP Go.Shelf

attribute [local go_sem] Oper.semAt_some

/-- What comes: each edge, and the number on it. -/
def pairs (es : List Ed) (fl : List Int) (k : Nat) : List (Ed × Int) := (es.zip fl).take k
theorem pairs_succ {es : List Ed} {fl : List Int} (hl : fl.length = es.length) {k : Nat} (hk : k < es.length) : pairs es fl (k + 1) = pairs es fl k ++ [(es[k], fl.getD k 0)] := by
  have h : k < (es.zip fl).length := by simp; omega
  have h2 : k < fl.length := by omega
  unfold pairs
  rw [List.take_succ_eq_append_getElem h]
  simp [h2]
def encE (x : Ed × Int) : Array Value := #[.agg #[.int .i64 x.1.f, .int .i64 x.1.t, .int .i64 x.1.c, .int .i64 x.1.k], .int .i64 x.2]

/-- A round's two ways out, under one name. -/
def Out (J Jx : List (Ed × Int) → World → Prop) (N : Nat) (S : Nat → Prop) (p : List (Ed × Int)) (W : World) (b : Bool) (W' : World) : Prop := (b = true ∧ J p W' ∧ KeepX N S W W') ∨ (b = false ∧ Jx p W')

set_option maxRecDepth 100000 in
set_option maxHeartbeats 3000000 in
theorem edges1_in (F : Fence) (n : Nat) (hf : F.fn 61) (hdep : F.depth = none) (hro : F.round = none) (hn : 1 ≤ n) (l N : Nat) (S : Nat → Prop) (Bn Bf : Nat) (nn : Int) (a1 a2 : Option Addr) (c1 c2 : Nat) (es : List Ed) (fl : List Int) (hl : fl.length = es.length) (hsm : es.length ≤ 1000)
    (hBn : Bn < N) (hSn : ¬ S Bn) (hBf : Bf < N) (hSf : ¬ S Bf) (J Jx : List (Ed × Int) → World → Prop) (W : World) (hN : N ≤ W.heap.size) (G : Ed × Int → Prop) (hG : ∀ (k : Nat) (hk : k < es.length), G (es[k], fl.getD k 0))
    (hJa : ∀ pre W1 (o : Obj), W.heap.size ≤ W1.heap.size → J pre W1 → J pre (W1.alloc o)) (hJd : ∀ pre W1, J pre W1 → J pre W1.drew)
    (hY : ∀ pre x W1, G x → J pre W1 → pre.length < es.length → YieldAt F (n - 1) Try.prog l (encE x) W1 fun e W' =>
      (e = .returned (.bool true) ∧ J (pre ++ [x]) W' ∧ KeepX N S W1 W') ∨ (e = .returned (.bool false) ∧ Jx (pre ++ [x]) W'))
    (cn : ∀ j, W.cell? ⟨Bn, j, none⟩ = #[Value.int .i64 nn, .slice a1 es.length c1][j]?) (cf : W.cell? ⟨Bf, 0, none⟩ = some (.slice a2 fl.length c2))
    (ce : ∀ (i : Nat) (hi : i < es.length), ∃ b o, a1 = some ⟨b, o, none⟩ ∧ b < N ∧ ¬ S b ∧ ∀ (j : Nat), j < 4 → W.cell? ⟨b, o + i * 4 + j, none⟩ = (edR.cells es[i])[j]?) (cx : ∀ i, i < fl.length → ∃ b o, a2 = some ⟨b, o, none⟩ ∧ b < N ∧ ¬ S b ∧ W.cell? ⟨b, o + i, none⟩ = some (.int .i64 (fl.getD i 0))) (h0 : J [] W) :
    CallsIn F n Try.prog 61 #[.func (.yield l) #[] #[], .pointer (some ⟨Bn, 0, none⟩), .pointer (some ⟨Bf, 0, none⟩)] W fun e W' => (∃ v, e = .returned v) ∧
      (J (pairs es fl es.length) W' ∨ ∃ k, k ≤ es.length ∧ Jx (pairs es fl k) W') := by
  refine callsIn_of_wp Try.func61 rfl hf ?_ hro
  simp only [Try.ntmps61, List.size_toArray, List.length_cons, List.length_nil, Nat.reduceAdd, Nat.reduceSub, Array.replicate_succ, Array.replicate_zero, List.push_toArray, List.append_toArray, List.nil_append, List.cons_append]
  have n1 := cn 1
  simp only [List.getElem?_toArray, List.getElem?_cons_zero, List.getElem?_cons_succ] at n1
  have CE := Lib.hid ce
  have CX := Lib.hid cx
  have HY := Lib.hid hY
  have HL := Lib.hid hl
  have HJA := Lib.hid hJa
  have HJD := Lib.hid hJd
  have H0 := Lib.hid h0
  have HG := Lib.hid hG
  clear ce cx hY cn hl hJa hJd h0 hG
  gi_wp2
  gi_loopw [9] (fun i wr => ∃ k : Nat, k ≤ es.length ∧ i = .int .i64 k ∧ J (pairs es fl k) wr ∧ KeepX N S W wr) (fun i _ => es.length - (intOf i).toNat)
  case atStart => exact ⟨0, Nat.zero_le _, rfl, H0.out, KeepX.refl _ _ _⟩
  case round =>
    obtain ⟨k, hk, rfl, hJs, hkx⟩ := hrel
    have HK := Lib.hid hkx
    have HJ := Lib.hid hJs
    clear hJs hkx n1
    by_cases hlt : k < es.length
    · have hlf : k < fl.length := by rw [HL.out]; exact hlt
      obtain ⟨b1, o1, rfl, hb1, hS1, ce⟩ := CE.out k hlt
      obtain ⟨b2, o2, rfl, hb2, hS2, cx⟩ := CX.out k hlf
      have CEk := Lib.hid ce
      have CXk := Lib.hid cx
      clear ce cx
      obtain ⟨e, hee⟩ : ∃ e, e = es[k] := ⟨_, rfl⟩
      obtain ⟨x, hx⟩ : ∃ x, x = fl.getD k 0 := ⟨_, rfl⟩
      have e0 : wr.cell? ⟨b1, o1 + k * 4, none⟩ = some (.int .i64 e.f) := by rw [hee]; exact (HK.out.cell hb1 hS1).trans (CEk.out 0 (by decide))
      have e1 : wr.cell? ⟨b1, o1 + k * 4 + 1, none⟩ = some (.int .i64 e.t) := by rw [hee]; exact (HK.out.cell hb1 hS1).trans (CEk.out 1 (by decide))
      have e2 : wr.cell? ⟨b1, o1 + k * 4 + 2, none⟩ = some (.int .i64 e.c) := by rw [hee]; exact (HK.out.cell hb1 hS1).trans (CEk.out 2 (by decide))
      have e3 : wr.cell? ⟨b1, o1 + k * 4 + 3, none⟩ = some (.int .i64 e.k) := by rw [hee]; exact (HK.out.cell hb1 hS1).trans (CEk.out 3 (by decide))
      have x0 : wr.cell? ⟨b2, o2 + k, none⟩ = some (.int .i64 x) := by rw [hx]; exact (HK.out.cell hb2 hS2).trans CXk.out
      have f0 : wr.cell? ⟨Bf, 0, none⟩ = some (.slice (some ⟨b2, o2, none⟩) fl.length c2) := (HK.out.cell hBf hSf).trans cf
      have HE := Lib.hid hee
      have HX := Lib.hid hx
      clear hee hx
      gi_wp2
      have hkA : KeepX N S W (wr.alloc (.cells #[.int .i64 e.f, .int .i64 e.t, .int .i64 e.c, .int .i64 e.k] 70)) := HK.out.trans (KeepX.alloc (Nat.le_trans hN HK.out.1) _)
      have hJA : J (pairs es fl k) (wr.alloc (.cells #[.int .i64 e.f, .int .i64 e.t, .int .i64 e.c, .int .i64 e.k] 70)).drew := HJD.out _ _ (HJA.out _ _ _ HK.out.1 HJ.out)
      have y0 : (wr.alloc (.cells #[.int .i64 e.f, .int .i64 e.t, .int .i64 e.c, .int .i64 e.k] 70)).cell? ⟨b2, o2 + k, none⟩ = some (.int .i64 x) := by rw [HX.out]; exact (hkA.cell hb2 hS2).trans CXk.out
      have y1 : (wr.alloc (.cells #[.int .i64 e.f, .int .i64 e.t, .int .i64 e.c, .int .i64 e.k] 70)).cell? ⟨Bf, 0, none⟩ = some (.slice (some ⟨b2, o2, none⟩) fl.length c2) := (hkA.cell hBf hSf).trans cf
      clear e0 e1 e2 e3 x0 f0
      obtain ⟨fn, tmps, assign, body, hy, hR⟩ := HY.out _ (e, x) _ (by rw [HE.out, HX.out]; exact HG.out k hlt) hJA (by unfold pairs; simp; omega)
      have hR' := hR.mono (R' := fun en W' => ∃ b, en = .returned (.bool b) ∧ Out J Jx N S (pairs es fl k ++ [(e, x)]) (wr.alloc (.cells #[.int .i64 e.f, .int .i64 e.t, .int .i64 e.c, .int .i64 e.k] 70)).drew b W')
        (fun en W' h => by
          rcases h with ⟨h1, h2, h3⟩ | ⟨h1, h2⟩
          · exact ⟨true, h1, .inl ⟨rfl, h2, h3⟩⟩
          · exact ⟨false, h1, .inr ⟨rfl, h2⟩⟩)
      dsimp only [encE] at hy
      have HKA := Lib.hid hkA
      have HJA2 := Lib.hid hJA
      have HR' := Lib.hid hR'
      clear hR hR' hkA hJA
      refine MixI.region hdep [0, 0, 0, 0, 0, 0, 2, 0] (fun _ => True) (by kernel_rfl) (by kernel_rfl) trivial ?_
      simp only [List.zip_cons_cons, List.zip_nil_right]
      iterate 6 (refine MixI.step0 fun K hK => ?_; go_simp; (try (go_bits; try go_simp)); first | ((with_reducible refine hK _ _ ?_); clear hK K) | ((try (simp only [IntWalk.iteOmega]; try go_simp)); (try go_bits); (with_reducible refine hK _ _ ?_); clear hK K))
      refine MixI.step2n (by first | rfl | simp [Region.wanted, yielded]) fun K hK => ?_
      gi_wp2_with fail
      refine HR'.out.mono ?_
      rintro en W3 ⟨b, rfl, h3⟩
      gi_wp2_with fail
      refine MixI.post_mk (C := (fun _ => True)) trivial (hK _ _ ?_)
      clear hK K
      iterate 1 (refine MixI.step0 fun K hK => ?_; go_simp; (try (go_bits; try go_simp)); first | ((with_reducible refine hK _ _ ?_); clear hK K) | ((try (simp only [IntWalk.iteOmega]; try go_simp)); (try go_bits); (with_reducible refine hK _ _ ?_); clear hK K))
      refine MixI.done ?_
      rcases h3 with ⟨rfl, hJ3, hk3⟩ | ⟨rfl, hJx3⟩
      · gi_wp2
        go_roundw
        case rel => exact ⟨k + 1, hlt, by go_num, by rw [pairs_succ HL.out hlt, ← HE.out, ← HX.out]; exact hJ3, (HKA.out.drew).trans hk3⟩
        case measure => simp [intOf]; omega
      · gi_wp2
        refine bodyPost_ret (results_none rfl _ _ _) rfl ?_
        exact ⟨⟨_, rfl⟩, .inr ⟨k + 1, hlt, by rw [pairs_succ HL.out hlt, ← HE.out, ← HX.out]; exact hJx3⟩⟩
    · obtain rfl : k = es.length := by omega
      gi_wp2
      go_end0
      exact ⟨⟨_, rfl⟩, .inl HJ.out⟩

/-- The edges that come, as a contract: 'G' is what is known of each. -/
theorem edges_stops (F : Fence) (n : Nat) (hf : F.fn 61) (hdep : F.depth = none) (hro : F.round = none) (hn : 1 ≤ n) (N : Nat) (S : Nat → Prop) (Bn Bf : Nat) (nn : Int) (a1 a2 : Option Addr) (c1 c2 : Nat) (es : List Ed) (fl : List Int) (hl : fl.length = es.length) (hsm : es.length ≤ 1000)
    (hBn : Bn < N) (hSn : ¬ S Bn) (hBf : Bf < N) (hSf : ¬ S Bf) (w : World) (hN : N ≤ w.heap.size) (G : Ed × Int → Prop) (hG : ∀ (k : Nat) (hk : k < es.length), G (es[k], fl.getD k 0))
    (cn : ∀ j, w.cell? ⟨Bn, j, none⟩ = #[Value.int .i64 nn, .slice a1 es.length c1][j]?) (cf : w.cell? ⟨Bf, 0, none⟩ = some (.slice a2 fl.length c2))
    (ce : ∀ (i : Nat) (hi : i < es.length), ∃ b o, a1 = some ⟨b, o, none⟩ ∧ b < N ∧ ¬ S b ∧ ∀ (j : Nat), j < 4 → w.cell? ⟨b, o + i * 4 + j, none⟩ = (edR.cells es[i])[j]?) (cx : ∀ i, i < fl.length → ∃ b o, a2 = some ⟨b, o, none⟩ ∧ b < N ∧ ¬ S b ∧ w.cell? ⟨b, o + i, none⟩ = some (.int .i64 (fl.getD i 0))) :
    SeqStopsK F n Try.prog 61 #[.pointer (some ⟨Bn, 0, none⟩), .pointer (some ⟨Bf, 0, none⟩)] (fun x : { x // G x } => encE x.1) (KeepX N S) (fun xs => xs.map Subtype.val = pairs es fl es.length) (fun _ => True) es.length w := fun l J Jx W hW hJ hJx hY h0 => by
  have hlt : ∀ b, b < N → b < w.heap.size := fun b hb => Nat.lt_of_lt_of_le hb hN
  have cell : ∀ b o, b < N → W.cell? ⟨b, o, none⟩ = w.cell? ⟨b, o, none⟩ := fun b o hb => hW.cell (p := ⟨b, o, none⟩) (hlt b hb)
  refine (edges1_in F n hf hdep hro hn l N S Bn Bf nn a1 a2 c1 c2 es fl hl hsm hBn hSn hBf hSf (fun pre W' => ∃ p : List { x // G x }, p.map Subtype.val = pre ∧ J p W' ∧ W.heap.size ≤ W'.heap.size) (fun pre W' => ∃ p : List { x // G x }, p.map Subtype.val = pre ∧ Jx p W') W (Nat.le_trans hN hW.size) G hG
    (fun pre W1 o hs h => ?_) (fun pre W1 h => ?_) (fun pre x W1 hx h hlen => ?_) (fun j => (cell _ _ hBn).trans (cn j)) ((cell _ _ hBf).trans cf) (fun i hi => by obtain ⟨b, o, e, hb, hs, h⟩ := ce i hi; exact ⟨b, o, e, hb, hs, fun j hj => (cell _ _ hb).trans (h j hj)⟩) (fun i hi => by obtain ⟨b, o, e, hb, hs, h⟩ := cx i hi; exact ⟨b, o, e, hb, hs, (cell _ _ hb).trans h⟩) ⟨[], rfl, h0, Nat.le_refl _⟩).mono ?_
  · obtain ⟨p, h1, h2, h3⟩ := h
    exact ⟨p, h1, hJ p _ _ none h2 (World.grownBy_alloc W1 o none) (fun r e => by cases e), by simp; omega⟩
  · obtain ⟨p, h1, h2, h3⟩ := h
    exact ⟨p, h1, hJ p _ _ none h2 ⟨rfl, rfl, rfl, Nat.le_refl _, fun _ _ _ => rfl⟩ (fun r e => by cases e), h3⟩
  · obtain ⟨p, h1, h2, h3⟩ := h
    have hy := hY p ⟨x, hx⟩ W1 h2 (by rw [← h1, List.length_map] at hlen; exact hlen)
    obtain ⟨fn, tmps, assign, body, hy1, hR⟩ := hy
    refine ⟨fn, tmps, assign, body, hy1, hR.mono (fun e W' h => ?_)⟩
    rcases h with ⟨a1, a2, a3⟩ | ⟨a1, a2⟩
    · exact .inl ⟨a1, ⟨p ++ [⟨x, hx⟩], by simp [h1], a2, Nat.le_trans h3 a3.1⟩, a3⟩
    · exact .inr ⟨a1, ⟨p ++ [⟨x, hx⟩], by simp [h1], a2⟩⟩
  · rintro e W' ⟨h1, h2⟩
    refine ⟨h1, ?_⟩
    rcases h2 with ⟨p, a1, a2, _⟩ | ⟨k, _, p, a1, a2⟩
    · exact .inl ⟨p, a1, a2⟩
    · exact .inr ⟨p, trivial, a2⟩

set_option maxRecDepth 100000 in
theorem edges_calls (nn : Int) (a1 a2 : Option Addr) (n1 n2 c1 c2 : Nat) (w : World) :
    Calls Try.prog 57 #[.agg #[.int .i64 nn, .slice a1 n1 c1], .slice a2 n2 c2] w fun e w' => e = .returned (.func (.func 61) #[] #[.pointer (some ⟨w.heap.size, 0, none⟩), .pointer (some ⟨w.heap.size + 1, 0, none⟩)]) ∧ w' = (w.alloc (.cells #[.int .i64 nn, .slice a1 n1 c1] 34)).alloc (.cells #[.slice a2 n2 c2] 35) := by
  go_enter Try.func57, Try.ntmps57
  go_wp2_with fail
  go_ret
  exact ⟨rfl, rfl⟩
end Go.Proofs.Ytfnkmkfkomhhnaa
