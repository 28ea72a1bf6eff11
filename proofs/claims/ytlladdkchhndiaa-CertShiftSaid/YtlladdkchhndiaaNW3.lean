/-
  Package net: Cost, walked.
-/
import Derived.Test.YtlladdkchhndiaaNSeq
namespace Go.Proofs.Ytlladdkchhndiaa
open Go Go.RowKit Go.Mem Go.NetP Go.Shelf

attribute [local go_sem] Oper.semAt_some

/-- What has been summed when these edges have come. -/
def sumP (pre : List (Ed × Int)) : Int := pre.foldl (fun s x => wrap64 (s + wrap64 (x.2 * x.1.k))) 0
theorem sumP_snoc (pre : List (Ed × Int)) (x : Ed × Int) : sumP (pre ++ [x]) = wrap64 (sumP pre + wrap64 (x.2 * x.1.k)) := by simp [sumP]
theorem sumP_pairs {n : Int} {es : List Ed} {fl : List Int} (h : withinB n es fl = true) : ∀ k, k ≤ es.length → sumP (pairs es fl k) = flowCost es fl k
  | 0, _ => by simp [pairs, sumP, flowCost]
  | k + 1, hk => by
    have hlt : k < es.length := by omega
    have hl := (within_cap h).1
    have ih := sumP_pairs h k (by omega)
    have b0 := flowCost_bound h (i := k + 1) hk
    have b1 := costP_bound h hlt
    rw [pairs_succ hl hlt, sumP_snoc, ih, flowCost_succ, edAt_of hlt]
    rw [flowCost_succ, edAt_of hlt] at b0
    show wrap64 (_ + wrap64 (fl.getD k 0 * es[k].k)) = _
    rw [IntWalk.wrap64_in (fl.getD k 0 * es[k].k) ⟨by omega, by omega⟩, IntWalk.wrap64_in _ ⟨by omega, by omega⟩]
def GE (x : Ed × Int) : Prop := (-1000 ≤ x.1.k ∧ x.1.k ≤ 1000) ∧ 0 ≤ x.2 ∧ x.2 ≤ 4503599627370496

set_option maxRecDepth 100000 in
set_option maxHeartbeats 4000000 in
theorem cost_any (nn : Int) (a : Option Addr) (c : Nat) (es : List Ed) (v : Value) (fl : List Int) (w : World) (h : RdG edR w (.slice a es.length c) es) (h' : Rd .i64 w v fl) :
    Calls Try.prog 17 #[.agg #[.int .i64 nn, .slice a es.length c], v] w fun e w' => e = .returned (.int .i64 (costV nn es fl)) ∧ Below w.heap.size w w' := by
  have hle := h'.le'
  obtain ⟨a', c', rfl⟩ := h'.shape
  have hs0 := (Sep.start w).newCells #[.int .i64 nn, .slice a es.length c] 24
  cases hr : withinB nn es fl
  · have H := Lib.hid (show costV nn es fl = 0 by simp [costV, hr])
    go_enter Try.func17, Try.ntmps17
    go_wp2_with fail
    refine (within_any _ _ _ es _ fl _ (hs0.rdG h) (hs0.rd h')).mono ?_
    rintro en w1 ⟨rfl, hb1⟩
    have hs1 := hs0.belowStep hb1
    rw [hr]
    clear hs0 hb1 hr
    go_wp2_with fail
    go_ret
    exact ⟨by rw [H.out]; rfl, hs1.below⟩
  · have HR := Lib.hid hr
    have HV := Lib.hid (show costV nn es fl = flowCost es fl fl.length by simp [costV, hr])
    obtain ⟨hlen, hright, _⟩ := within_cap hr
    have HL := Lib.hid hlen
    obtain ⟨_, _, k3, _, hed⟩ := right_cap hright
    have HG := Lib.hid (fun (k : Nat) (hk : k < es.length) => (show GE (es[k], fl.getD k 0) from by
      have h1 := (edgeB_iff _ _).1 (hed _ (List.getElem_mem hk))
      obtain ⟨h2, h3⟩ := within_at HR.out hk
      exact ⟨⟨h1.2.2.2.2.1, h1.2.2.2.2.2⟩, h2, by show fl.getD k 0 ≤ _; omega⟩))
    clear hlen hright hed
    refine (callsIn_wide (n := 6)).1 ?_
    refine callsIn_of_wp_marks Try.func17 rfl trivial ?_ rfl
    simp only [Try.ntmps17, List.size_toArray, List.length_cons, List.length_nil, Nat.reduceAdd, Nat.reduceSub, Array.replicate_succ, Array.replicate_zero, List.push_toArray, List.append_toArray, List.nil_append, List.cons_append]
    have HW := Lib.hid (within_any nn a c es _ fl _ (hs0.rdG h) (hs0.rd h'))
    rw [hr] at HW
    clear hr
    gi_wp2_with fail
    refine ⟨trivial, (callsIn_wide.2 HW.out).mono ?_⟩
    rintro en w1 ⟨rfl, hb1⟩
    have hs1 := hs0.belowStep hb1
    clear hs0 hb1 HW
    have n0 := cell_of (hs1.cells 0 rfl) 0
    have n1 := cell_of (hs1.cells 0 rfl) 1
    simp only [List.getElem?_toArray, List.getElem?_cons_zero, List.getElem?_cons_succ] at n0 n1
    have hs2 := hs1.newCells #[.int .i64 0] 2
    have hlt0 := lt_of (hs1.cells 0 rfl)
    gi_wp2_with fail
    refine ⟨trivial, (callsIn_wide.2 (edges_calls _ _ _ _ _ _ _ _)).mono ?_⟩
    rintro en w2 ⟨rfl, rfl⟩
    have hs3 := (hs2.newCells #[.int .i64 nn, .slice a es.length c] 24).newCells #[.slice a' fl.length c'] 25
    simp only [World.size_alloc] at hs3
    gi_wp2_with fail
    obtain ⟨W0, hW0⟩ : ∃ W0, W0 = ((w1.alloc (Obj.cells #[Value.int IntKind.i64 0] 2)).alloc (Obj.cells #[Value.int IntKind.i64 nn, Value.slice a es.length c] 24)).alloc (Obj.cells #[Value.slice a' fl.length c'] 25) := ⟨_, rfl⟩
    have hsz : W0.heap.size = w1.heap.size + 3 := by rw [hW0]; simp
    rw [← hW0] at hs3 ⊢
    have hb13 : Below w1.heap.size w1 W0 := by
      rw [hW0]; exact (((Below.refl _ w1).alloc (Nat.le_refl _) _).alloc (by simp) _).alloc (by simp; omega) _
    clear hW0 hs2 n0 n1
    have hcn := cell_of (hs3.cells 1 rfl)
    have hcf := cell_of (hs3.cells 0 rfl) 0
    have hrd := hs1.rdG h
    have hrd' := hs1.rd h'
    refine wpIn_rangeFunc_ownH rfl (by decide) (gf := 39) (lb := #[.pointer (some ⟨w1.heap.size + 1, 0, none⟩), .pointer (some ⟨w1.heap.size + 1 + 1, 0, none⟩)]) rfl trivial (enters_of Try.func39 (by kernel_rfl) rfl)
      (edges_stops Fence.wide (6 - 1) trivial rfl rfl (by decide) (w1.heap.size + 3) (· = w1.heap.size) (w1.heap.size + 1) (w1.heap.size + 1 + 1) nn a a' c c' es fl HL.out (by omega) (by omega) (by omega) (by omega) (by omega) W0 (by omega) GE ?hG hcn hcf ?hce ?hcx) KeepX.trans (keepX_b (by omega)) (Below.refl _ _) (fun _ => rfl)
      (fun pre W => Sep w W [cellsT w1.heap.size #[.int .i64 (sumP (pre.map Subtype.val))] 2] ∧ W0.heap.size ≤ W.heap.size)
      (fun _ _ _ => False)
      (OwnFrom.and (sep_ownFrom _ (Nat.le_trans hs1.size (by omega)) (fun s A hA => by simp at hA; subst hA; exact cellsT_cells _ _ _)) (fun _ _ _ _ h hg _ => Nat.le_trans h hg.size))
      (fun _ _ _ _ _ hs _ _ => hs)
      ⟨hs3.tail.tail.takeN 1, Nat.le_refl _⟩
      (fun x a1 W => ∃ Bx, w1.heap.size < Bx ∧ W.heap[Bx]? = some (.cells #[.int .i64 x.1.1.f, .int .i64 x.1.1.t, .int .i64 x.1.1.c, .int .i64 x.1.1.k] 42 (0, 0)) ∧
        a1 = { tmps := #[Value.agg #[Value.int IntKind.i64 nn, Value.slice a es.length c], Value.slice a' fl.length c', Value.pointer (some { block := w.heap.size, off := 0 }), undef, Value.int IntKind.i64 0,
            Value.pointer (some { block := w1.heap.size, off := 0 }), Value.pointer (some ⟨Bx, 0, none⟩), .int .i64 x.1.2,
            Value.agg #[Value.int IntKind.i64 nn, Value.slice a es.length c], Value.slice a' fl.length c',
            Value.bool true, Value.bool false, Value.agg #[Value.int IntKind.i64 nn, Value.slice a es.length c],
            Value.slice a' fl.length c', .func (.func 39) #[] #[.pointer (some ⟨w1.heap.size + 1, 0, none⟩), .pointer (some ⟨w1.heap.size + 1 + 1, 0, none⟩)], .agg #[.int .i64 x.1.1.f, .int .i64 x.1.1.t, .int .i64 x.1.1.c, .int .i64 x.1.1.k], .int .i64 x.1.2, undef, undef, undef, undef, undef, undef, undef], defers := [] })
      (fun x a1 _ X Y row hs hg hr => by obtain ⟨Bx, h1, h2, h3⟩ := hs; exact ⟨Bx, h1, cellsRow_own Bx _ (fun (_ : Unit) => _) () X Y row h2 hg (fun r e => (hr r e).2), h3⟩)
      ?assign ?body ?done ?stop
    case hG => exact fun k hk => HG.out k hk
    case hce =>
      intro i hi
      obtain ⟨b, o, e, hb, hc⟩ := hrd.at i hi
      exact ⟨b, o, e, by omega, by omega, fun j hj => (hb13.cell (p := ⟨b, _, none⟩) hb).trans (hc j hj)⟩
    case hcx =>
      intro i hi
      obtain ⟨b, o, e, hb, hc⟩ := hrd'.at i hi
      exact ⟨b, o, e, by omega, by omega, (hb13.cell (p := ⟨b, _, none⟩) hb).trans hc⟩
    case assign =>
      rintro l pre ⟨⟨⟨ef, et, ec, ek⟩, y⟩, hx⟩ W K ⟨hI, hsW⟩ hK
      have hsz' := Nat.le_of_eq hsz.symm
      clear hsz
      dsimp only [encE]
      gi_wp2
      exact hK _ _ ((KeepsOthers.alloc _ _).from _) (KeepX.alloc (by omega) _) ⟨hI.alloc _, by simp; omega⟩ ⟨W.heap.size, by omega, heap_alloc_new W _, rfl⟩
    case body =>
      rintro l pre ⟨x, hx⟩ a1 W hl _ ⟨hI, hsW⟩ ⟨Bx, hBx, hbx, rfl⟩ hlt
      have s0 := cell_of (hI.cells 0 rfl) 0
      have f0 := frozen_of (hI.cells 0 rfl) 0
      have e3 := cell_of hbx 3
      simp only [List.getElem?_toArray, List.getElem?_cons_zero, List.getElem?_cons_succ] at s0 e3
      have HB : W0.heap.size ≤ w1.heap.size + 3 ∧ w1.heap.size + 3 ≤ W0.heap.size := by omega
      clear hsz
      gi_wp2
      refine ⟨(KeepsOthers.setCell _ _ _).from _, KeepX.setCell _ _ _ rfl, ?_, by simpa [World.setCell] using hsW⟩
      rw [List.map_append, List.map_cons, List.map_nil, sumP_snoc]
      exact hI.turn 0 rfl fun S hS => ⟨_, ⟨rfl, cells_set hS.2 rfl⟩, by rw [hS.1]; exact Fr.setCell _ _ _ rfl, fun j hj => .inl (by rw [hS.1]; exact hj)⟩
    case done =>
      rintro D xs W hD hS ⟨hI, hsW⟩ hK
      have s0 := cell_of (hI.cells 0 rfl) 0
      simp only [List.getElem?_toArray, List.getElem?_cons_zero, List.getElem?_cons_succ] at s0
      gi_wp2
      refine ⟨by simp, .inl ⟨_, _, rfl, run_takeDeferred hK, ?_⟩⟩
      refine ⟨_, results_tmp rfl _ _ _, ?_, ?_⟩
      · rw [HV.out, HL.out, ← sumP_pairs HR.out _ (Nat.le_refl _)]; rfl
      · exact (hI.turned (fun A hA => by simp at hA; subst hA; exact cellsT_cells _ _ _) (grownBy_putObj' _ D (.deferred none)) (fun r e => by cases e; exact ⟨Nat.le_trans hs1.size (by omega), _, hK, rfl⟩)).below
    case stop =>
      rintro D c pre W _ _ h _
      exact h.elim
end Go.Proofs.Ytlladdkchhndiaa
