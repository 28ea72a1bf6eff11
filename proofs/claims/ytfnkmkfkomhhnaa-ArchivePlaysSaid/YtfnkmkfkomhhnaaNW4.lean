/-
  Package net: Over, walked.
-/
import Derived.Test.YtfnkmkfkomhhnaaNSeq
import Derived.Test.YtfnkmkfkomhhnaaNOver
import Derived.OwnWalkIn
namespace Go.Proofs.Ytfnkmkfkomhhnaa
open Go Go.RowKit Go.Mem Go.NetP Go.Shelf

attribute [local go_sem] Oper.semAt_some

theorem Try.infoI64' : (Try.prog.info? 2).map (fun i => (i.zero, i.size, i.bytes)) = some (some (.int .i64 0), 1, 8) := by kernel_rfl

/-- What has come to node u when these edges have come. -/
def overP (u : Nat) (pre : List (Ed × Int)) : Int := (pre.map fun x => gain (decide (x.1.t = (u : Int))) x.2 - gain (decide (x.1.f = (u : Int))) x.2).sum
def outP (N : Nat) (pre : List (Ed × Int)) : List Int := (List.range N).map fun u => overP u pre
theorem overP_snoc (u : Nat) (pre : List (Ed × Int)) (x : Ed × Int) : overP u (pre ++ [x]) = overP u pre + (gain (decide (x.1.t = (u : Int))) x.2 - gain (decide (x.1.f = (u : Int))) x.2) := by simp [overP, List.sum_append]
theorem overP_pairs {es : List Ed} {fl : List Int} (u : Nat) (hl : fl.length = es.length) : ∀ k, k ≤ es.length → overP u (pairs es fl k) = overAt es fl u k
  | 0, _ => by simp [pairs, overP, overAt]
  | k + 1, hk => by
    have hlt : k < es.length := by omega
    rw [pairs_succ hl hlt, overP_snoc, overP_pairs u hl k (by omega), overAt_succ, edAt_of hlt]; dsimp only; omega
theorem outP_pairs {N : Nat} {es : List Ed} {fl : List Int} (hl : fl.length = es.length) : outP N (pairs es fl es.length) = overL N es fl := by
  unfold outP overL
  refine List.map_congr_left fun u _ => ?_
  rw [overP_pairs u hl _ (Nat.le_refl _), hl]
theorem outP_length (N : Nat) (pre : List (Ed × Int)) : (outP N pre).length = N := by simp [outP]
theorem outP_get {N u : Nat} (pre : List (Ed × Int)) (h : u < N) : (outP N pre).getD u 0 = overP u pre := by simp [outP, h]
theorem outP_ne {N F T : Nat} (pre : List (Ed × Int)) (c k y : Int) (hF : F < N) (hT : T < N) (hne : F ≠ T) :
    ((outP N pre).set F (overP F pre - y)).set T (overP T pre + y) = outP N (pre ++ [(⟨F, T, c, k⟩, y)]) := by
  refine List.ext_getElem (by simp [outP]) fun i h1 h2 => ?_
  have hi : i < N := by simpa [outP] using h1
  rw [List.getElem_set, List.getElem_set]
  simp only [outP, List.getElem_map, List.getElem_range, overP_snoc, gain, decide_eq_true_eq]
  by_cases h1 : T = i
  · subst h1
    have : ¬ (F : Int) = (T : Int) := by omega
    simp [this]
  · by_cases h2 : F = i
    · subst h2
      have : ¬ (T : Int) = (F : Int) := by omega
      simp [this, h1]; omega
    · have a1 : ¬ (T : Int) = (i : Int) := by omega
      have a2 : ¬ (F : Int) = (i : Int) := by omega
      simp [h1, h2, a1, a2]
theorem outP_eq {N F : Nat} (pre : List (Ed × Int)) (c k y : Int) (hF : F < N) :
    ((outP N pre).set F (overP F pre - y)).set F (overP F pre) = outP N (pre ++ [(⟨F, F, c, k⟩, y)]) := by
  refine List.ext_getElem (by simp [outP]) fun i h1 h2 => ?_
  have hi : i < N := by simpa [outP] using h1
  rw [List.getElem_set, List.getElem_set]
  simp only [outP, List.getElem_map, List.getElem_range, overP_snoc]
  by_cases h1 : F = i
  · subst h1; simp
  · simp [h1]
def GO (n : Int) (x : Ed × Int) : Prop := (0 ≤ x.1.f ∧ x.1.f < n) ∧ (0 ≤ x.1.t ∧ x.1.t < n) ∧ 0 ≤ x.2 ∧ x.2 ≤ 4503599627370496
theorem overP_bound {n : Int} (u : Nat) (p : List { x // GO n x }) : -(p.length * 4503599627370496 : Int) ≤ overP u (p.map Subtype.val) ∧ overP u (p.map Subtype.val) ≤ p.length * 4503599627370496 := by
  induction p with
  | nil => simp [overP]
  | cons x p ih =>
    obtain ⟨_, _, h0, h1⟩ := x.2
    have p1 := gain_bound (decide (x.1.1.t = (u : Int))) x.1.2 h0
    have p2 := gain_bound (decide (x.1.1.f = (u : Int))) x.1.2 h0
    have e : overP u ((x :: p).map Subtype.val) = (gain (decide (x.1.1.t = (u : Int))) x.1.2 - gain (decide (x.1.1.f = (u : Int))) x.1.2) + overP u (p.map Subtype.val) := by simp [overP]
    rw [e, List.length_cons]
    omega

set_option maxRecDepth 100000 in
set_option maxHeartbeats 4000000 in
theorem over_any (nn : Int) (a : Option Addr) (c : Nat) (es : List Ed) (v : Value) (fl : List Int) (w : World) (h : RdG edR w (.slice a es.length c) es) (h' : Rd .i64 w v fl) :
    Calls Try.prog 53 #[.agg #[.int .i64 nn, .slice a es.length c], v] w fun e w' => ∃ u, e = .returned u ∧ Sep w w' [intsT .i64 2 u (overV nn es fl)] := by
  have hle := h'.le'
  obtain ⟨a', c', rfl⟩ := h'.shape
  obtain ⟨i0, hi0, hz0, hz1, hz2⟩ := info_parts Try.infoI64'
  have hs0 := (Sep.start w).newCells #[.int .i64 nn, .slice a es.length c] 34
  cases hr : withinB nn es fl
  · have H := Lib.hid (show overV nn es fl = [] by simp [overV, hr])
    go_enter Try.func53, Try.ntmps53
    go_wp2_with fail
    refine (within_any _ _ _ es _ fl _ (hs0.rdG h) (hs0.rd h')).mono ?_
    rintro en w1 ⟨rfl, hb1⟩
    have hs1 := hs0.belowStep hb1
    rw [hr]
    clear hs0 hb1 hr
    go_wp2_with fail
    go_ret
    exact ⟨_, rfl, by rw [H.out]; exact hs1.tail.nilInts _ _⟩
  · have HR := Lib.hid hr
    obtain ⟨hlen, hright, _⟩ := within_cap hr
    have HL := Lib.hid hlen
    obtain ⟨k1, k2, k3, _, hed⟩ := right_cap hright
    obtain ⟨N, rfl⟩ : ∃ N : Nat, nn = N := ⟨nn.toNat, by omega⟩
    have HV := Lib.hid (show overV N es fl = overL N es fl by simp [overV, hr])
    have HG := Lib.hid (fun (k : Nat) (hk : k < es.length) => (show GO N (es[k], fl.getD k 0) from by
      have h1 := (edgeB_iff _ _).1 (hed _ (List.getElem_mem hk))
      obtain ⟨h2, h3⟩ := within_at HR.out hk
      exact ⟨h1.1, h1.2.1, h2, by show fl.getD k 0 ≤ _; omega⟩))
    clear hlen hright hed
    refine (callsIn_wide (n := 6)).1 ?_
    refine callsIn_of_wp_marks Try.func53 rfl trivial ?_ rfl
    simp only [Try.ntmps53, List.size_toArray, List.length_cons, List.length_nil, Nat.reduceAdd, Nat.reduceSub, Array.replicate_succ, Array.replicate_zero, List.push_toArray, List.append_toArray, List.nil_append, List.cons_append]
    have HW := Lib.hid (within_any N a c es _ fl _ (hs0.rdG h) (hs0.rd h'))
    rw [hr] at HW
    clear hr
    gi_wp2_with fail
    refine ⟨trivial, (callsIn_wide.2 HW.out).mono ?_⟩
    rintro en w1 ⟨rfl, hb1⟩
    have hs1 := hs0.belowStep hb1
    clear hs0 hb1 HW
    have n0 := cell_of (hs1.cells 0 rfl) 0
    simp only [List.getElem?_toArray, List.getElem?_cons_zero, List.getElem?_cons_succ] at n0
    gi_wp2_with (gi_at_make; refine wpListIn_makeInts rfl (.tmp 13) (.tmp 13) 35 rfl 2 i0 .i64 8 Try.underlying35 hi0 hz0 hz1 hz2 N .i64 .i64 rfl rfl hs1 ?m1 ?m2 ?m3)
    case m1 => (try simp); (try simp only [maxLen]); (try omega)
    case m2 => (try simp); (try simp only [maxLen]); (try omega)
    case m3 =>
      intro w2 g hs2
      clear n0
      have n0 := cell_of (hs2.cells 1 rfl) 0
      have n1 := cell_of (hs2.cells 1 rfl) 1
      simp only [List.getElem?_toArray, List.getElem?_cons_zero, List.getElem?_cons_succ] at n0 n1
      have hs3 := hs2.newCells #[.slice (some ⟨g, 0, none⟩) N N] 35
      have hlt0 := lt_of (hs2.cells 1 rfl)
      have hg0 : g < w2.heap.size := (hs2.ints 0 rfl).low g rfl
      have hs1' := hs2
      clear hs1
      gi_wp2_with fail
      refine ⟨trivial, (callsIn_wide.2 (edges_calls _ _ _ _ _ _ _ _)).mono ?_⟩
      rintro en w3 ⟨rfl, rfl⟩
      have hs4 := (hs3.newCells #[.int .i64 N, .slice a es.length c] 34).newCells #[.slice a' fl.length c'] 35
      simp only [World.size_alloc] at hs4
      gi_wp2_with fail
      obtain ⟨W0, hW0⟩ : ∃ W0, W0 = ((w2.alloc (Obj.cells #[.slice (some ⟨g, 0, none⟩) N N] 35)).alloc (Obj.cells #[Value.int IntKind.i64 N, Value.slice a es.length c] 34)).alloc (Obj.cells #[Value.slice a' fl.length c'] 35) := ⟨_, rfl⟩
      have hsz : W0.heap.size = w2.heap.size + 3 := by rw [hW0]; simp
      rw [← hW0] at hs4 ⊢
      have hb13 : Below w2.heap.size w2 W0 := by
        rw [hW0]; exact (((Below.refl _ w2).alloc (Nat.le_refl _) _).alloc (by simp) _).alloc (by simp; omega) _
      clear hW0 hs3 n0 n1
      have hcn := cell_of (hs4.cells 1 rfl)
      have hcf := cell_of (hs4.cells 0 rfl) 0
      have hrd := hs2.rdG h
      have hrd' := hs2.rd h'
      have hwg : w.heap.size ≤ g := by
        obtain ⟨S, hS, hk⟩ := hs2.fresh 0 rfl
        exact hk g (by rw [hS.1]; rfl)
      refine wpIn_rangeFunc_ownH rfl (by decide) (gf := 61) (lb := #[.pointer (some ⟨w2.heap.size + 1, 0, none⟩), .pointer (some ⟨w2.heap.size + 1 + 1, 0, none⟩)]) rfl trivial (enters_of Try.func61 (by kernel_rfl) rfl)
        (edges_stops Fence.wide (6 - 1) trivial rfl rfl (by decide) (w2.heap.size + 3) (· = g) (w2.heap.size + 1) (w2.heap.size + 1 + 1) N a a' c c' es fl HL.out (by omega) (by omega) (by omega) (by omega) (by omega) W0 (by omega) (GO N) ?hG hcn hcf ?hce ?hcx) KeepX.trans (keepX_b (by omega)) (Below.refl _ _) (fun _ => rfl)
        (fun pre W => Sep w W [cellsT w2.heap.size #[.slice (some ⟨g, 0, none⟩) N N] 35, intsT .i64 2 (.slice (some ⟨g, 0, none⟩) N N) (outP N (pre.map Subtype.val))] ∧ W0.heap.size ≤ W.heap.size)
        (fun _ _ _ => False)
        (OwnFrom.and (sep_ownFrom _ (Nat.le_trans hs1'.size (by omega)) (fun s A hA => by simp at hA; rcases hA with rfl | rfl; exact cellsT_cells _ _ _; exact intsT_cells _ _ _ _)) (fun _ _ _ _ h hg _ => Nat.le_trans h hg.size))
        (fun _ _ _ _ _ hs _ _ => hs)
        ⟨by have := hs4.tail.tail.takeN 2; simpa [outP, overP, List.map_const'] using this, Nat.le_refl _⟩
        (fun x a1 W => ∃ Bx, w2.heap.size < Bx ∧ W.heap[Bx]? = some (.cells #[.int .i64 x.1.1.f, .int .i64 x.1.1.t, .int .i64 x.1.1.c, .int .i64 x.1.1.k] 70 (0, 0)) ∧
          a1 = { tmps := #[Value.agg #[Value.int IntKind.i64 N, Value.slice a es.length c], Value.slice a' fl.length c', Value.pointer (some { block := w.heap.size, off := 0 }), undef, .slice none 0 0,
              Value.pointer (some { block := w2.heap.size, off := 0 }), Value.pointer (some ⟨Bx, 0, none⟩), .int .i64 x.1.2,
              Value.agg #[Value.int IntKind.i64 N, Value.slice a es.length c], Value.slice a' fl.length c',
              Value.bool true, Value.bool false, .pointer (some ⟨w.heap.size, 0, none⟩), .int .i64 N, .slice (some ⟨g, 0, none⟩) N N, Value.agg #[Value.int IntKind.i64 N, Value.slice a es.length c],
              Value.slice a' fl.length c', .func (.func 61) #[] #[.pointer (some ⟨w2.heap.size + 1, 0, none⟩), .pointer (some ⟨w2.heap.size + 1 + 1, 0, none⟩)], .agg #[.int .i64 x.1.1.f, .int .i64 x.1.1.t, .int .i64 x.1.1.c, .int .i64 x.1.1.k], .int .i64 x.1.2, undef, undef, undef, undef, undef, undef, undef, undef, undef, undef, undef, undef, undef, undef, undef, undef, undef], defers := [] })
        (fun x a1 _ X Y row hs hg hr => by obtain ⟨Bx, h1, h2, h3⟩ := hs; exact ⟨Bx, h1, cellsRow_own Bx _ (fun (_ : Unit) => _) () X Y row h2 hg (fun r e => (hr r e).2), h3⟩)
        ?assign ?body ?done ?stop
      case hG => exact fun k hk => HG.out k hk
      case hce =>
        intro i hi
        obtain ⟨b, o, e, hb, hc⟩ := h.at i hi
        have := hs1'.size
        exact ⟨b, o, e, by omega, by omega, fun j hj => (hs4.cell hb).trans (hc j hj)⟩
      case hcx =>
        intro i hi
        obtain ⟨b, o, e, hb, hc⟩ := h'.at i hi
        have := hs1'.size
        exact ⟨b, o, e, by omega, by omega, (hs4.cell hb).trans hc⟩
      case assign =>
        rintro l pre ⟨⟨⟨ef, et, ec, ek⟩, y⟩, hx⟩ W K ⟨hI, hsW⟩ hK
        have hsz' := Nat.le_of_eq hsz.symm
        clear hsz
        dsimp only [encE]
        gi_wp2
        exact hK _ _ ((KeepsOthers.alloc _ _).from _) (KeepX.alloc (by omega) _) ⟨hI.alloc _, by simp; omega⟩ ⟨W.heap.size, by omega, heap_alloc_new W _, rfl⟩
      case body =>
        rintro l pre ⟨⟨⟨ef, et, ec, ek⟩, y⟩, hx⟩ a1 W hl _ ⟨hI, hsW⟩ ⟨Bx, hBx, hbx, rfl⟩ hlt
        have hx' := hx
        obtain ⟨⟨f0, f1⟩, ⟨t0, t1⟩, y0, y1⟩ := hx'
        dsimp only at f0 f1 t0 t1 y0 y1
        obtain ⟨F, rfl⟩ : ∃ F : Nat, ef = F := ⟨ef.toNat, by omega⟩
        obtain ⟨T, rfl⟩ : ∃ T : Nat, et = T := ⟨et.toNat, by omega⟩
        have s0 := cell_of (hI.cells 0 rfl) 0
        have e0 := cell_of hbx 0
        have e1 := cell_of hbx 1
        simp only [List.getElem?_toArray, List.getElem?_cons_zero, List.getElem?_cons_succ] at s0 e0 e1
        have HB : W0.heap.size ≤ w2.heap.size + 3 ∧ w2.heap.size + 3 ≤ W0.heap.size := by omega
        clear hsz
        have hfF : F < N := by omega
        have hfT : T < N := by omega
        obtain ⟨g2, cp, eg, hg, hcR, hfr⟩ := (hI.ints 1 rfl).get F (by rw [outP_length]; exact hfF)
        injection eg with eg1 eg2 eg3
        clear eg2 eg3
        injection eg1 with eg1
        injection eg1 with eg1
        subst eg1
        have r0 := hcR F (by rw [outP_length]; exact hfF)
        have r1 := hcR T (by rw [outP_length]; exact hfT)
        rw [outP_get _ hfF] at r0
        rw [outP_get _ hfT] at r1
        obtain ⟨b0, b1⟩ := overP_bound F pre
        obtain ⟨b2, b3⟩ := overP_bound T pre
        have hgB : g < w2.heap.size := hg0
        clear hcR
        by_cases hne : F = T
        · subst hne
          have HS := Lib.hid (outP_eq (pre.map Subtype.val) ec ek y hfF)
          have hs5 := (hI.setInts (j := F) 1 rfl (overP F (pre.map Subtype.val) - y)).setInts (j := F) 1 rfl (overP F (pre.map Subtype.val))
          generalize overP F (pre.map Subtype.val) = S at *
          gi_wp2
          refine ⟨((KeepsOthers.setCell _ _ _).trans (KeepsOthers.setCell _ _ _)).from _, KeepX.trans (KeepX.setCell _ ⟨g, _, none⟩ _ rfl) (KeepX.setCell _ ⟨g, _, none⟩ _ rfl), ⟨?_, by simpa [World.setCell] using hsW⟩⟩
          rw [List.map_append, List.map_cons, List.map_nil, ← HS.out]
          exact hs5
        · have HS := Lib.hid (outP_ne (pre.map Subtype.val) ec ek y hfF hfT hne)
          have hs5 := (hI.setInts (j := F) 1 rfl (overP F (pre.map Subtype.val) - y)).setInts (j := T) 1 rfl (overP T (pre.map Subtype.val) + y)
          generalize overP F (pre.map Subtype.val) = S at *
          generalize overP T (pre.map Subtype.val) = R at *
          gi_wp2
          refine ⟨((KeepsOthers.setCell _ _ _).trans (KeepsOthers.setCell _ _ _)).from _, KeepX.trans (KeepX.setCell _ ⟨g, _, none⟩ _ rfl) (KeepX.setCell _ ⟨g, _, none⟩ _ rfl), ⟨?_, by simpa [World.setCell] using hsW⟩⟩
          rw [List.map_append, List.map_cons, List.map_nil, ← HS.out]
          exact hs5
      case done =>
        rintro D xs W hD hS ⟨hI, hsW⟩ hK
        have s0 := cell_of (hI.cells 0 rfl) 0
        simp only [List.getElem?_toArray, List.getElem?_cons_zero, List.getElem?_cons_succ] at s0
        have HS := Lib.hid hS
        clear hS
        gi_wp2
        refine ⟨by simp, .inl ⟨_, _, rfl, run_takeDeferred hK, ?_⟩⟩
        refine ⟨_, results_tmp rfl _ _ _, _, rfl, ?_⟩
        have hI' := hI.tail
        rw [HS.out, outP_pairs HL.out, ← HV.out] at hI'
        exact hI'.turned (fun A hA => by simp at hA; subst hA; exact intsT_cells _ _ _ _) (grownBy_putObj' _ D (.deferred none)) (fun r e => by cases e; exact ⟨Nat.le_trans hs1'.size (by omega), _, hK, rfl⟩)
      case stop =>
        rintro D c pre W _ _ h _
        exact h.elim
end Go.Proofs.Ytfnkmkfkomhhnaa
