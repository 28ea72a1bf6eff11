/-
  Package paths: Fits, walked.
-/
import Derived.Test.YtfafecgnjjkagaaPW1
import Derived.Test.YtfafecgnjjkagaaNW2
import Derived.Test.YtfafecgnjjkagaaObj2
namespace Go.PathP
open Go Go.RowKit Go.Mem Go.NetP Go.RestP Go.CertP
/-- What fits has no arc of a length below 0. -/
theorem tight_arcs {es : List Ed} {fl pot : List Int} : tightB es fl pot = true ↔ ∀ a ∈ arcsL es fl pot, 0 ≤ a.len := by
  constructor
  · intro h a ha
    obtain ⟨k, h1, h2, rfl⟩ := arcs_mem.1 ha
    exact tight_at h h1 h2
  · intro h
    unfold tightB
    rw [List.all_eq_true]
    intro k hk
    have hk := List.mem_range.1 hk
    unfold tightS
    by_cases hr : 0 < roomE es fl k
    · have := h _ (arcs_mem.2 ⟨k, hk, hr, rfl⟩)
      unfold arcAt at this
      dsimp only at this
      simp; omega
    · simp [hr]
/-- None of these has a length below 0. -/
def NonNeg {p : Ar → Prop} (pre : List { x // p x }) : Prop := ∀ x ∈ pre, 0 ≤ x.1.len
theorem NonNeg.nil {p : Ar → Prop} : NonNeg (p := p) [] := fun _ h => by simp at h
theorem NonNeg.snoc {p : Ar → Prop} {pre : List { x // p x }} {x : { x // p x }} (h : NonNeg pre) (hx : 0 ≤ x.1.len) : NonNeg (pre ++ [x]) := fun y hy => by
  rcases List.mem_append.1 hy with hy | hy
  · exact h y hy
  · simp at hy; subst hy; exact hx
end Go.PathP
namespace Go.Proofs.Ytfafecgnjjkagaa
open Go Go.RowKit Go.Mem Go.NetP Go.RestP Go.CertP Go.PathP Go.Shelf
attribute [local go_sem] Oper.semAt_some
set_option maxRecDepth 100000 in
set_option maxHeartbeats 4000000 in
theorem pfits_any (nn : Int) (a : Option Addr) (c : Nat) (es : List Ed) (vf vp : Value) (fl pot : List Int) (w : World) (h : RdG edR w (.slice a es.length c) es) (hf : Rd .i64 w vf fl) (hp : Rd .i64 w vp pot) :
    Calls Try.prog 9 #[.agg #[.int .i64 nn, .slice a es.length c], vf, vp] w fun en w' => en = .returned (.bool (fitsB nn es fl pot)) ∧ Below w.heap.size w w' := by
  have hlp := hp.le'
  obtain ⟨af, cf, rfl⟩ := hf.shape
  obtain ⟨ap, cp, rfl⟩ := hp.shape
  have hs0 := ((Sep.start w).newCells #[.int .i64 nn, .slice a es.length c] 24).newCells #[.bool false] 4
  simp only [World.size_alloc] at hs0
  have HW := Lib.hid (within_any nn a c es _ fl _ (hs0.rdG h) (hs0.rd hf))
  have n0 := cell_of (hs0.cells 1 rfl) 0
  have n1 := cell_of (hs0.cells 1 rfl) 1
  simp only [List.getElem?_toArray, List.getElem?_cons_zero, List.getElem?_cons_succ] at n0 n1
  refine (callsIn_wide (n := 6)).1 ?_
  refine callsIn_of_wp_marks Try.func9 rfl trivial ?_ rfl
  simp only [Try.ntmps9, List.size_toArray, List.length_cons, List.length_nil, Nat.reduceAdd, Nat.reduceSub, Array.replicate_succ, Array.replicate_zero, List.push_toArray, List.append_toArray, List.nil_append, List.cons_append]
  gi_wp2_with fail
  refine ⟨trivial, (callsIn_wide.2 HW.out).mono ?_⟩
  rintro en w2 ⟨rfl, hb⟩
  have hs := hs0.belowStep hb
  clear hs0 hb HW n0 n1
  obtain ⟨B, hB⟩ : ∃ B, B = w.heap.size := ⟨_, rfl⟩
  have HB := Lib.hid (show w.heap.size ≤ B ∧ B + 1 < w2.heap.size by rw [hB]; exact ⟨Nat.le_refl _, lt_of (hs.cells 0 rfl)⟩)
  rw [← hB] at hs ⊢
  clear hB
  have n0 := cell_of (hs.cells 1 rfl) 0
  have n1 := cell_of (hs.cells 1 rfl) 1
  simp only [List.getElem?_toArray, List.getElem?_cons_zero, List.getElem?_cons_succ] at n0 n1
  have r0 := cell_of (hs.cells 0 rfl) 0
  simp only [List.getElem?_toArray, List.getElem?_cons_zero, List.getElem?_cons_succ] at r0
  have rf := fun j => frozen_of (hs.cells 0 rfl) j
  cases hw : withinB nn es fl
  · have H := Lib.hid (show fitsB nn es fl pot = false by simp [fitsB, hw])
    clear hw
    gi_wp2
    clear r0 rf n0 n1
    have hq := (hs.setCells 0 rfl 0 (.bool false) #[.bool false] rfl)
    have z0 := cell_of (hq.cells 0 rfl) 0
    simp only [List.set_cons_zero, List.getElem?_toArray, List.getElem?_cons_zero, List.getElem?_cons_succ] at z0
    exact ⟨.bool false, by simp [results, Try.results9, go_sem, z0], by rw [H.out], hq.below⟩
  by_cases hpl : (pot.length : Int) = nn
  rotate_left
  · have H := Lib.hid (show fitsB nn es fl pot = false by simp [fitsB, potB, hpl])
    have e1 : ((pot.length : Int) != nn) = true := by simpa using hpl
    clear hw hpl
    gi_wp2
    clear r0 rf n0 n1
    have hq := (hs.setCells 0 rfl 0 (.bool false) #[.bool false] rfl)
    have z0 := cell_of (hq.cells 0 rfl) 0
    simp only [List.set_cons_zero, List.getElem?_toArray, List.getElem?_cons_zero, List.getElem?_cons_succ] at z0
    exact ⟨.bool false, by simp [results, Try.results9, go_sem, z0], by rw [H.out], hq.below⟩
  have e1 : ((pot.length : Int) != nn) = false := by simpa using hpl
  have HPL := Lib.hid hpl
  have HWI := Lib.hid hw
  have hsm : pot.length ≤ 40 := by have := (right_cap (within_cap hw).2.1).2.1; omega
  clear hw hpl
  gi_wp2
  clear e1 n0 n1 r0 rf
  gi_loopw [23] (fun i wr => ∃ k : Nat, k ≤ pot.length ∧ i = .int .i64 k ∧ (pot.take k).all farB = true ∧ Sep w wr [cellsT (B + 1) #[.bool false] 4, cellsT B #[.int .i64 nn, .slice a es.length c] 24]) (fun i _ => pot.length - (intOf i).toNat)
  case atStart => exact ⟨0, Nat.zero_le _, rfl, rfl, hs⟩
  case round =>
    clear hs
    obtain ⟨k, hk, rfl, hall, hs⟩ := hrel
    have HA := Lib.hid hall
    clear hall
    by_cases hlt : k < pot.length
    · obtain ⟨b1, o1, e1, hb1, x0⟩ := (hs.rd hp).at k hlt
      subst e1
      have HST := Lib.hid (fun q => far_stop hlt q)
      have HGO := Lib.hid (fun q => far_step hlt HA.out q)
      obtain ⟨x, hx⟩ : ∃ x, x = pot.getD k 0 := ⟨_, rfl⟩
      rw [← hx] at x0 HST HGO
      clear hx
      have r0 := cell_of (hs.cells 0 rfl) 0
      simp only [List.getElem?_toArray, List.getElem?_cons_zero, List.getElem?_cons_succ] at r0
      have rf := fun j => frozen_of (hs.cells 0 rfl) j
      by_cases h1 : x < -1099511627776
      · have H := Lib.hid (show fitsB nn es fl pot = false by simp [fitsB, potB, HST.out ((farB_no _).2 (.inl h1))])
        have d1 : decide (x < -1099511627776) = true := decide_eq_true h1
        clear h1 HST HGO
        gi_wp2
        clear r0 rf x0
        have hq := (hs.setCells 0 rfl 0 (.bool false) #[.bool false] rfl)
        have z0 := cell_of (hq.cells 0 rfl) 0
        simp only [List.set_cons_zero, List.getElem?_toArray, List.getElem?_cons_zero, List.getElem?_cons_succ] at z0
        exact ⟨.bool false, by simp [results, Try.results9, go_sem, z0], by rw [H.out], hq.below⟩
      · have d1 : decide (x < -1099511627776) = false := decide_eq_false h1
        by_cases h2 : 1099511627776 < x
        · have H := Lib.hid (show fitsB nn es fl pot = false by simp [fitsB, potB, HST.out ((farB_no _).2 (.inr h2))])
          have d2 : decide (1099511627776 < x) = true := decide_eq_true h2
          clear h1 h2 HST HGO
          gi_wp2
          clear r0 rf x0
          have hq := (hs.setCells 0 rfl 0 (.bool false) #[.bool false] rfl)
          have z0 := cell_of (hq.cells 0 rfl) 0
          simp only [List.set_cons_zero, List.getElem?_toArray, List.getElem?_cons_zero, List.getElem?_cons_succ] at z0
          exact ⟨.bool false, by simp [results, Try.results9, go_sem, z0], by rw [H.out], hq.below⟩
        · have d2 : decide (1099511627776 < x) = false := decide_eq_false h2
          have HA2 := Lib.hid (HGO.out ((farB_iff _).2 ⟨by omega, by omega⟩))
          clear h1 h2 HST HGO
          gi_wp2
          go_roundw
          case rel => exact ⟨k + 1, hlt, by go_num, HA2.out, hs⟩
          case measure => simp [intOf]; omega
    · obtain rfl : k = pot.length := by omega
      rw [List.take_length] at HA
      have HP := Lib.hid (show potB nn pot = true by unfold potB; rw [HA.out, HPL.out]; simp)
      have HFT := Lib.hid (show fitsB nn es fl pot = tightB es fl pot by unfold fitsB; rw [HWI.out, HP.out]; rfl)
      clear HA
      have n0 := cell_of (hs.cells 1 rfl) 0
      have n1 := cell_of (hs.cells 1 rfl) 1
      simp only [List.getElem?_toArray, List.getElem?_cons_zero, List.getElem?_cons_succ] at n0 n1
      gi_wp2_with fail
      refine ⟨trivial, (callsIn_wide.2 (arcs_calls _ _ _ _ _ _ _ _ _ _ _)).mono ?_⟩
      rintro en w5 ⟨rfl, rfl⟩
      clear n0 n1
      have HWS := Lib.hid (show B + 1 < wr.heap.size from lt_of (hs.cells 0 rfl))
      have hs4 := ((hs.newCells #[.int .i64 nn, .slice a es.length c] 24).newCells #[.slice af fl.length cf] 25).newCells #[.slice ap pot.length cp] 25
      simp only [World.size_alloc] at hs4
      gi_wp2_with fail
      obtain ⟨W0, hW0⟩ : ∃ W0, W0 = ((wr.alloc (Obj.cells #[.int .i64 nn, .slice a es.length c] 24)).alloc (Obj.cells #[.slice af fl.length cf] 25)).alloc (Obj.cells #[.slice ap pot.length cp] 25) := ⟨_, rfl⟩
      have hsz : W0.heap.size = wr.heap.size + 3 := by rw [hW0]; simp
      rw [← hW0] at hs4 ⊢
      clear hW0
      have hcp := cell_of (hs4.cells 0 rfl) 0
      have hcf := cell_of (hs4.cells 1 rfl) 0
      have hcn := cell_of (hs4.cells 2 rfl)
      have hBw := HB.out.1
      have hBr := HWS.out
      have hi0s := hs4.tail.tail.tail
      have hge := hs4.size
      have hgw := hs.size
      refine nameRF fun a0 ha0 => ?_
      have HSZ := Lib.hid hsz
      refine wpIn_rangeFunc_ownH rfl (by decide) (gf := 33) (lb := #[.pointer (some ⟨wr.heap.size, 0, none⟩), .pointer (some ⟨wr.heap.size + 2, 0, none⟩), .pointer (some ⟨wr.heap.size + 1, 0, none⟩)]) (by rw [ha0]; rfl) trivial (enters_of Try.func33 (by kernel_rfl) rfl)
        (arcs_stops Fence.wide (6 - 1) trivial rfl rfl (by decide) (wr.heap.size + 3) (fun _ => False) wr.heap.size (wr.heap.size + 2) (wr.heap.size + 1) nn a af ap c cf cp es fl pot HWI.out HP.out (by omega) (fun q => q) (by omega) (fun q => q) (by omega) (fun q => q) W0 (by omega) hcn hcf hcp ?hce ?hcx ?hcq) KeepT.trans (keepT_b (by omega)) (Below.refl _ _) (fun _ => rfl)
        (fun pre W => Sep w W [cellsT (B + 1) #[.bool false] 4, cellsT B #[.int .i64 nn, .slice a es.length c] 24] ∧ NonNeg pre ∧ W0.heap.size ≤ W.heap.size)
        (fun cd _ W => cd = Code.ret ∧ Sep w W [cellsT (B + 1) #[.bool false] 4, cellsT B #[.int .i64 nn, .slice a es.length c] 24] ∧ tightB es fl pot = false)
        (OwnFrom.and (sep_ownFrom (fun _ => [cellsT (B + 1) #[.bool false] 4, cellsT B #[.int .i64 nn, .slice a es.length c] 24]) (by omega) (fun s A hA => by simp at hA; rcases hA with rfl | rfl; exact cellsT_cells _ _ _; exact cellsT_cells _ _ _)) (OwnFrom.and (ownFrom_pure _ _) (fun _ _ _ _ h hg _ => Nat.le_trans h hg.size)))
        (fun cd => OwnFrom.and (ownFrom_pure _ _) (OwnFrom.and (sep_ownFrom (fun _ => [cellsT (B + 1) #[.bool false] 4, cellsT B #[.int .i64 nn, .slice a es.length c] 24]) (by omega) (fun s A hA => by simp at hA; rcases hA with rfl | rfl; exact cellsT_cells _ _ _; exact cellsT_cells _ _ _)) (ownFrom_pure _ _)))
        ⟨hi0s, NonNeg.nil, Nat.le_refl _⟩
        (fun x a1 W => ∃ Bx, W.heap[Bx]? = some (.cells #[.int .i64 x.1.k, .int .i64 x.1.u, .int .i64 x.1.v, .int .i64 x.1.len] 45 (0, 0)) ∧
          a1 = { tmps := (a0.tmps.setIfInBounds 38 (.agg #[.int .i64 x.1.k, .int .i64 x.1.u, .int .i64 x.1.v, .int .i64 x.1.len])).setIfInBounds 9 (.pointer (some ⟨Bx, 0, none⟩)), defers := [] })
        (fun x a1 _ X Y row hs hg hr => by obtain ⟨Bx, h2, h3⟩ := hs; exact ⟨Bx, cellsRow_own Bx _ (fun (_ : Unit) => _) () X Y row h2 hg (fun r e => (hr r e).2), h3⟩)
        ?assign ?body ?done ?stop
      case hce =>
        intro i hi
        obtain ⟨b, o, e, hb, hc⟩ := h.at i hi
        exact ⟨b, o, e, by omega, by simp, fun j hj => (hs4.cell hb).trans (hc j hj)⟩
      case hcx =>
        intro i hi
        obtain ⟨b, o, e, hb, hc⟩ := hf.at i hi
        exact ⟨b, o, e, by omega, by simp, (hs4.cell hb).trans hc⟩
      case hcq =>
        intro i hi
        obtain ⟨b, o, e, hb, hc⟩ := hp.at i hi
        exact ⟨b, o, e, by omega, by simp, (hs4.cell hb).trans hc⟩
      case assign =>
        rintro l pre ⟨⟨ak, au, av, al⟩, hx⟩ W K hI hK
        clear hsz
        dsimp only [encA]
        subst ha0
        obtain ⟨hs, hv, hz⟩ := hI
        gi_wp2
        exact hK _ _ ((KeepsOthers.alloc _ _).from _) (KeepT.alloc (by have := HSZ.out; omega) _) ⟨hs.alloc _, hv, by simp; omega⟩ ⟨W.heap.size, heap_alloc_new W _, rfl⟩
      case body =>
        rintro l pre ⟨⟨ak, au, av, al⟩, hx⟩ a1 W hl _ ⟨hs, hv, hz⟩ ⟨Bx, hbx, rfl⟩ hlt
        clear hsz
        subst ha0
        have e3 := cell_of hbx 3
        have r0 := cell_of (hs.cells 0 rfl) 0
        simp only [List.getElem?_toArray, List.getElem?_cons_zero, List.getElem?_cons_succ] at e3 r0
        have rf := fun j => frozen_of (hs.cells 0 rfl) j
        by_cases h1 : al < 0
        · have d1 : decide (al < 0) = true := decide_eq_true h1
          have HT := Lib.hid (show tightB es fl pot = false by
            rw [Bool.eq_false_iff]; intro q
            have := tight_arcs.1 q _ hx
            dsimp only at this; omega)
          clear h1
          gi_wp2
          have hs5 := hs.setCells 0 rfl 0 (.bool false) #[.bool false] rfl
          simp only [List.set_cons_zero] at hs5
          exact ⟨(KeepsOthers.setCell _ _ _).from _, rfl, hs5, HT.out⟩
        · have d1 : decide (al < 0) = false := decide_eq_false h1
          have HN := Lib.hid (show 0 ≤ al by omega)
          clear h1
          gi_wp2
          refine ⟨(KeepsOthers.refl _).from _, KeepT.refl _ _ _ _, hs, hv.snoc HN.out, hz⟩
      case done =>
        rintro D xs W hD hS ⟨hs, hv, hz⟩ hK
        clear hsz
        subst ha0
        have HT := Lib.hid (show fitsB nn es fl pot = true by
          rw [HFT.out, tight_arcs]
          intro y hy
          rw [← hS] at hy
          obtain ⟨q, hq, rfl⟩ := List.mem_map.1 hy
          exact hv q hq)
        clear hS hv
        have r0 := cell_of (hs.cells 0 rfl) 0
        simp only [List.getElem?_toArray, List.getElem?_cons_zero, List.getElem?_cons_succ] at r0
        have rf := fun j => frozen_of (hs.cells 0 rfl) j
        gi_wp2
        clear r0 rf
        have hs5 := hs.setCells 0 rfl 0 (.bool true) #[.bool true] rfl
        simp only [List.set_cons_zero] at hs5
        have hK' := (KeepsOthers.setCell W ⟨B + 1, 0, none⟩ (.bool true)).same D _ hK rfl
        generalize W.setCell ⟨B + 1, 0, none⟩ (.bool true) = W9 at hs5 hK' ⊢
        refine ⟨by simp, .inl ⟨_, _, rfl, run_takeDeferred hK', ?_⟩⟩
        have hs7 := (hs5).turned (fun A hA => by simp at hA; rcases hA with rfl | rfl; exact cellsT_cells _ _ _; exact cellsT_cells _ _ _) (grownBy_putObj' _ D (.deferred none)) (fun r e => by cases e; exact ⟨by have := HSZ.out; omega, _, hK', rfl⟩)
        have z0 := cell_of (hs7.cells 0 rfl) 0
        simp only [List.getElem?_toArray, List.getElem?_cons_zero, List.getElem?_cons_succ] at z0
        generalize World.putObj _ D (.deferred none) = W8 at hs7 z0 ⊢
        exact ⟨.bool true, by simp [results, Try.results9, go_sem, z0], by rw [HT.out], hs7.below⟩
      case stop =>
        rintro D cd pre W hD _ ⟨rfl, hs, hT⟩ hK
        clear hsz
        subst ha0
        have HT := Lib.hid (show fitsB nn es fl pot = false by rw [HFT.out, hT])
        clear hT
        gi_wp2
        refine ⟨by simp, .inl ⟨_, _, rfl, run_takeDeferred hK, ?_⟩⟩
        have hs7 := (hs).turned (fun A hA => by simp at hA; rcases hA with rfl | rfl; exact cellsT_cells _ _ _; exact cellsT_cells _ _ _) (grownBy_putObj' _ D (.deferred none)) (fun r e => by cases e; exact ⟨by have := HSZ.out; omega, _, hK, rfl⟩)
        have z0 := cell_of (hs7.cells 0 rfl) 0
        simp only [List.getElem?_toArray, List.getElem?_cons_zero, List.getElem?_cons_succ] at z0
        generalize World.putObj _ D (.deferred none) = W8 at hs7 z0 ⊢
        exact ⟨.bool false, by simp [results, Try.results9, go_sem, z0], by rw [HT.out], hs7.below⟩
end Go.Proofs.Ytfafecgnjjkagaa
