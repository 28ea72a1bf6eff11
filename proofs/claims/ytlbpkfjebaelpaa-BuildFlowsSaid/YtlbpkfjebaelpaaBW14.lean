/-
  Package build: Round, walked.
-/
import Derived.Test.YtlbpkfjebaelpaaBW13
import Derived.Test.YtlbpkfjebaelpaaBW6
import Derived.Test.YtlbpkfjebaelpaaBW3
import Derived.Test.YtlbpkfjebaelpaaAppIn
import Derived.Test.YtlbpkfjebaelpaaObj2
namespace Go.Proofs.Ytlbpkfjebaelpaa
open Go Go.RowKit Go.Mem Go.MoneyP Go.NetP Go.BuildP Go.Shelf

attribute [local go_sem] Oper.semAt_some
theorem ids_step {O : List Du} {i : Nat} (hi : i < O.length) : (O.take (i + 1)).map (·.id) = (O.take i).map (·.id) ++ [(O[i]).id] := (due_step hi).2

set_option maxRecDepth 100000 in
set_option maxHeartbeats 4000000 in
theorem round_any (rooms : List Int) (l : List Du) (c : Bool) (vr vl : Value) (w : World) (hr : Rd .i64 w vr rooms) (h : RdG duR w vl l) (hsm : l.length ≤ 1000) :
    Calls Try.prog 8 #[vr, vl, .bool c] w fun en w' => RoundP rooms l c w en w' := by
  obtain ⟨i0, hi0, hz0, hz1, hz2⟩ := info_parts Try.infoEdb
  obtain ⟨j0, hj0, hy0, hy1, hy2⟩ := info_parts Try.infoU64b
  obtain ⟨ar, cr, rfl⟩ := hr.shape
  have hs0 := (Sep.start w).newCells #[.int .i64 0, .slice none 0 0] 28
  have RR := Lib.hid (right_b rooms l _ vl _ (hs0.rd hr) (hs0.rdG h) (by omega))
  cases hrt : rightR rooms l
  · rw [hrt] at RR
    have HRT := Lib.hid hrt
    clear hrt
    go_enter Try.func8, Try.ntmps8
    go_wp2_with fail
    refine (RR.out).mono ?_
    rintro en w2 ⟨rfl, hb⟩
    replace hs0 := hs0.belowStep hb
    have q0 := cell_of (hs0.cells 0 rfl) 0
    have q1 := cell_of (hs0.cells 0 rfl) 1
    simp only [List.getElem?_toArray, List.getElem?_cons_zero, List.getElem?_cons_succ] at q0 q1
    have qf := fun j => frozen_of (hs0.cells 0 rfl) j
    go_wp2_with fail
    replace hs0 := (hs0.setC 0 rfl 0 (.int .i64 0) #[.int .i64 0, .slice none 0 0] rfl).setC 0 rfl 1 (.slice none 0 0) #[.int .i64 0, .slice none 0 0] rfl
    clear q0 q1 qf
    have q0 := cell_of (hs0.cells 0 rfl) 0
    have q1 := cell_of (hs0.cells 0 rfl) 1
    simp only [List.getElem?_toArray, List.getElem?_cons_zero, List.getElem?_cons_succ] at q0 q1
    exact bodyPost_ret (v := .tuple #[.agg #[.int .i64 0, .slice none 0 0], .slice none 0 0, .int .i64 1]) (by simp [results, Try.results8, go_sem, q0, q1]) rfl (.inl ⟨HRT.out, rfl, hs0.below⟩)
  rw [hrt] at RR
  have HRT := Lib.hid hrt
  obtain ⟨hn16, hl64, _, hmd, _⟩ := right_parts hrt
  have HMD := Lib.hid (show ∀ d ∈ openL l, MayD d from fun d hd => (hmd d (List.mem_filter.1 hd).1).1)
  clear hmd
  clear hrt
  refine (callsIn_wide (n := 6)).1 ?_
  refine callsIn_of_wp_marks Try.func8 rfl trivial ?_ rfl
  simp only [Try.ntmps8, List.size_toArray, List.length_cons, List.length_nil, Nat.reduceAdd, Nat.reduceSub, Array.replicate_succ, Array.replicate_zero, List.push_toArray, List.append_toArray, List.nil_append, List.cons_append]
  gi_wp2_with fail
  refine ⟨trivial, (callsIn_wide.2 RR.out).mono ?_⟩
  rintro en w2 ⟨rfl, hb⟩
  replace hs0 := hs0.belowStep hb
  clear hb RR
  obtain ⟨BN, hBN⟩ : ∃ BN, BN = w.heap.size := ⟨_, rfl⟩
  have hBNw : w.heap.size ≤ BN ∧ BN < w2.heap.size := ⟨by omega, by rw [hBN]; exact lt_of (hs0.cells 0 rfl)⟩
  have HBN := Lib.hid hBNw
  rw [← hBN] at hs0 ⊢
  clear hBN hBNw
  have q0 := cell_of (hs0.cells 0 rfl) 0
  have q1 := cell_of (hs0.cells 0 rfl) 1
  simp only [List.getElem?_toArray, List.getElem?_cons_zero, List.getElem?_cons_succ] at q0 q1
  have qf := fun j => frozen_of (hs0.cells 0 rfl) j
  have hs1 := hs0.setC 0 rfl 0 (.int .i64 (rooms.length + 1)) #[.int .i64 (rooms.length + 1), .slice none 0 0] rfl
  simp only [List.set_cons_zero] at hs1
  obtain ⟨w3, hw3⟩ : ∃ w3, w3 = w2.setCell ⟨BN, 0, none⟩ (.int .i64 (rooms.length + 1)) := ⟨_, rfl⟩
  have hb3 : w3.heap.size = w2.heap.size := by rw [hw3]; simp [World.setCell]
  gi_wp2_with fail
  rw [← hw3] at hs1 ⊢
  have HSZ := Lib.hid (show BN < w3.heap.size from lt_of (hs1.cells 0 rfl))
  clear q0 q1 qf hs0 hw3 hb3
  refine ⟨trivial, (callsIn_wide.2 (open_any l vl _ (hs1.rdG h) (by omega))).mono ?_⟩
  rintro en w4 ⟨uo, rfl, k1⟩
  have hs := hs1.join k1
  simp only [List.cons_append, List.nil_append] at hs
  obtain ⟨O, hO⟩ : ∃ O, O = openL l := ⟨_, rfl⟩
  rw [← hO] at hs
  rw [← hO] at HMD
  have hol : O.length ≤ 64 := by rw [hO]; exact Nat.le_trans (open_le l) hl64
  obtain ⟨ao, co, rfl⟩ := (hs.rdWin 0 rfl).shape
  have HO := Lib.hid hO
  clear hO hs1 k1
  gi_wp2_with fail
  gi_loopw [7, 25] (fun vi i wr => ∃ k : Nat, k ≤ O.length ∧ i = .int .i64 k ∧ Sep w wr [intsT .u64 34 vi ((O.take k).map (·.id)), winT duR (.slice ao O.length co) O, cellsT BN #[.int .i64 (rooms.length + 1), .slice none 0 0] 28]) (fun _ i _ => O.length - (intOf i).toNat)
  case atStart => exact ⟨0, Nat.zero_le _, rfl, hs.nilInts .u64 _⟩
  case round =>
    clear hs
    obtain ⟨k, hk, rfl, hs⟩ := hrel
    by_cases hlt : k < O.length
    · obtain ⟨b1, o1, e1, hb1, hc1⟩ := (hs.rdWin 1 rfl).at k hlt
      subst e1
      have HDS := Lib.hid (ids_step hlt)
      obtain ⟨x, hx⟩ : ∃ x, x = O[k] := ⟨_, rfl⟩
      rw [← hx] at hc1 HDS
      obtain ⟨IL, hIL⟩ : ∃ IL, IL = (O.take k).map (·.id) := ⟨_, rfl⟩
      have HIL := Lib.hid (show IL.length = k by rw [hIL]; simp [hk])
      rw [← hIL] at hs HDS
      clear hx hIL
      obtain ⟨id, f, t, xx, we, u, hh⟩ := x
      have x0 := hc1 0 (by decide)
      have x1 := hc1 1 (by decide)
      have x2 := hc1 2 (by decide)
      have x3 := hc1 3 (by decide)
      have x4 := hc1 4 (by decide)
      have x5 := hc1 5 (by decide)
      have x6 := hc1 6 (by decide)
      simp only [duR, Nat.add_zero, List.getElem?_cons_zero, List.getElem?_cons_succ] at x0 x1 x2 x3 x4 x5 x6
      clear hc1
      obtain ⟨vi', ci', rfl⟩ := (hs.rdInts 0 rfl).shape
      rw [HIL.out] at hs ⊢
      have hsa := hs.alloc (.cells #[.int .u64 id, .int .i64 f, .int .i64 t, .int .i64 xx, .int .i64 we, .int .i64 u, .bool hh] 45)
      have hsb := hsa.alloc (.cells #[.int .u64 id] 34)
      have hnb := heap_alloc_new (wr.alloc (.cells #[.int .u64 id, .int .i64 f, .int .i64 t, .int .i64 xx, .int .i64 we, .int .i64 u, .bool hh] 45)) (.cells #[.int .u64 id] 34)
      rw [World.size_alloc] at hnb
      clear hs hsa
      gi_wp2_with (gi_at_builtin; refine wpListIn_appIntB rfl (.tmp 29) (.tmp 32) 29 rfl 34 j0 _ 8 Try.underlying29 hj0 hy0 hy1 hy2 rfl _ IL .u64 id hsb 0 rfl (wr.heap.size + 1) hnb rfl rfl ?c3 ?c4 ?grow)
      case c3 => rw [HIL.out]; unfold maxLen; omega
      case c4 => rw [HIL.out]; omega
      case grow =>
        intro vl' w7 hs4 _
        (try simp only [List.set_cons_zero] at hs4)
        clear hsb hnb x0 x1 x2 x3 x4 x5 x6
        gi_wp2_with fail
        go_roundw
        case rel => exact ⟨k + 1, hlt, by go_num, by rw [HDS.out]; exact hs4⟩
        case measure => simp [intOf]; omega
    · obtain rfl : k = O.length := by omega
      rw [List.take_length] at hs
      obtain ⟨vi, ci, rfl⟩ := (hs.rdInts 0 rfl).shape
      rw [List.length_map] at hs ⊢
      gi_wp2_with fail
      refine ⟨trivial, (callsIn_wide.2 (bedges_calls _ _ _ _ _ _ _ _)).mono ?_⟩
      rintro en w5 ⟨rfl, rfl⟩
      have HWS := Lib.hid (show BN < wr.heap.size from lt_of (hs.cells 2 rfl))
      have hs4 := ((hs.newCells #[.slice ar rooms.length cr] 22).newCells #[.slice ao O.length co] 23).newCells #[.bool c] 4
      simp only [World.size_alloc] at hs4
      gi_wp2_with fail
      obtain ⟨W0, hW0⟩ : ∃ W0, W0 = ((wr.alloc (Obj.cells #[.slice ar rooms.length cr] 22)).alloc (Obj.cells #[.slice ao O.length co] 23)).alloc (Obj.cells #[.bool c] 4) := ⟨_, rfl⟩
      have hsz : W0.heap.size = wr.heap.size + 3 := by rw [hW0]; simp
      have hb03 : Below wr.heap.size wr W0 := by
        rw [hW0]; exact (((Below.refl _ wr).alloc (Nat.le_refl _) _).alloc (by simp) _).alloc (by simp; omega) _
      rw [← hW0] at hs4 ⊢
      clear hW0
      have hcc := cell_of (hs4.cells 0 rfl) 0
      have hcl := cell_of (hs4.cells 1 rfl) 0
      have hcr := cell_of (hs4.cells 2 rfl) 0
      have hrd := hs.rdWin 1 rfl
      have hBw := HBN.out.1
      have hBr := HWS.out
      have hap := hs.apart 1 2 rfl rfl (by omega)
      have hi0s := (hs4.omit 4).tail.tail.tail
      simp only [List.eraseIdx] at hi0s
      refine nameRF fun a0 ha0 => ?_
      refine wpIn_rangeFunc_ownH rfl (by decide) (gf := 45) (lb := #[.pointer (some ⟨wr.heap.size + 1, 0, none⟩), .pointer (some ⟨wr.heap.size + 2, 0, none⟩), .pointer (some ⟨wr.heap.size, 0, none⟩)]) (by rw [ha0]; rfl) trivial (enters_of Try.func45 (by kernel_rfl) rfl)
        (bedges_stops Fence.wide (6 - 1) trivial rfl rfl (by decide) (wr.heap.size + 3) (· = BN) (wr.heap.size + 1) (wr.heap.size + 2) wr.heap.size ao ar co cr O rooms c hol hn16 HMD.out (by omega) (by omega) (by omega) (by omega) (by omega) (by omega) W0 (by omega) hcl hcc hcr ?hce ?hcx) KeepX.trans (keepX_b (by omega)) (Below.refl _ _) (fun _ => rfl)
        (fun pre W => ∃ v, Sep w W [recT edR 52 v pre, intsT .u64 34 (.slice vi O.length ci) (O.map (·.id)), cellsT BN #[.int .i64 (rooms.length + 1), v] 28] ∧ (∀ k, v.ownBlock = some k → wr.heap.size + 3 ≤ k) ∧ W0.heap.size ≤ W.heap.size)
        (fun _ _ _ => False)
        (ownFrom_ex fun v => OwnFrom.and (sep_ownFrom (fun pre => [recT edR 52 v pre, intsT .u64 34 (.slice vi O.length ci) (O.map (·.id)), cellsT BN #[.int .i64 (rooms.length + 1), v] 28]) (by omega) (fun s A hA => by simp at hA; rcases hA with rfl | rfl | rfl; exact recT_cells _ _ _ _; exact intsT_cells _ _ _ _; exact cellsT_cells _ _ _)) (OwnFrom.and (ownFrom_pure _ _) (fun _ _ _ _ h hg _ => Nat.le_trans h hg.size)))
        (fun _ _ _ _ _ hs _ _ => hs)
        ⟨.slice none 0 0, hi0s.nilRecs edR _, fun k e => (by cases e), Nat.le_refl _⟩
        (fun x a1 W => ∃ Bx, wr.heap.size + 3 ≤ Bx ∧ W.heap[Bx]? = some (.cells #[.int .i64 x.f, .int .i64 x.t, .int .i64 x.c, .int .i64 x.k] 52 (0, 0)) ∧
          a1 = { tmps := (a0.tmps.setIfInBounds 39 (.agg #[.int .i64 x.f, .int .i64 x.t, .int .i64 x.c, .int .i64 x.k])).setIfInBounds 11 (.pointer (some ⟨Bx, 0, none⟩)), defers := [] })
        (fun x a1 _ X Y row hs hg hr => by obtain ⟨Bx, h1, h2, h3⟩ := hs; exact ⟨Bx, h1, cellsRow_own Bx _ (fun (_ : Unit) => _) () X Y row h2 hg (fun r e => (hr r e).2), h3⟩)
        ?assign ?body ?done ?stop
      case hce =>
        intro i hi
        obtain ⟨b, o, e, hb, hc⟩ := hrd.at i hi
        obtain ⟨S1, T1, h1, h2, h3⟩ := hap
        have hne : ¬ b = BN := by
          intro e2
          exact h3 b (by rw [h1.1, e]; rfl) (by rw [h2.1]; exact e2)
        exact ⟨b, o, e, by omega, hne, fun j hj => (hb03.cell (p := ⟨b, o + i * 7 + j, none⟩) hb).trans (hc j hj)⟩
      case hcx =>
        intro i hi
        obtain ⟨b, o, e, hb, hc⟩ := hr.at i hi
        exact ⟨b, o, e, by have := hs4.size; omega, by omega, (hs4.cell hb).trans hc⟩
      case assign =>
        rintro l pre ⟨ef, et, ec, ek⟩ W K hI hK
        dsimp only [encB]
        subst ha0
        obtain ⟨v, hs, hv, hz⟩ := hI
        gi_wp2
        exact hK _ _ ((KeepsOthers.alloc _ _).from _) (KeepX.alloc (by omega) _) ⟨v, hs.alloc _, hv, by simp; omega⟩ ⟨W.heap.size, by omega, heap_alloc_new W _, rfl⟩
      case body =>
        rintro l pre ⟨ef, et, ec, ek⟩ a1 W hl _ ⟨v, hs, hv, hz⟩ ⟨Bx, hBx, hbx, rfl⟩ hlt
        subst ha0
        have HLT := Lib.hid (show pre.length < 96 by rw [el_len] at hlt; cases c <;> simp at hlt <;> omega)
        clear hlt
        have e0 := cell_of hbx 0
        have e1 := cell_of hbx 1
        have e2 := cell_of hbx 2
        have e3 := cell_of hbx 3
        simp only [List.getElem?_toArray, List.getElem?_cons_zero, List.getElem?_cons_succ] at e0 e1 e2 e3
        have s1 := cell_of (hs.cells 2 rfl) 1
        simp only [List.getElem?_toArray, List.getElem?_cons_zero, List.getElem?_cons_succ] at s1
        have hsa := hs.alloc (.cells #[.int .i64 ef, .int .i64 et, .int .i64 ec, .int .i64 ek] 52)
        have hnb := heap_alloc_new W (.cells #[.int .i64 ef, .int .i64 et, .int .i64 ec, .int .i64 ek] 52)
        have HV := Lib.hid hv
        have HZ := Lib.hid (show wr.heap.size + 3 ≤ W.heap.size ∧ W0.heap.size ≤ W.heap.size by omega)
        clear hs hv hz hbx hl hsz
        gi_wp2_with (gi_at_builtin; refine wpListIn_appRecB edR rfl (.tmp 41) (.tmp 43) 26 rfl 52 i0 _ 32 Try.underlying26 hi0 hz0 hz1 hz2 rfl v pre ⟨ef, et, ec, ek⟩ hsa 0 rfl W.heap.size _ rfl hnb rfl rfl ?d3 ?d4 ?grow2)
        case d3 => have := HLT.out; unfold maxLen; omega
        case d4 => have := HLT.out; omega
        case grow2 =>
          intro v' w7 hs5 hsh hok
          obtain ⟨g, cap, rfl⟩ := hsh.out
          (try simp only [List.set_cons_zero] at hs5)
          clear hsa hnb e0 e1 e2 e3 s1
          have s1 := cell_of (hs5.cells 2 rfl) 1
          simp only [List.getElem?_toArray, List.getElem?_cons_zero, List.getElem?_cons_succ] at s1
          have qf := fun j => frozen_of (hs5.cells 2 rfl) j
          gi_wp2
          have hs6 := hs5.setC 2 rfl 1 (.slice (some ⟨g, 0, none⟩) (pre.length + 1) cap) #[.int .i64 (rooms.length + 1), .slice (some ⟨g, 0, none⟩) (pre.length + 1) cap] rfl
          simp only [List.set_cons_succ, List.set_cons_zero] at hs6
          have hsz7 := hok.out.fr.size
          rw [World.size_alloc] at hsz7
          refine ⟨(((KeepsOthers.alloc _ _).trans hok.out.keep).trans (KeepsOthers.setCell _ _ _)).from _, ((KeepX.alloc HZ.out.1 _).trans (KeepX.app hok.out (by rw [World.size_alloc]; have := HZ.out; omega) HV.out)).trans (KeepX.setCell _ ⟨BN, 1, none⟩ _ rfl), _, hs6, fun k e => ?_, by have := HZ.out; simp only [World.setCell, Array.size_modify] at *; omega⟩
          rcases hok.out.block k e with h1 | h1
          · exact HV.out k h1
          · rw [World.size_alloc] at h1; have := HZ.out; omega
      case done =>
        rintro D xs W hD hS ⟨v, hs, hv, hz⟩ hK
        subst ha0
        have HS := Lib.hid hS
        clear hS hv
        obtain ⟨ae, ce, rfl⟩ := (hs.rdRecs 0 rfl).shape
        have s0 := cell_of (hs.cells 2 rfl) 0
        have s1 := cell_of (hs.cells 2 rfl) 1
        simp only [List.getElem?_toArray, List.getElem?_cons_zero, List.getElem?_cons_succ] at s0 s1
        have qf := fun j => frozen_of (hs.cells 2 rfl) j
        have hs6 := (hs.setC 2 rfl 0 (.int .i64 (rooms.length + 1)) #[.int .i64 (rooms.length + 1), .slice ae xs.length ce] rfl).setC 2 rfl 1 (.slice ae xs.length ce) #[.int .i64 (rooms.length + 1), .slice ae xs.length ce] rfl
        simp only [List.set_cons_succ, List.set_cons_zero] at hs6
        gi_wp2
        clear s0 s1 qf
        have hK' : ((W.setCell ⟨BN, 0, none⟩ (.int .i64 (rooms.length + 1))).setCell ⟨BN, 1, none⟩ (.slice ae xs.length ce)).heap[D]? = some (.deferred (some [])) :=
          (((KeepsOthers.setCell W ⟨BN, 0, none⟩ (.int .i64 (rooms.length + 1))).trans (KeepsOthers.setCell _ ⟨BN, 1, none⟩ (.slice ae xs.length ce))).same D _ hK rfl)
        generalize (W.setCell ⟨BN, 0, none⟩ (.int .i64 (rooms.length + 1))).setCell ⟨BN, 1, none⟩ (.slice ae xs.length ce) = W9 at hs6 hK' ⊢
        refine ⟨by simp, .inl ⟨_, _, rfl, run_takeDeferred hK', ?_⟩⟩
        have hs7 := hs6.turned (fun A hA => by simp at hA; rcases hA with rfl | rfl | rfl; exact recT_cells _ _ _ _; exact intsT_cells _ _ _ _; exact cellsT_cells _ _ _) (grownBy_putObj' _ D (.deferred none)) (fun r e => by cases e; exact ⟨by have := hs4.size; omega, _, hK', rfl⟩)
        have z0 := cell_of (hs7.cells 2 rfl) 0
        have z1 := cell_of (hs7.cells 2 rfl) 1
        simp only [List.getElem?_toArray, List.getElem?_cons_zero, List.getElem?_cons_succ] at z0 z1
        generalize W9.putObj D (.deferred none) = W8 at hs7 z0 z1 ⊢
        exact ⟨.tuple #[.agg #[.int .i64 (rooms.length + 1), .slice ae xs.length ce], .slice vi O.length ci, .int .i64 0], by simp [results, Try.results8, go_sem, z0, z1],
          .inr ⟨HRT.out, _, _, rfl, by rw [← el_open, ← HO.out, ← HS.out]; exact hs7.takeN 2⟩⟩
      case stop =>
        rintro D c pre W _ _ h _
        exact h.elim
end Go.Proofs.Ytlbpkfjebaelpaa
