/-
  The law NetTurned, walked.
-/
import Derived.Test.YtdjkpnddjiapgaaNLen
import Derived.Test.YtdjkpnddjiapgaaNTurned2
import Derived.Test.YtdjkpnddjiapgaaMix2
namespace Go.Proofs.Ytdjkpnddjiapgaa
open Go Go.RowKit Go.Mem Go.NetP

set_option maxRecDepth 100000 in
set_option maxHeartbeats 8000000 in
theorem netTurned_any (n : Int) (a : Option Addr) (c : Nat) (es : List Ed) (v : Value) (fl : List Int) (M : Nat) (w : World) (h : RdG edR w (.slice a es.length c) es) (h' : Rd .i64 w v fl) (hM : M ≤ 255) :
    Calls Try.prog 8 #[.agg #[.int .i64 n, .slice a es.length c], v, .int .u8 M] w fun e w' => e = .returned (.bool true) ∧ Below w.heap.size w w' := by
  have hle := h.le
  unfold maxLen at hle
  obtain ⟨i0, hi0, hz0, hz1, hz2⟩ := info_parts Try.infoI64
  obtain ⟨j0, hj0, hy0, hy1, hy2⟩ := info_parts Try.infoEdge
  obtain ⟨a', c', rfl⟩ := h'.shape
  have hs := (Sep.start w).newCells #[.int .i64 n, .slice a es.length c] 24
  go_enter Try.func8, Try.ntmps8
  go_wp2_with fail
  refine (vast_any n a c es a' fl.length c' _ hle).mono ?_
  rintro en w1 ⟨rfl, hb⟩
  replace hs := hs.belowStep hb
  clear hb; (try clear n0 n1)
  cases HV : (decide (2000 < es.length) || decide (2000 < fl.length))
  case true =>
    go_wp2_with fail
    refine (works_any _).mono ?_
    rintro en wz ⟨rfl, hb⟩
    go_wp2_with fail
    go_ret
    exact ⟨rfl, (hs.belowStep hb).below⟩
  have hsmall : es.length ≤ 2000 ∧ fl.length ≤ 2000 := by simp at HV; omega
  obtain ⟨hse, hsf⟩ := hsmall
  clear HV
  have n0 := cell_of (hs.cells 0 rfl) 0
  have n1 := cell_of (hs.cells 0 rfl) 1
  simp only [List.getElem?_toArray, List.getElem?_cons_zero, List.getElem?_cons_succ] at n0 n1
  have hlt1' := lt_of (hs.cells 0 rfl)
  have hkb := kOf_bound n hM
  have HK := Lib.hid hkb
  have hs := ((hs.newCells #[.int .i64 n, .slice none 0 0] 24).newCells #[.int .i64 n, .slice none 0 0] 24).newCells #[.int .i64 n, .slice none 0 0] 24
  simp only [World.size_alloc] at hs
  have hlt1 := lt_of (hs.cells 3 rfl)
  have hlt0 : w.heap.size < w1.heap.size := hlt1'
  have xx0 : (w1.alloc (.cells #[.int .i64 n, .slice none 0 0] 24)).cell? ⟨w.heap.size, 0, none⟩ = some (.int .i64 n) := ((Below.refl _ w1).alloc (Nat.le_refl _) _ |>.cell (p := ⟨w.heap.size, 0, none⟩) hlt0).trans n0
  have xx1 : ((w1.alloc (.cells #[.int .i64 n, .slice none 0 0] 24)).alloc (.cells #[.int .i64 n, .slice none 0 0] 24)).cell? ⟨w.heap.size, 0, none⟩ = some (.int .i64 n) := (((Below.refl _ w1).alloc (Nat.le_refl _) _).alloc (by simp) _ |>.cell (p := ⟨w.heap.size, 0, none⟩) hlt0).trans n0
  have xx2 : (((w1.alloc (.cells #[.int .i64 n, .slice none 0 0] 24)).alloc (.cells #[.int .i64 n, .slice none 0 0] 24)).alloc (.cells #[.int .i64 n, .slice none 0 0] 24)).cell? ⟨w.heap.size, 0, none⟩ = some (.int .i64 n) := ((((Below.refl _ w1).alloc (Nat.le_refl _) _).alloc (by simp) _).alloc (by simp; omega) _ |>.cell (p := ⟨w.heap.size, 0, none⟩) hlt0).trans n0
  go_upto_if 37 with fail
  refine wp_cutM [none, none, none, none, none, none, none, none, none, none, none, some 11, none, none, none, none, none, none, none, none, none, none, none, none, none, none, none, none, none, none, none, none, none, none, none, some 35, some 36, some 37, some 38, some 39, some 40, some 41, some 42, none, none, none, none, none, none, none, none, none, none, none, none, none, none, none, none, none, none, none, none, none, none, none, none, none, none, none, none, none, none, none, none, none, none, none, none, none, none, none, none, none, none, none, none, none, none, none, none, none, none, none, none, none, none, none, none, none, none, none, none, none, none, none, none, none, none, none, none, none, none, none, none, none, none, none, none, none, none, none, none, none, none, none, none, none, none, none, none, none, none, none, none, none, none, none, none, none, none, none, none, none, none, none, none, none, none, none, none, none, none, none, none, none, none, none, none, none, none, none, none, none, none, none, none, none, none, none, none, none, none, none, none, none, none, none, none, none, none, none, none, none, none, none, none, none, none, none, none, none, none, none, none, none, none, none, none, none, none, none, none, none, none, none, none, none, none, none, none, none, none, none, none, none, none, none, none, none, none, none, none, none, none, none, none, none, none, none, none, none, none, none, none, none, none, none, none, none, none, none, none, none, none, none, none, none, none, none, none, none, none, none, none, none, none, none, none, none, none, none, none, none, none, none, none, none, none, none, none, none, none, none, none, none, none, none, none, none, none, none, none, none, none, none, none, none, none, none, none, none, none, none, none, none, none, none, none, none, none, none, none, none, none, none, none, none, none, none, none, none, none, none, none, none, none, none] (fun (f : Nat → Value) (wr : World) => (fun (kv : Value) => kv = .int .i64 (kOf n M) ∧ Sep w wr [cellsT (w1.heap.size + 1 + 1) #[.int .i64 n, .slice none 0 0] 24, cellsT (w1.heap.size + 1) #[.int .i64 n, .slice none 0 0] 24, cellsT w1.heap.size #[.int .i64 n, .slice none 0 0] 24, cellsT w.heap.size #[.int .i64 n, .slice a es.length c] 24]) (f 11)) ?first1 ?rest1
  case' first1 => intro JC KC hJC hKC
  case' rest1 =>
    intro f wr l hl hrel
    (try simp only [mask] at hl)
    generalize f 11 = u11 at hl hrel
    subst hl
    (try dsimp only at hrel)
  case first1 =>
    clear hkb
    by_cases hn : 0 < n
    · have HE := Lib.hid (show kOf n M = (M : Int) % n by simp [kOf, hn])
      go_wp2_with fail
      refine Meet.intro (by kernel_rfl) (hJC _ _ ?rel2)
      case' rel2 => (try dsimp only [nthV])
      exact ⟨by rw [HE.out], hs⟩
    · have HE := Lib.hid (show kOf n M = 0 by simp [kOf, hn])
      go_wp2_with fail
      refine Meet.intro (by kernel_rfl) (hJC _ _ ?rel3)
      case' rel3 => (try dsimp only [nthV])
      exact ⟨by rw [HE.out], hs⟩
  case rest1 =>
    clear hs n0 n1 xx0 xx1 xx2 hlt0 hlt1 hlt1'
    obtain ⟨rfl, hs⟩ := hrel
    obtain ⟨k0, k1⟩ := hkb
    obtain ⟨K, hK⟩ : ∃ K, K = kOf n M := ⟨_, rfl⟩
    rw [← hK] at HK k0 k1 ⊢
    have HKE := Lib.hid hK
    clear hK
    replace hs := ((hs.nilRecs edR 39).nilRecs edR 39).nilRecs edR 39
    obtain ⟨Bb, hBb⟩ : ∃ Bb, Bb = w1.heap.size := ⟨_, rfl⟩
    obtain ⟨Bo, hBo⟩ : ∃ Bo, Bo = w1.heap.size + 1 := ⟨_, rfl⟩
    obtain ⟨Bm, hBm⟩ : ∃ Bm, Bm = w1.heap.size + 1 + 1 := ⟨_, rfl⟩
    rw [← hBm, ← hBo, ← hBb] at hs ⊢
    clear hBm hBo hBb
    have hml : (es.map (mwE n K)).length = es.length := by simp
    have HML := Lib.hid hml
    have HBL := Lib.hid (back_len es)
    have HOL := Lib.hid (show es.reverse.length = es.length from by simp)
    clear hml
    go_wp2_with fail
    refine wp_loopM [none, none, none, none, none, none, none, none, none, none, none, none, some 12, some 13, none, none, none, none, none, none, none, none, none, none, none, none, none, none, none, none, none, none, none, none, none, none, none, none, none, none, none, none, none, some 43, some 44, some 45, some 46, some 47, some 48, some 49, some 50, some 51, some 52, some 53, some 54, some 55, some 56, some 57, some 58, some 59, some 60, some 61, some 62, some 63, some 64, some 65, some 66, some 67, some 68, some 69, some 70, some 71, some 72, some 73, some 74, some 75, some 76, some 77, some 78, some 79, some 80, some 81, some 82, some 83, some 84, some 85, some 86, some 87, some 88, some 89, some 90, some 91, some 92, some 93, some 94, some 95, some 96, some 97, some 98, some 99, some 100, some 101, some 102, some 103, some 104, some 105, some 106, some 107, some 108, some 109, some 110, some 111, some 112, some 113, some 114, some 115, some 116, some 117, some 118, some 119, some 120, some 121, some 122, some 123, some 124, some 125, none, none, none, none, none, none, none, none, none, none, none, none, none, none, none, none, none, none, none, none, none, none, none, none, none, none, none, none, none, none, none, none, none, none, none, none, none, none, none, none, none, none, none, none, none, none, none, none, none, none, none, none, none, none, none, none, none, none, none, none, none, none, none, none, none, none, none, none, none, none, none, none, none, none, none, none, none, none, none, none, none, none, none, none, none, none, none, none, none, none, none, none, none, none, none, none, none, none, none, none, none, none, none, none, none, none, none, none, none, none, none, none, none, none, none, none, none, none, none, none, none, none, none, none, none, none, none, none, none, none, none, none, none, none, none, none, none, none, none, none, none, none, none, none, none, none, none, none, none, none, none, none, none, none, none, none, none, none, none, none, none, none, none, none, none, none, none, none, none, none, none, none, none, none, none, none, none, none, none, none, none, none, none, none, none, none, none, none, none, none, none, none] (fun (r : Nat) (f : Nat → Value) (wr : World) => (fun (v : Value) => ∃ (i : Nat) (ab ao am : Option Addr) (cb co cm : Nat), v = .int .i64 i ∧ i ≤ es.length ∧ r = es.length - i ∧ Sep w wr [recT edR 39 (.slice ab i cb) ((backL es).take i), recT edR 39 (.slice ao i co) (es.reverse.take i), recT edR 39 (.slice am i cm) ((es.map (mwE n K)).take i), cellsT Bm #[.int .i64 n, .slice am i cm] 24, cellsT Bo #[.int .i64 n, .slice ao i co] 24, cellsT Bb #[.int .i64 n, .slice ab i cb] 24, cellsT w.heap.size #[.int .i64 n, .slice a es.length c] 24]) (f 12)) (es.length) (by kernel_rfl) ?atStart4 ?round4
    case' atStart4 => (try dsimp only [nthV])
    case' round4 =>
      intro gk f wr l hl hrel J1 K1 hJ1 hK1
      (try simp only [mask] at hl)
      generalize f 12 = u12 at hl hrel
      subst hl
      (try dsimp only at hrel)
    case atStart4 => exact ⟨0, none, none, none, 0, 0, 0, rfl, Nat.zero_le _, rfl, hs⟩
    case round4 =>
      clear hs
      obtain ⟨i, ab, ao, am, cb, co, cm, rfl, hi, rfl, hs⟩ := hrel
      have n0 := cell_of (hs.cells 6 rfl) 0
      have n1 := cell_of (hs.cells 6 rfl) 1
      simp only [List.getElem?_toArray, List.getElem?_cons_zero, List.getElem?_cons_succ] at n0 n1
      by_cases hlt : i < es.length
      · obtain ⟨bE, oE, eE, hbE, hcE⟩ := h.at i hlt
        obtain ⟨bF, oF, eF, hbF, hcF⟩ := h.at (es.length - 1 - i) (by omega)
        rw [eE] at eF
        injection eF with eF
        injection eF with eF eF2
        subst eF; subst eF2; subst eE
        have HA := Lib.hid (show (backL es).take (i + 1) = (backL es).take i ++ [turnE es[i]] from take_map_succ turnE es hlt)
        have HB := Lib.hid (take_rev_succ es hlt)
        have HC := Lib.hid (take_map_succ (mwE n K) es hlt)
        obtain ⟨e, hee⟩ : ∃ e, e = es[i] := ⟨_, rfl⟩
        obtain ⟨f, hff⟩ : ∃ f, f = es[es.length - 1 - i] := ⟨_, rfl⟩
        rw [← hee] at hcE HA HC
        rw [← hff] at hcF HB
        have e0 := (hs.cell hbE).trans (hcE 0 (by decide))
        have e1 := (hs.cell hbE).trans (hcE 1 (by decide))
        have e2 := (hs.cell hbE).trans (hcE 2 (by decide))
        have e3 := (hs.cell hbE).trans (hcE 3 (by decide))
        have f0 := hcF 0 (by decide)
        have f1 := hcF 1 (by decide)
        have f2 := hcF 2 (by decide)
        have f3 := hcF 3 (by decide)
        simp only [edR, Nat.add_zero, List.getElem?_cons_zero, List.getElem?_cons_succ] at e0 e1 e2 e3 f0 f1 f2 f3
        have HF := Lib.hid (fun (W : World) (L : List Thing) (hs : Sep w W L) => (⟨(hs.cell hbE).trans f0, (hs.cell hbE).trans f1, (hs.cell hbE).trans f2, (hs.cell hbE).trans f3⟩ : W.cell? ⟨bE, oE + (es.length - 1 - i) * 4, none⟩ = some (.int .i64 f.f) ∧ W.cell? ⟨bE, oE + (es.length - 1 - i) * 4 + 1, none⟩ = some (.int .i64 f.t) ∧ W.cell? ⟨bE, oE + (es.length - 1 - i) * 4 + 2, none⟩ = some (.int .i64 f.c) ∧ W.cell? ⟨bE, oE + (es.length - 1 - i) * 4 + 3, none⟩ = some (.int .i64 f.k)))
        clear hcE hcF hee hff f0 f1 f2 f3 hbF hbE
        have TL : ∀ l : List Ed, l.length = es.length → (l.take i).length = i := fun l hl => by rw [List.length_take]; omega
        have HLB := Lib.hid (TL _ HBL.out)
        have HLO := Lib.hid (TL _ HOL.out)
        have HLM := Lib.hid (TL _ HML.out)
        clear TL
        generalize (backL es).take i = LA at *
        generalize es.reverse.take i = LO at *
        generalize (es.map (mwE n K)).take i = LM at *
        replace hs := hs.newCells #[.int .i64 e.f, .int .i64 e.t, .int .i64 e.c, .int .i64 e.k] 39
        go_upto_region 14 with fail
        obtain ⟨Be, hBe⟩ : ∃ Be, Be = wr.heap.size := ⟨_, rfl⟩
        rw [← hBe] at hs ⊢
        clear hBe n0 n1 e0 e1 e2 e3
        generalize wr.alloc _ = w2 at hs ⊢
        have e0 := cell_of (hs.cells 0 rfl) 0
        have e1 := cell_of (hs.cells 0 rfl) 1
        have e2 := cell_of (hs.cells 0 rfl) 2
        have e3 := cell_of (hs.cells 0 rfl) 3
        simp only [List.getElem?_toArray, List.getElem?_cons_zero, List.getElem?_cons_succ] at e0 e1 e2 e3
        have b0 := cell_of (hs.cells 6 rfl) 0
        have b1 := cell_of (hs.cells 6 rfl) 1
        simp only [List.getElem?_toArray, List.getElem?_cons_zero, List.getElem?_cons_succ] at b0 b1
        go_wp2_with (at_builtin; refine wpList_appRec edR rfl (.tmp 56) (.tmp 66) 22 rfl 39 j0 _ 32 Try.underlying22 hj0 hy0 hy1 hy2 rfl _ _ (turnE e) hs 1 rfl #[.int .i64 e.t, .int .i64 e.f, .int .i64 e.c, .int .i64 e.k] rfl rfl rfl ?c3 ?c4 ?grow)
        case c3 => rw [HLB.out]; unfold maxLen; omega
        case c4 => rw [HLB.out]; omega
        case grow =>
          intro v' w3 hs3 hsh
          obtain ⟨g, cap, rfl⟩ := hsh.out
          rw [← HA.out] at hs3
          rw [HLB.out] at hs3 ⊢
          (try simp only [List.set_cons_succ, List.set_cons_zero] at hs3)
          clear hs e0 e1 e2 e3 b0 b1 hsh
          have qf := fun j => frozen_of (hs3.cells 6 rfl) j
          have b1 := cell_of (hs3.cells 6 rfl) 1
          simp only [List.getElem?_toArray, List.getElem?_cons_zero, List.getElem?_cons_succ] at b1
          go_wp2_with fail
          have hs4 := hs3.setCells 6 rfl 1 (.slice (some ⟨g, 0, none⟩) (i + 1) cap) #[.int .i64 n, .slice (some ⟨g, 0, none⟩) (i + 1) cap] rfl
          (try simp only [List.set_cons_succ, List.set_cons_zero] at hs4)
          clear qf b1 hs3
          generalize w3.setCell _ _ = w4 at hs4 ⊢
          obtain ⟨f0, f1, f2, f3⟩ := HF.out _ _ hs4.drew
          have n1 := cell_of (hs4.drew.cells 7 rfl) 1
          have o1 := cell_of (hs4.drew.cells 5 rfl) 1
          simp only [List.getElem?_toArray, List.getElem?_cons_zero, List.getElem?_cons_succ] at n1 o1
          have hCW : (fun W : World => W.cell? ⟨Bo, 1, none⟩ = some (.slice ao i co)) w4.drew := o1
          have hsa := (hs4.alloc (.cells #[.int .i64 f.f, .int .i64 f.t, .int .i64 f.c, .int .i64 f.k] 39)).drew
          refine Mix.region2 14 [1, 1, 0, 0, 0, 0, 0, 0, 0, 0, 0, 0, 2, 2, 0, 2] (fun W : World => W.cell? ⟨Bo, 1, none⟩ = some (.slice ao i co)) (by kernel_rfl) (by kernel_rfl) hCW ?_
          simp only [List.zip_cons_cons, List.zip_nil_right, List.take_succ_cons, List.take_zero, List.drop_succ_cons, List.drop_zero]
          (refine Mix.step1 fun K hK => ?_; go_simp; (try (go_bits; try go_simp)); first | ((with_reducible refine hK _ _ ?_); clear hK K) | ((try (simp only [IntWalk.iteOmega]; try go_simp)); (try go_bits); (with_reducible refine hK _ _ ?_); clear hK K))
          (refine Mix.step1 fun K hK => ?_; go_simp; refine ⟨fun W => ?_, hK _ _ ?_⟩; (intro hW1; (try intro hW2); (try intro hW3); (try intro hW4); (try intro hW5); (try intro hW6); (try intro hW7); (try intro hW8); go_simp); clear hK K)
          iterate 10 (refine Mix.step0 fun K hK => ?_; go_simp; (try (go_bits; try go_simp)); first | ((with_reducible refine hK _ _ ?_); clear hK K) | ((try (simp only [IntWalk.iteOmega]; try go_simp)); (try go_bits); (with_reducible refine hK _ _ ?_); clear hK K))
          refine Mix.step2n (by first | rfl | simp [Region.wanted, yielded]) fun K hK => ?_
          go_wp2_with fail
          have hCW := cell_of (hsa.cells 5 rfl) 1
          refine Mix.post_mk (C := (fun W : World => W.cell? ⟨Bo, 1, none⟩ = some (.slice ao i co))) (by first | exact hCW | exact HCW.out _) (hK _ _ ?_)
          clear hK K
          refine Mix.step2n (by first | rfl | simp [Region.wanted, yielded]) fun K hK => ?_
          refine wpList_appRecB edR rfl (.tmp 70) (.tmp 81) 22 rfl 39 j0 _ 32 Try.underlying22 hj0 hy0 hy1 hy2 rfl _ LO f hsa 2 rfl w4.heap.size _ rfl (heap_alloc_new w4 _) rfl rfl (by rw [HLO.out]; unfold maxLen; omega) (by rw [HLO.out]; omega) ?_
          intro v' w5 hs5 hsh
          obtain ⟨g2, cap2, rfl⟩ := hsh.out
          rw [← HB.out, HLO.out] at hs5
          rw [HLO.out]
          (try simp only [List.set_cons_succ, List.set_cons_zero] at hs5)
          clear hsa hsh hs4 f0 f1 f2 f3 n1 o1
          have hCW := cell_of (hs5.cells 5 rfl) 1
          have qf := fun j => frozen_of (hs5.cells 5 rfl) j
          have hCW' := hCW
          simp only [List.getElem?_toArray, List.getElem?_cons_zero, List.getElem?_cons_succ] at hCW'
          go_wp2_with fail
          refine Mix.post_mk (C := (fun W : World => W.cell? ⟨Bo, 1, none⟩ = some (.slice ao i co))) (by first | exact hCW | exact HCW.out _) (hK _ _ ?_)
          clear hK K
          refine Mix.done ?_
          iterate 1 (refine Mix.step0 fun K hK => ?_; go_simp; (try (go_bits; try go_simp)); first | ((with_reducible refine hK _ _ ?_); clear hK K) | ((try (simp only [IntWalk.iteOmega]; try go_simp)); (try go_bits); (with_reducible refine hK _ _ ?_); clear hK K))
          refine Mix.step2n (by first | rfl | simp [Region.wanted, yielded]) fun K hK => ?_
          go_wp2_with fail
          have hs6 := hs5.setCells 5 rfl 1 (.slice (some ⟨g2, 0, none⟩) (i + 1) cap2) #[.int .i64 n, .slice (some ⟨g2, 0, none⟩) (i + 1) cap2] rfl
          (try simp only [List.set_cons_succ, List.set_cons_zero] at hs6)
          clear hs5 qf hCW' hCW
          refine Mix.post_mk (C := (fun _ => True)) trivial (hK _ _ ?_)
          clear hK K
          refine Mix.done ?_
          generalize w5.setCell _ _ = w6 at hs6 ⊢
          have n0 := cell_of (hs6.cells 7 rfl) 0
          have p0 := cell_of (hs6.cells 0 rfl) 0
          have qf := fun j => frozen_of (hs6.cells 0 rfl) j
          simp only [List.getElem?_toArray, List.getElem?_cons_zero, List.getElem?_cons_succ] at n0 p0
          go_upto_region 16 with fail
          refine wp_cutM [none, none, none, none, none, none, none, none, none, none, none, none, none, none, none, none, none, none, none, none, none, none, none, none, none, none, none, none, none, none, none, none, none, none, none, none, none, none, none, none, none, none, none, none, none, none, none, none, none, none, none, none, none, none, none, none, none, none, none, none, none, none, none, none, none, none, none, none, none, none, none, none, none, none, none, none, none, none, none, none, none, none, none, none, some 84, some 85, some 86, some 87, some 88, some 89, some 90, some 91, some 92, some 93, none, none, none, none, none, none, none, none, none, none, none, none, none, none, none, none, none, none, none, none, none, none, none, none, none, none, none, none, none, none, none, none, none, none, none, none, none, none, none, none, none, none, none, none, none, none, none, none, none, none, none, none, none, none, none, none, none, none, none, none, none, none, none, none, none, none, none, none, none, none, none, none, none, none, none, none, none, none, none, none, none, none, none, none, none, none, none, none, none, none, none, none, none, none, none, none, none, none, none, none, none, none, none, none, none, none, none, none, none, none, none, none, none, none, none, none, none, none, none, none, none, none, none, none, none, none, none, none, none, none, none, none, none, none, none, none, none, none, none, none, none, none, none, none, none, none, none, none, none, none, none, none, none, none, none, none, none, none, none, none, none, none, none, none, none, none, none, none, none, none, none, none, none, none, none, none, none, none, none, none, none, none, none, none, none, none, none, none, none, none, none, none, none, none, none, none, none, none, none, none, none, none, none, none, none, none, none, none, none, none, none, none, none, none, none, none, none, none, none, none, none, none, none, none] (fun (f : Nat → Value) (wq : World) => (fun (vt : Value) => vt = .bool (inB n e.f) ∧ wq = w6) (f 93)) ?first5 ?rest5
          case' first5 => intro JC KC hJC hKC
          case' rest5 =>
            intro f wr l hl hrel
            (try simp only [mask] at hl)
            generalize f 93 = u93 at hl hrel
            subst hl
            (try dsimp only at hrel)
          case first5 =>
            go_wp2_with fail
            all_goals
              refine Meet.intro (by kernel_rfl) (hJC _ _ ?_)
              (try dsimp only [nthV])
              refine ⟨?_, rfl⟩
              unfold inB
              congr 1
              first
                | (rw [decide_eq_true (by assumption : 0 ≤ e.f), Bool.true_and])
                | (rw [decide_eq_false (by omega : ¬ 0 ≤ e.f), Bool.false_and])
          case rest5 =>
            obtain ⟨rfl, rfl⟩ := hrel
            go_upto_if 93 with fail
            refine wp_cutM [none, none, none, none, none, none, none, none, none, none, none, none, none, none, none, none, none, none, none, none, none, none, none, none, none, none, none, none, none, none, none, none, none, none, none, none, none, none, none, none, none, none, none, none, none, none, none, none, none, none, none, none, none, none, none, none, none, none, none, none, none, none, none, none, none, none, none, none, none, none, none, none, none, none, none, none, none, none, none, none, none, none, none, none, none, none, none, none, none, none, none, none, none, some 93, some 94, some 95, some 96, some 97, some 98, some 99, some 100, some 101, none, none, none, none, none, none, none, none, none, none, none, none, none, none, none, none, none, none, none, none, none, none, none, none, none, none, none, none, none, none, none, none, none, none, none, none, none, none, none, none, none, none, none, none, none, none, none, none, none, none, none, none, none, none, none, none, none, none, none, none, none, none, none, none, none, none, none, none, none, none, none, none, none, none, none, none, none, none, none, none, none, none, none, none, none, none, none, none, none, none, none, none, none, none, none, none, none, none, none, none, none, none, none, none, none, none, none, none, none, none, none, none, none, none, none, none, none, none, none, none, none, none, none, none, none, none, none, none, none, none, none, none, none, none, none, none, none, none, none, none, none, none, none, none, none, none, none, none, none, none, none, none, none, none, none, none, none, none, none, none, none, none, none, none, none, none, none, none, none, none, none, none, none, none, none, none, none, none, none, none, none, none, none, none, none, none, none, none, none, none, none, none, none, none, none, none, none, none, none, none, none, none, none, none, none, none, none, none, none, none, none, none, none, none, none, none] (fun (f : Nat → Value) (wq : World) => (fun (vq : Value) => Sep w wq [cellsT Be #[.int .i64 (mvW n K e.f), .int .i64 (e.t), .int .i64 e.c, .int .i64 e.k] 39, recT edR 39 (.slice (some ⟨g, 0, none⟩) (i + 1) cap) ((backL es).take (i + 1)), recT edR 39 (.slice (some ⟨g2, 0, none⟩) (i + 1) cap2) (es.reverse.take (i + 1)), recT edR 39 (.slice am i cm) LM, cellsT Bm #[.int .i64 n, .slice am i cm] 24, cellsT Bo #[.int .i64 n, .slice (some ⟨g2, 0, none⟩) (i + 1) cap2] 24, cellsT Bb #[.int .i64 n, .slice (some ⟨g, 0, none⟩) (i + 1) cap] 24, cellsT w.heap.size #[.int .i64 n, .slice (some ⟨bE, oE, none⟩) es.length c] 24]) (f 93)) ?first6 ?rest6
            case' first6 => intro JC KC hJC hKC
            case' rest6 =>
              intro f wr l hl hrel
              (try simp only [mask] at hl)
              generalize f 93 = u93 at hl hrel
              subst hl
              (try dsimp only at hrel)
            case first6 =>
              cases HIB : inB n e.f
              · have HM := Lib.hid (show mvW n K e.f = e.f from mvW_no HIB)
                clear HIB
                go_wp2_with fail
                refine Meet.intro (by kernel_rfl) (hJC _ _ ?rel7)
                case' rel7 => (try dsimp only [nthV])
                rw [HM.out]; exact hs6
              · have HM := Lib.hid (show mvW n K e.f = (wrap64 (e.f + K)).tmod n from mvW_yes HIB)
                have hn0 : ¬ n = 0 := by have := (inB_iff _ _).1 HIB; omega
                clear HIB
                go_wp2_with fail
                refine Meet.intro (by kernel_rfl) (hJC _ _ ?rel8)
                case' rel8 => (try dsimp only [nthV])
                rw [HM.out]
                exact hs6.setCells 0 rfl 0 _ _ rfl
            case rest6 =>
              clear hs6 n0 p0 qf
              have hs7 := hrel
              clear hrel
              have n0 := cell_of (hs7.cells 7 rfl) 0
              have p1 := cell_of (hs7.cells 0 rfl) 1
              have qf := fun j => frozen_of (hs7.cells 0 rfl) j
              simp only [List.getElem?_toArray, List.getElem?_cons_zero, List.getElem?_cons_succ] at n0 p1
              go_upto_region 18 with fail
              refine wp_cutM [none, none, none, none, none, none, none, none, none, none, none, none, none, none, none, none, none, none, none, none, none, none, none, none, none, none, none, none, none, none, none, none, none, none, none, none, none, none, none, none, none, none, none, none, none, none, none, none, none, none, none, none, none, none, none, none, none, none, none, none, none, none, none, none, none, none, none, none, none, none, none, none, none, none, none, none, none, none, none, none, none, none, none, none, none, none, none, none, none, none, none, none, none, none, none, none, none, none, none, none, none, none, some 102, some 103, some 104, some 105, some 106, some 107, some 108, some 109, some 110, some 111, none, none, none, none, none, none, none, none, none, none, none, none, none, none, none, none, none, none, none, none, none, none, none, none, none, none, none, none, none, none, none, none, none, none, none, none, none, none, none, none, none, none, none, none, none, none, none, none, none, none, none, none, none, none, none, none, none, none, none, none, none, none, none, none, none, none, none, none, none, none, none, none, none, none, none, none, none, none, none, none, none, none, none, none, none, none, none, none, none, none, none, none, none, none, none, none, none, none, none, none, none, none, none, none, none, none, none, none, none, none, none, none, none, none, none, none, none, none, none, none, none, none, none, none, none, none, none, none, none, none, none, none, none, none, none, none, none, none, none, none, none, none, none, none, none, none, none, none, none, none, none, none, none, none, none, none, none, none, none, none, none, none, none, none, none, none, none, none, none, none, none, none, none, none, none, none, none, none, none, none, none, none, none, none, none, none, none, none, none, none, none, none, none, none, none, none, none, none, none, none, none, none, none, none, none, none] (fun (f : Nat → Value) (wq : World) => (fun (vt : Value) => vt = .bool (inB n e.t) ∧ wq = wr) (f 111)) ?first9 ?rest9
              case' first9 => intro JC KC hJC hKC
              case' rest9 =>
                intro f wr l hl hrel
                (try simp only [mask] at hl)
                generalize f 111 = u111 at hl hrel
                subst hl
                (try dsimp only at hrel)
              case first9 =>
                go_wp2_with fail
                all_goals
                  refine Meet.intro (by kernel_rfl) (hJC _ _ ?_)
                  (try dsimp only [nthV])
                  refine ⟨?_, rfl⟩
                  unfold inB
                  congr 1
                  first
                    | (rw [decide_eq_true (by assumption : 0 ≤ e.t), Bool.true_and])
                    | (rw [decide_eq_false (by omega : ¬ 0 ≤ e.t), Bool.false_and])
              case rest9 =>
                obtain ⟨rfl, rfl⟩ := hrel
                go_upto_if 111 with fail
                refine wp_cutM [none, none, none, none, none, none, none, none, none, none, none, none, none, none, none, none, none, none, none, none, none, none, none, none, none, none, none, none, none, none, none, none, none, none, none, none, none, none, none, none, none, none, none, none, none, none, none, none, none, none, none, none, none, none, none, none, none, none, none, none, none, none, none, none, none, none, none, none, none, none, none, none, none, none, none, none, none, none, none, none, none, none, none, none, none, none, none, none, none, none, none, none, none, none, none, none, none, none, none, none, none, none, none, none, none, none, none, none, none, none, none, some 111, some 112, some 113, some 114, some 115, some 116, some 117, some 118, some 119, none, none, none, none, none, none, none, none, none, none, none, none, none, none, none, none, none, none, none, none, none, none, none, none, none, none, none, none, none, none, none, none, none, none, none, none, none, none, none, none, none, none, none, none, none, none, none, none, none, none, none, none, none, none, none, none, none, none, none, none, none, none, none, none, none, none, none, none, none, none, none, none, none, none, none, none, none, none, none, none, none, none, none, none, none, none, none, none, none, none, none, none, none, none, none, none, none, none, none, none, none, none, none, none, none, none, none, none, none, none, none, none, none, none, none, none, none, none, none, none, none, none, none, none, none, none, none, none, none, none, none, none, none, none, none, none, none, none, none, none, none, none, none, none, none, none, none, none, none, none, none, none, none, none, none, none, none, none, none, none, none, none, none, none, none, none, none, none, none, none, none, none, none, none, none, none, none, none, none, none, none, none, none, none, none, none, none, none, none, none, none, none, none, none, none, none, none, none] (fun (f : Nat → Value) (wq : World) => (fun (vq : Value) => Sep w wq [cellsT Be #[.int .i64 (mvW n K e.f), .int .i64 (mvW n K e.t), .int .i64 e.c, .int .i64 e.k] 39, recT edR 39 (.slice (some ⟨g, 0, none⟩) (i + 1) cap) ((backL es).take (i + 1)), recT edR 39 (.slice (some ⟨g2, 0, none⟩) (i + 1) cap2) (es.reverse.take (i + 1)), recT edR 39 (.slice am i cm) LM, cellsT Bm #[.int .i64 n, .slice am i cm] 24, cellsT Bo #[.int .i64 n, .slice (some ⟨g2, 0, none⟩) (i + 1) cap2] 24, cellsT Bb #[.int .i64 n, .slice (some ⟨g, 0, none⟩) (i + 1) cap] 24, cellsT w.heap.size #[.int .i64 n, .slice (some ⟨bE, oE, none⟩) es.length c] 24]) (f 111)) ?first10 ?rest10
                case' first10 => intro JC KC hJC hKC
                case' rest10 =>
                  intro f wr l hl hrel
                  (try simp only [mask] at hl)
                  generalize f 111 = u111 at hl hrel
                  subst hl
                  (try dsimp only at hrel)
                case first10 =>
                  cases HIB : inB n e.t
                  · have HM := Lib.hid (show mvW n K e.t = e.t from mvW_no HIB)
                    clear HIB
                    go_wp2_with fail
                    refine Meet.intro (by kernel_rfl) (hJC _ _ ?rel11)
                    case' rel11 => (try dsimp only [nthV])
                    rw [HM.out]; exact hs7
                  · have HM := Lib.hid (show mvW n K e.t = (wrap64 (e.t + K)).tmod n from mvW_yes HIB)
                    have hn0 : ¬ n = 0 := by have := (inB_iff _ _).1 HIB; omega
                    clear HIB
                    go_wp2_with fail
                    refine Meet.intro (by kernel_rfl) (hJC _ _ ?rel12)
                    case' rel12 => (try dsimp only [nthV])
                    rw [HM.out]
                    exact hs7.setCells 0 rfl 1 _ _ rfl
                case rest10 =>
                  clear hs7 n0 p1 qf
                  have hs8 := hrel
                  clear hrel

                  have e0 := cell_of (hs8.cells 0 rfl) 0
                  have e1 := cell_of (hs8.cells 0 rfl) 1
                  have e2 := cell_of (hs8.cells 0 rfl) 2
                  have e3 := cell_of (hs8.cells 0 rfl) 3
                  have m1 := cell_of (hs8.cells 4 rfl) 1
                  simp only [List.getElem?_toArray, List.getElem?_cons_zero, List.getElem?_cons_succ] at e0 e1 e2 e3 m1
                  go_wp2_with (at_builtin; refine wpList_appRec edR rfl (.tmp 121) (.tmp 123) 22 rfl 39 j0 _ 32 Try.underlying22 hj0 hy0 hy1 hy2 rfl _ LM (mwE n K e) hs8 3 rfl #[.int .i64 (mvW n K e.f), .int .i64 (mvW n K e.t), .int .i64 e.c, .int .i64 e.k] rfl rfl rfl ?d3 ?d4 ?grow2)
                  case d3 => rw [HLM.out]; unfold maxLen; omega
                  case d4 => rw [HLM.out]; omega
                  case grow2 =>
                    intro v' w9 hs9 hsh
                    obtain ⟨g3, cap3, rfl⟩ := hsh.out
                    rw [← HC.out] at hs9
                    rw [HLM.out] at hs9 ⊢
                    (try simp only [List.set_cons_succ, List.set_cons_zero] at hs9)
                    clear hs8 e0 e1 e2 e3 m1 hsh
                    have qf := fun j => frozen_of (hs9.cells 4 rfl) j
                    have m1 := cell_of (hs9.cells 4 rfl) 1
                    simp only [List.getElem?_toArray, List.getElem?_cons_zero, List.getElem?_cons_succ] at m1
                    go_wp2_with fail
                    have hsA := hs9.setCells 4 rfl 1 (.slice (some ⟨g3, 0, none⟩) (i + 1) cap3) #[.int .i64 n, .slice (some ⟨g3, 0, none⟩) (i + 1) cap3] rfl
                    (try simp only [List.set_cons_succ, List.set_cons_zero] at hsA)
                    refine Round.intro (es.length - (i + 1)) ?measure13 (by kernel_rfl) (hJ1 _ _ _ ?rel13)
                    case' rel13 => (try dsimp only [nthV])
                    case measure13 => omega
                    case rel13 => exact ⟨i + 1, _, _, _, _, _, _, by go_num, hlt, rfl, hsA.tail⟩
      · obtain rfl : i = es.length := by omega
        rw [List.take_of_length_le (by rw [HBL.out]; exact Nat.le_refl _), List.take_of_length_le (by rw [HOL.out]; exact Nat.le_refl _), List.take_of_length_le (by rw [HML.out]; exact Nat.le_refl _)] at hs
        go_wp2_with fail
        replace hs := hs.nilInts .i64 2
        refine wp_loopM [none, none, none, none, none, none, none, none, none, none, some 10, none, none, none, some 14, none, none, none, none, none, none, none, none, none, none, none, none, none, none, none, none, none, none, none, none, none, none, none, none, none, none, none, none, none, none, none, none, none, none, none, none, none, none, none, none, none, none, none, none, none, none, none, none, none, none, none, none, none, none, none, none, none, none, none, none, none, none, none, none, none, none, none, none, none, none, none, none, none, none, none, none, none, none, none, none, none, none, none, none, none, none, none, none, none, none, none, none, none, none, none, none, none, none, none, none, none, none, none, none, none, none, none, none, none, none, none, none, none, none, some 129, some 130, some 131, some 132, some 133, some 134, some 135, some 136, some 137, some 138, some 139, none, none, none, none, none, none, none, none, none, none, none, none, none, none, none, none, none, none, none, none, none, none, none, none, none, none, none, none, none, none, none, none, none, none, none, none, none, none, none, none, none, none, none, none, none, none, none, none, none, none, none, none, none, none, none, none, none, none, none, none, none, none, none, none, none, none, none, none, none, none, none, none, none, none, none, none, none, none, none, none, none, none, none, none, none, none, none, none, none, none, none, none, none, none, none, none, none, none, none, none, none, none, none, none, none, none, none, none, none, none, none, none, none, none, none, none, none, none, none, none, none, none, none, none, none, none, none, none, none, none, none, none, none, none, none, none, none, none, none, none, none, none, none, none, none, none, none, none, none, none, none, none, none, none, none, none, none, none, none, none, none, none, none, none, none, none, none, none, none, none, none, none, none, none, none, none, none, none] (fun (r : Nat) (f : Nat → Value) (wr : World) => (fun (v vt : Value) => ∃ q : Nat, v = .int .i64 ((q : Int) - 1) ∧ q ≤ fl.length ∧ q = r ∧ Sep w wr [intsT .i64 2 vt (fl.drop q).reverse, recT edR 39 (.slice ab es.length cb) (backL es), recT edR 39 (.slice ao es.length co) es.reverse, recT edR 39 (.slice am es.length cm) (es.map (mwE n K)), cellsT Bm #[.int .i64 n, .slice am es.length cm] 24, cellsT Bo #[.int .i64 n, .slice ao es.length co] 24, cellsT Bb #[.int .i64 n, .slice ab es.length cb] 24, cellsT w.heap.size #[.int .i64 n, .slice a es.length c] 24]) (f 14) (f 10)) (fl.length) (by kernel_rfl) ?atStart14 ?round14
        case' atStart14 => (try dsimp only [nthV])
        case' round14 =>
          intro gk f wr l hl hrel J2 K2 hJ2 hK2
          (try simp only [mask] at hl)
          generalize f 14 = u14 at hl hrel
          generalize f 10 = u10 at hl hrel
          subst hl
          (try dsimp only at hrel)
        case atStart14 => exact ⟨fl.length, rfl, Nat.le_refl _, rfl, by rw [List.drop_length]; exact hs⟩
        case round14 =>
          clear hs n0 n1
          obtain ⟨q, rfl, hq, rfl, hs⟩ := hrel
          by_cases hq0 : q = 0
          · subst hq0
            rw [List.drop_zero] at hs
            obtain ⟨at_, ct, hu⟩ := (hs.rdInts 0 rfl).shape
            rw [List.length_reverse] at hu
            subst hu
            have gt := hs.rdInts 0 rfl
            have gf := hs.rd h'
            have gn := hs.rdG h
            have gb : RdG edR wr (.slice ab es.length cb) (backL es) := hs.rdRecs 1 rfl
            have go : RdG edR wr (.slice ao es.length co) es.reverse := hs.rdRecs 2 rfl
            have gm : RdG edR wr (.slice am es.length cm) (es.map (mwE n K)) := hs.rdRecs 3 rfl
            have N0 := lt_of (hs.cells 7 rfl)
            have NB := lt_of (hs.cells 6 rfl)
            have NO := lt_of (hs.cells 5 rfl)
            have NM := lt_of (hs.cells 4 rfl)
            have n0 := cell_of (hs.cells 7 rfl) 0
            have n1 := cell_of (hs.cells 7 rfl) 1
            simp only [List.getElem?_toArray, List.getElem?_cons_zero, List.getElem?_cons_succ] at n0 n1
            have b0 := cell_of (hs.cells 6 rfl) 0
            have b1 := cell_of (hs.cells 6 rfl) 1
            simp only [List.getElem?_toArray, List.getElem?_cons_zero, List.getElem?_cons_succ] at b0 b1
            have o0 := cell_of (hs.cells 5 rfl) 0
            have o1 := cell_of (hs.cells 5 rfl) 1
            simp only [List.getElem?_toArray, List.getElem?_cons_zero, List.getElem?_cons_succ] at o0 o1
            have m0 := cell_of (hs.cells 4 rfl) 0
            have m1 := cell_of (hs.cells 4 rfl) 1
            simp only [List.getElem?_toArray, List.getElem?_cons_zero, List.getElem?_cons_succ] at m0 m1
            have HBW := Lib.hid hs.below
            have FIN := Lib.hid (fun (W : World) (L : List Thing) (h : Sep wr W L) =>
              (⟨⟨(h.cell N0).trans n0, (h.cell N0).trans n1⟩, ⟨(h.cell NB).trans b0, (h.cell NB).trans b1⟩, ⟨(h.cell NO).trans o0, (h.cell NO).trans o1⟩, ⟨(h.cell NM).trans m0, (h.cell NM).trans m1⟩⟩ :
                (W.cell? ⟨w.heap.size, 0, none⟩ = some (.int .i64 n) ∧ W.cell? ⟨w.heap.size, 1, none⟩ = some (.slice a es.length c)) ∧ (W.cell? ⟨Bb, 0, none⟩ = some (.int .i64 n) ∧ W.cell? ⟨Bb, 1, none⟩ = some (.slice ab es.length cb)) ∧
                (W.cell? ⟨Bo, 0, none⟩ = some (.int .i64 n) ∧ W.cell? ⟨Bo, 1, none⟩ = some (.slice ao es.length co)) ∧ (W.cell? ⟨Bm, 0, none⟩ = some (.int .i64 n) ∧ W.cell? ⟨Bm, 1, none⟩ = some (.slice am es.length cm))))
            clear N0 NB NO NM hs
            have hs := Sep.start wr
            go_wp2_with fail
            refine (within_l rfl n a c _ fl _ (hs.rdG gn) (hs.rd gf)).mono ?_
            rintro en wx ⟨rfl, hb⟩
            replace hs := hs.belowStep hb
            clear hb; (try clear n0 n1)
            replace hs := hs.drew
            (try clear n0 n1); (try clear b0 b1); (try clear o0 o1); (try clear m0 m1)
            obtain ⟨⟨n0, n1⟩, ⟨b0, b1⟩, ⟨o0, o1⟩, ⟨m0, m1⟩⟩ := FIN.out _ _ hs
            have hCW := (show (fun W : World => W.cell? ⟨w.heap.size, 0, none⟩ = some (.int .i64 n) ∧ W.cell? ⟨w.heap.size, 1, none⟩ = some (.slice a es.length c)) _ from ⟨n0, n1⟩)
            go_wp2_with fail
            refine Mix.region [0, 2, 1, 2, 0, 0, 0, 2, 1, 2, 0, 0, 0, 0, 2, 1, 2, 0, 0, 0, 0, 0, 2, 1, 0, 0, 0, 0, 0, 2, 1, 0, 0, 0, 0, 0, 2, 1, 0, 0] (fun W : World => W.cell? ⟨w.heap.size, 0, none⟩ = some (.int .i64 n) ∧ W.cell? ⟨w.heap.size, 1, none⟩ = some (.slice a es.length c)) (by kernel_rfl) (by kernel_rfl) hCW ?_
            simp only [List.zip_cons_cons, List.zip_nil_right]
            iterate 1 (refine Mix.step0 fun K hK => ?_; go_simp; (try (go_bits; try go_simp)); first | ((with_reducible refine hK _ _ ?_); clear hK K) | ((try (simp only [IntWalk.iteOmega]; try go_simp)); (try go_bits); (with_reducible refine hK _ _ ?_); clear hK K))
            refine Mix.step2n (by first | rfl | simp [Region.wanted, yielded]) fun K hK => ?_
            go_wp2_with fail
            refine (right_l HBL.out n _ _ _ (hs.rdG gb)).mono ?_
            rintro en wx ⟨rfl, hb⟩
            rw [right_back]
            clear hCW
            replace hs := hs.belowStep hb
            clear hb; (try clear n0 n1)
            (try clear n0 n1); (try clear b0 b1); (try clear o0 o1); (try clear m0 m1)
            obtain ⟨⟨n0, n1⟩, ⟨b0, b1⟩, ⟨o0, o1⟩, ⟨m0, m1⟩⟩ := FIN.out _ _ hs
            have hCW := (show (fun W : World => W.cell? ⟨w.heap.size, 0, none⟩ = some (.int .i64 n) ∧ W.cell? ⟨w.heap.size, 1, none⟩ = some (.slice a es.length c)) _ from ⟨n0, n1⟩)
            go_wp2_with fail
            refine Mix.post_mk (C := (fun W : World => W.cell? ⟨w.heap.size, 0, none⟩ = some (.int .i64 n) ∧ W.cell? ⟨w.heap.size, 1, none⟩ = some (.slice a es.length c))) (by first | exact hCW | exact HCW.out _) (hK _ _ ?_)
            clear hK K
            (refine Mix.step1 fun K hK => ?_; go_simp; refine ⟨fun W => ?_, hK _ _ ?_⟩; (intro hW1; (try intro hW2); (try intro hW3); (try intro hW4); (try intro hW5); (try intro hW6); (try intro hW7); (try intro hW8); go_simp); clear hK K)
            refine Mix.step2n (by first | rfl | simp [Region.wanted, yielded]) fun K hK => ?_
            go_wp2_with fail
            refine (right_l rfl n _ _ _ (hs.rdG gn)).mono ?_
            rintro en wx ⟨rfl, hb⟩
            skip
            clear hCW
            replace hs := hs.belowStep hb
            clear hb; (try clear n0 n1)
            (try clear n0 n1); (try clear b0 b1); (try clear o0 o1); (try clear m0 m1)
            obtain ⟨⟨n0, n1⟩, ⟨b0, b1⟩, ⟨o0, o1⟩, ⟨m0, m1⟩⟩ := FIN.out _ _ hs
            have hCW := (show (fun W : World => W.cell? ⟨w.heap.size, 0, none⟩ = some (.int .i64 n) ∧ W.cell? ⟨w.heap.size, 1, none⟩ = some (.slice a es.length c)) _ from ⟨n0, n1⟩)
            go_wp2_with fail
            refine Mix.post_mk (C := (fun W : World => W.cell? ⟨w.heap.size, 0, none⟩ = some (.int .i64 n) ∧ W.cell? ⟨w.heap.size, 1, none⟩ = some (.slice a es.length c))) (by first | exact hCW | exact HCW.out _) (hK _ _ ?_)
            clear hK K
            iterate 2 (refine Mix.step0 fun K hK => ?_; go_simp; (try (go_bits; try go_simp)); first | ((with_reducible refine hK _ _ ?_); clear hK K) | ((try (simp only [IntWalk.iteOmega]; try go_simp)); (try go_bits); (with_reducible refine hK _ _ ?_); clear hK K))
            iterate 1 (first | (refine Mix.stepS rfl fun K hK => ?_; go_simp; (with_reducible refine hK _ _ ?_); clear hK K) | (refine Mix.step0 fun K hK => ?_; go_simp; (try (go_bits; try go_simp)); first | ((with_reducible refine hK _ _ ?_); clear hK K) | ((try (simp only [IntWalk.iteOmega]; try go_simp)); (try go_bits); (with_reducible refine hK _ _ ?_); clear hK K)))
            refine Mix.step2n (by first | rfl | simp [Region.wanted, yielded]) fun K hK => ?_
            go_wp2_with fail
            refine (right_l HOL.out n _ _ _ (hs.rdG go)).mono ?_
            rintro en wx ⟨rfl, hb⟩
            rw [right_rev]
            clear hCW
            replace hs := hs.belowStep hb
            clear hb; (try clear n0 n1)
            (try clear n0 n1); (try clear b0 b1); (try clear o0 o1); (try clear m0 m1)
            obtain ⟨⟨n0, n1⟩, ⟨b0, b1⟩, ⟨o0, o1⟩, ⟨m0, m1⟩⟩ := FIN.out _ _ hs
            have hCW := (show (fun W : World => W.cell? ⟨w.heap.size, 0, none⟩ = some (.int .i64 n) ∧ W.cell? ⟨w.heap.size, 1, none⟩ = some (.slice a es.length c)) _ from ⟨n0, n1⟩)
            go_wp2_with fail
            refine Mix.post_mk (C := (fun W : World => W.cell? ⟨w.heap.size, 0, none⟩ = some (.int .i64 n) ∧ W.cell? ⟨w.heap.size, 1, none⟩ = some (.slice a es.length c))) (by first | exact hCW | exact HCW.out _) (hK _ _ ?_)
            clear hK K
            (refine Mix.step1 fun K hK => ?_; go_simp; refine ⟨fun W => ?_, hK _ _ ?_⟩; (intro hW1; (try intro hW2); (try intro hW3); (try intro hW4); (try intro hW5); (try intro hW6); (try intro hW7); (try intro hW8); go_simp); clear hK K)
            refine Mix.step2n (by first | rfl | simp [Region.wanted, yielded]) fun K hK => ?_
            go_wp2_with fail
            refine (right_l rfl n _ _ _ (hs.rdG gn)).mono ?_
            rintro en wx ⟨rfl, hb⟩
            skip
            clear hCW
            replace hs := hs.belowStep hb
            clear hb; (try clear n0 n1)
            (try clear n0 n1); (try clear b0 b1); (try clear o0 o1); (try clear m0 m1)
            obtain ⟨⟨n0, n1⟩, ⟨b0, b1⟩, ⟨o0, o1⟩, ⟨m0, m1⟩⟩ := FIN.out _ _ hs
            have hCW := (show (fun W : World => W.cell? ⟨w.heap.size, 0, none⟩ = some (.int .i64 n) ∧ W.cell? ⟨w.heap.size, 1, none⟩ = some (.slice a es.length c)) _ from ⟨n0, n1⟩)
            go_wp2_with fail
            refine Mix.post_mk (C := (fun W : World => W.cell? ⟨w.heap.size, 0, none⟩ = some (.int .i64 n) ∧ W.cell? ⟨w.heap.size, 1, none⟩ = some (.slice a es.length c))) (by first | exact hCW | exact HCW.out _) (hK _ _ ?_)
            clear hK K
            iterate 1 (first | (refine Mix.stepS rfl fun K hK => ?_; go_simp; (with_reducible refine hK _ _ ?_); clear hK K) | (refine Mix.step0 fun K hK => ?_; go_simp; (try (go_bits; try go_simp)); first | ((with_reducible refine hK _ _ ?_); clear hK K) | ((try (simp only [IntWalk.iteOmega]; try go_simp)); (try go_bits); (with_reducible refine hK _ _ ?_); clear hK K)))
            iterate 2 (refine Mix.step0 fun K hK => ?_; go_simp; (try (go_bits; try go_simp)); first | ((with_reducible refine hK _ _ ?_); clear hK K) | ((try (simp only [IntWalk.iteOmega]; try go_simp)); (try go_bits); (with_reducible refine hK _ _ ?_); clear hK K))
            iterate 1 (first | (refine Mix.stepS rfl fun K hK => ?_; go_simp; (with_reducible refine hK _ _ ?_); clear hK K) | (refine Mix.step0 fun K hK => ?_; go_simp; (try (go_bits; try go_simp)); first | ((with_reducible refine hK _ _ ?_); clear hK K) | ((try (simp only [IntWalk.iteOmega]; try go_simp)); (try go_bits); (with_reducible refine hK _ _ ?_); clear hK K)))
            refine Mix.step2n (by first | rfl | simp [Region.wanted, yielded]) fun K hK => ?_
            go_wp2_with fail
            refine (right_l HML.out n _ _ _ (hs.rdG gm)).mono ?_
            rintro en wx ⟨rfl, hb⟩
            rw [right_mw HK.out]
            clear hCW
            replace hs := hs.belowStep hb
            clear hb; (try clear n0 n1)
            (try clear n0 n1); (try clear b0 b1); (try clear o0 o1); (try clear m0 m1)
            obtain ⟨⟨n0, n1⟩, ⟨b0, b1⟩, ⟨o0, o1⟩, ⟨m0, m1⟩⟩ := FIN.out _ _ hs
            have hCW := (show (fun W : World => W.cell? ⟨w.heap.size, 0, none⟩ = some (.int .i64 n) ∧ W.cell? ⟨w.heap.size, 1, none⟩ = some (.slice a es.length c)) _ from ⟨n0, n1⟩)
            go_wp2_with fail
            refine Mix.post_mk (C := (fun W : World => W.cell? ⟨w.heap.size, 0, none⟩ = some (.int .i64 n) ∧ W.cell? ⟨w.heap.size, 1, none⟩ = some (.slice a es.length c))) (by first | exact hCW | exact HCW.out _) (hK _ _ ?_)
            clear hK K
            (refine Mix.step1 fun K hK => ?_; go_simp; refine ⟨fun W => ?_, hK _ _ ?_⟩; (intro hW1; (try intro hW2); (try intro hW3); (try intro hW4); (try intro hW5); (try intro hW6); (try intro hW7); (try intro hW8); go_simp); clear hK K)
            refine Mix.step2n (by first | rfl | simp [Region.wanted, yielded]) fun K hK => ?_
            go_wp2_with fail
            refine (right_l rfl n _ _ _ (hs.rdG gn)).mono ?_
            rintro en wx ⟨rfl, hb⟩
            skip
            clear hCW
            replace hs := hs.belowStep hb
            clear hb; (try clear n0 n1)
            (try clear n0 n1); (try clear b0 b1); (try clear o0 o1); (try clear m0 m1)
            obtain ⟨⟨n0, n1⟩, ⟨b0, b1⟩, ⟨o0, o1⟩, ⟨m0, m1⟩⟩ := FIN.out _ _ hs
            have hCW := (show (fun W : World => W.cell? ⟨w.heap.size, 0, none⟩ = some (.int .i64 n) ∧ W.cell? ⟨w.heap.size, 1, none⟩ = some (.slice a es.length c)) _ from ⟨n0, n1⟩)
            go_wp2_with fail
            refine Mix.post_mk (C := (fun W : World => W.cell? ⟨w.heap.size, 0, none⟩ = some (.int .i64 n) ∧ W.cell? ⟨w.heap.size, 1, none⟩ = some (.slice a es.length c))) (by first | exact hCW | exact HCW.out _) (hK _ _ ?_)
            clear hK K
            iterate 1 (first | (refine Mix.stepS rfl fun K hK => ?_; go_simp; (with_reducible refine hK _ _ ?_); clear hK K) | (refine Mix.step0 fun K hK => ?_; go_simp; (try (go_bits; try go_simp)); first | ((with_reducible refine hK _ _ ?_); clear hK K) | ((try (simp only [IntWalk.iteOmega]; try go_simp)); (try go_bits); (with_reducible refine hK _ _ ?_); clear hK K)))
            iterate 2 (refine Mix.step0 fun K hK => ?_; go_simp; (try (go_bits; try go_simp)); first | ((with_reducible refine hK _ _ ?_); clear hK K) | ((try (simp only [IntWalk.iteOmega]; try go_simp)); (try go_bits); (with_reducible refine hK _ _ ?_); clear hK K))
            iterate 2 (first | (refine Mix.stepS rfl fun K hK => ?_; go_simp; (with_reducible refine hK _ _ ?_); clear hK K) | (refine Mix.step0 fun K hK => ?_; go_simp; (try (go_bits; try go_simp)); first | ((with_reducible refine hK _ _ ?_); clear hK K) | ((try (simp only [IntWalk.iteOmega]; try go_simp)); (try go_bits); (with_reducible refine hK _ _ ?_); clear hK K)))
            refine Mix.step2n (by first | rfl | simp [Region.wanted, yielded]) fun K hK => ?_
            go_wp2_with fail
            refine (within_l HBL.out n _ _ _ fl _ (hs.rdG gb) (hs.rd gf)).mono ?_
            rintro en wx ⟨rfl, hb⟩
            rw [within_back]
            clear hCW
            replace hs := hs.belowStep hb
            clear hb; (try clear n0 n1)
            (try clear n0 n1); (try clear b0 b1); (try clear o0 o1); (try clear m0 m1)
            obtain ⟨⟨n0, n1⟩, ⟨b0, b1⟩, ⟨o0, o1⟩, ⟨m0, m1⟩⟩ := FIN.out _ _ hs
            have hCW := (show (fun W : World => W.cell? ⟨w.heap.size, 0, none⟩ = some (.int .i64 n) ∧ W.cell? ⟨w.heap.size, 1, none⟩ = some (.slice a es.length c)) _ from ⟨n0, n1⟩)
            go_wp2_with fail
            refine Mix.post_mk (C := (fun W : World => W.cell? ⟨w.heap.size, 0, none⟩ = some (.int .i64 n) ∧ W.cell? ⟨w.heap.size, 1, none⟩ = some (.slice a es.length c))) (by first | exact hCW | exact HCW.out _) (hK _ _ ?_)
            clear hK K
            (refine Mix.step1 fun K hK => ?_; go_simp; (try (go_bits; try go_simp)); first | ((with_reducible refine hK _ _ ?_); clear hK K) | ((try (simp only [IntWalk.iteOmega]; try go_simp)); (try go_bits); (with_reducible refine hK _ _ ?_); clear hK K))
            iterate 1 (first | (refine Mix.stepS rfl fun K hK => ?_; go_simp; (with_reducible refine hK _ _ ?_); clear hK K) | (refine Mix.step0 fun K hK => ?_; go_simp; (try (go_bits; try go_simp)); first | ((with_reducible refine hK _ _ ?_); clear hK K) | ((try (simp only [IntWalk.iteOmega]; try go_simp)); (try go_bits); (with_reducible refine hK _ _ ?_); clear hK K)))
            iterate 2 (refine Mix.step0 fun K hK => ?_; go_simp; (try (go_bits; try go_simp)); first | ((with_reducible refine hK _ _ ?_); clear hK K) | ((try (simp only [IntWalk.iteOmega]; try go_simp)); (try go_bits); (with_reducible refine hK _ _ ?_); clear hK K))
            iterate 2 (first | (refine Mix.stepS rfl fun K hK => ?_; go_simp; (with_reducible refine hK _ _ ?_); clear hK K) | (refine Mix.step0 fun K hK => ?_; go_simp; (try (go_bits; try go_simp)); first | ((with_reducible refine hK _ _ ?_); clear hK K) | ((try (simp only [IntWalk.iteOmega]; try go_simp)); (try go_bits); (with_reducible refine hK _ _ ?_); clear hK K)))
            refine Mix.step2n (by first | rfl | simp [Region.wanted, yielded]) fun K hK => ?_
            go_wp2_with fail
            refine (within_l HOL.out n _ _ _ fl.reverse _ (hs.rdG go) (hs.rd gt)).mono ?_
            rintro en wx ⟨rfl, hb⟩
            rw [within_rev]
            clear hCW
            replace hs := hs.belowStep hb
            clear hb; (try clear n0 n1)
            (try clear n0 n1); (try clear b0 b1); (try clear o0 o1); (try clear m0 m1)
            obtain ⟨⟨n0, n1⟩, ⟨b0, b1⟩, ⟨o0, o1⟩, ⟨m0, m1⟩⟩ := FIN.out _ _ hs
            have hCW := (show (fun W : World => W.cell? ⟨w.heap.size, 0, none⟩ = some (.int .i64 n) ∧ W.cell? ⟨w.heap.size, 1, none⟩ = some (.slice a es.length c)) _ from ⟨n0, n1⟩)
            go_wp2_with fail
            refine Mix.post_mk (C := (fun W : World => W.cell? ⟨w.heap.size, 0, none⟩ = some (.int .i64 n) ∧ W.cell? ⟨w.heap.size, 1, none⟩ = some (.slice a es.length c))) (by first | exact hCW | exact HCW.out _) (hK _ _ ?_)
            clear hK K
            (refine Mix.step1 fun K hK => ?_; go_simp; (try (go_bits; try go_simp)); first | ((with_reducible refine hK _ _ ?_); clear hK K) | ((try (simp only [IntWalk.iteOmega]; try go_simp)); (try go_bits); (with_reducible refine hK _ _ ?_); clear hK K))
            iterate 1 (first | (refine Mix.stepS rfl fun K hK => ?_; go_simp; (with_reducible refine hK _ _ ?_); clear hK K) | (refine Mix.step0 fun K hK => ?_; go_simp; (try (go_bits; try go_simp)); first | ((with_reducible refine hK _ _ ?_); clear hK K) | ((try (simp only [IntWalk.iteOmega]; try go_simp)); (try go_bits); (with_reducible refine hK _ _ ?_); clear hK K)))
            iterate 2 (refine Mix.step0 fun K hK => ?_; go_simp; (try (go_bits; try go_simp)); first | ((with_reducible refine hK _ _ ?_); clear hK K) | ((try (simp only [IntWalk.iteOmega]; try go_simp)); (try go_bits); (with_reducible refine hK _ _ ?_); clear hK K))
            iterate 2 (first | (refine Mix.stepS rfl fun K hK => ?_; go_simp; (with_reducible refine hK _ _ ?_); clear hK K) | (refine Mix.step0 fun K hK => ?_; go_simp; (try (go_bits; try go_simp)); first | ((with_reducible refine hK _ _ ?_); clear hK K) | ((try (simp only [IntWalk.iteOmega]; try go_simp)); (try go_bits); (with_reducible refine hK _ _ ?_); clear hK K)))
            refine Mix.step2n (by first | rfl | simp [Region.wanted, yielded]) fun K hK => ?_
            go_wp2_with fail
            refine (within_l HML.out n _ _ _ fl _ (hs.rdG gm) (hs.rd gf)).mono ?_
            rintro en wx ⟨rfl, hb⟩
            rw [within_mw HK.out]
            clear hCW
            replace hs := hs.belowStep hb
            clear hb; (try clear n0 n1)
            (try clear n0 n1); (try clear b0 b1); (try clear o0 o1); (try clear m0 m1)
            obtain ⟨⟨n0, n1⟩, ⟨b0, b1⟩, ⟨o0, o1⟩, ⟨m0, m1⟩⟩ := FIN.out _ _ hs
            have hCW := (show (fun W : World => W.cell? ⟨w.heap.size, 0, none⟩ = some (.int .i64 n) ∧ W.cell? ⟨w.heap.size, 1, none⟩ = some (.slice a es.length c)) _ from ⟨n0, n1⟩)
            go_wp2_with fail
            refine Mix.post_mk (C := (fun W : World => W.cell? ⟨w.heap.size, 0, none⟩ = some (.int .i64 n) ∧ W.cell? ⟨w.heap.size, 1, none⟩ = some (.slice a es.length c))) (by first | exact hCW | exact HCW.out _) (hK _ _ ?_)
            clear hK K
            (refine Mix.step1 fun K hK => ?_; go_simp; (try (go_bits; try go_simp)); first | ((with_reducible refine hK _ _ ?_); clear hK K) | ((try (simp only [IntWalk.iteOmega]; try go_simp)); (try go_bits); (with_reducible refine hK _ _ ?_); clear hK K))
            iterate 1 (first | (refine Mix.stepS rfl fun K hK => ?_; go_simp; (with_reducible refine hK _ _ ?_); clear hK K) | (refine Mix.step0 fun K hK => ?_; go_simp; (try (go_bits; try go_simp)); first | ((with_reducible refine hK _ _ ?_); clear hK K) | ((try (simp only [IntWalk.iteOmega]; try go_simp)); (try go_bits); (with_reducible refine hK _ _ ?_); clear hK K)))
            iterate 1 (refine Mix.step0 fun K hK => ?_; go_simp; (try (go_bits; try go_simp)); first | ((with_reducible refine hK _ _ ?_); clear hK K) | ((try (simp only [IntWalk.iteOmega]; try go_simp)); (try go_bits); (with_reducible refine hK _ _ ?_); clear hK K))
            refine Mix.done ?_
            clear hCW
            go_wp2_with fail
            refine (over_l rfl n a c _ fl _ (hs.rdG gn) (hs.rd gf)).mono ?_
            rintro en wa ⟨ua, rfl, hsx⟩
            replace hs := hs.join hsx
            clear hsx
            (try clear n0 n1); (try clear b0 b1); (try clear o0 o1); (try clear m0 m1)
            obtain ⟨⟨n0, n1⟩, ⟨b0, b1⟩, ⟨o0, o1⟩, ⟨m0, m1⟩⟩ := FIN.out _ _ hs
            go_wp2_with fail
            refine (over_l HBL.out n _ _ _ fl _ (hs.rdG gb) (hs.rd gf)).mono ?_
            rintro en wb ⟨ub, rfl, hsx⟩
            replace hs := hs.join hsx
            clear hsx
            (try clear n0 n1); (try clear b0 b1); (try clear o0 o1); (try clear m0 m1)
            obtain ⟨⟨n0, n1⟩, ⟨b0, b1⟩, ⟨o0, o1⟩, ⟨m0, m1⟩⟩ := FIN.out _ _ hs
            go_wp2_with fail
            refine (over_l HOL.out n _ _ _ fl.reverse _ (hs.rdG go) (hs.rd gt)).mono ?_
            rintro en wc ⟨uc, rfl, hsx⟩
            replace hs := hs.join hsx
            clear hsx
            (try clear n0 n1); (try clear b0 b1); (try clear o0 o1); (try clear m0 m1)
            obtain ⟨⟨n0, n1⟩, ⟨b0, b1⟩, ⟨o0, o1⟩, ⟨m0, m1⟩⟩ := FIN.out _ _ hs
            go_wp2_with fail
            refine (over_l HML.out n _ _ _ fl _ (hs.rdG gm) (hs.rd gf)).mono ?_
            rintro en wd ⟨ud, rfl, hsx⟩
            replace hs := hs.join hsx
            clear hsx
            simp only [List.cons_append, List.nil_append] at hs
            (try clear n0 n1); (try clear b0 b1); (try clear o0 o1); (try clear m0 m1)
            obtain ⟨⟨n0, n1⟩, ⟨b0, b1⟩, ⟨o0, o1⟩, ⟨m0, m1⟩⟩ := FIN.out _ _ hs
            cases hr : withinB n es fl
            · have z1 : overV n es fl = [] := by simp [overV, hr]
              have z2 : overV n (backL es) fl = [] := by simp [overV, within_back, hr]
              have z3 : overV n es.reverse fl.reverse = [] := by simp [overV, within_rev, hr]
              have z4 : overV n (es.map (mwE n K)) fl = [] := by simp [overV, within_mw HK.out, hr]
              have HC := Lib.hid (show costV n es fl = 0 by simp [costV, hr])
              rw [z1, z2, z3, z4] at hs
              obtain ⟨ax, cx, hu⟩ := (hs.rdInts 0 rfl).shape
              subst hu
              obtain ⟨ax, cx, hu⟩ := (hs.rdInts 1 rfl).shape
              subst hu
              obtain ⟨ax, cx, hu⟩ := (hs.rdInts 2 rfl).shape
              subst hu
              obtain ⟨ax, cx, hu⟩ := (hs.rdInts 3 rfl).shape
              subst hu
              clear z1 z2 z3 z4 hr
              simp only [List.length_nil]
              go_wp2_with fail
              refine (cost_l rfl n a c _ fl _ (hs.rdG gn) (hs.rd gf)).mono ?_
              rintro en we ⟨rfl, hb⟩
              rw [HC.out]
              replace hs := hs.belowStep hb
              clear hb; (try clear n0 n1)
              go_wp2_with fail
              refine (works_any _).mono ?_
              rintro en wz ⟨rfl, hb⟩
              go_wp2_with fail
              go_ret
              exact ⟨rfl, HBW.out.trans ((hs.belowStep hb).below.mono HBW.out.size)⟩
            · have HR := Lib.hid hr
              obtain ⟨hlen, hright, _⟩ := within_cap hr
              obtain ⟨q1, q2, q3, _, _⟩ := right_cap hright
              obtain ⟨N, rfl⟩ : ∃ N : Nat, n = N := ⟨n.toNat, by omega⟩
              obtain ⟨KN, rfl⟩ : ∃ KN : Nat, K = KN := ⟨K.toNat, by omega⟩
              have z1 : overV N es fl = overL N es fl := by simp [overV, hr]
              have z2 : overV N (backL es) fl = overL N (backL es) fl := by simp [overV, within_back, hr]
              have z3 : overV N es.reverse fl.reverse = overL N es fl := by rw [← over_rev N hlen]; simp [overV, within_rev, hr]
              have HMW := Lib.hid (show es.map (mwE N KN) = moveL N KN es from mwL_eq q2 HK.out es)
              have z4 : overV N (es.map (mwE N KN)) fl = overL N (moveL N KN es) fl := by rw [← HMW.out]; simp [overV, within_mw HK.out, hr]
              rw [z1, z2, z3, z4] at hs
              obtain ⟨ad, cd, hu⟩ := (hs.rdInts 0 rfl).shape
              rw [over_len] at hu
              subst hu
              obtain ⟨ac, cc, hu⟩ := (hs.rdInts 1 rfl).shape
              rw [over_len] at hu
              subst hu
              obtain ⟨ab2, cb2, hu⟩ := (hs.rdInts 2 rfl).shape
              rw [over_len] at hu
              subst hu
              obtain ⟨aa, ca, hu⟩ := (hs.rdInts 3 rfl).shape
              rw [over_len] at hu
              subst hu
              have HLEN := Lib.hid hlen
              clear z1 z2 z3 z4 hr hright hlen
              go_wp2_with fail
              refine (rsame_any _ _ (overL N es fl) (overL N es fl) _ (hs.rdInts 3 rfl) (hs.rdInts 1 rfl)).mono ?_
              rintro en we ⟨rfl, hsx⟩
              rw [decide_eq_true rfl]
              replace hs := hs.belowStep hsx.below
              clear hsx
              (try clear n0 n1); (try clear b0 b1); (try clear o0 o1); (try clear m0 m1)
              obtain ⟨⟨n0, n1⟩, ⟨b0, b1⟩, ⟨o0, o1⟩, ⟨m0, m1⟩⟩ := FIN.out _ _ hs
              go_wp2_with fail
              refine wp_loopM [none, none, none, none, none, none, some 6, none, none, none, none, none, none, none, none, none, none, none, none, none, some 20, none, none, none, none, none, none, none, none, none, none, none, none, none, none, none, none, none, none, none, none, none, none, none, none, none, none, none, none, none, none, none, none, none, none, none, none, none, none, none, none, none, none, none, none, none, none, none, none, none, none, none, none, none, none, none, none, none, none, none, none, none, none, none, none, none, none, none, none, none, none, none, none, none, none, none, none, none, none, none, none, none, none, none, none, none, none, none, none, none, none, none, none, none, none, none, none, none, none, none, none, none, none, none, none, none, none, none, none, none, none, none, none, none, none, none, none, none, none, none, none, none, none, none, none, none, none, none, none, none, none, none, none, none, none, none, none, none, none, none, none, none, none, none, none, none, none, none, none, none, none, none, none, none, none, none, none, none, none, none, none, none, none, none, none, none, none, none, none, none, none, none, none, none, none, none, none, none, none, none, none, none, none, none, none, none, none, none, none, none, none, none, none, none, none, none, none, none, none, none, none, none, none, none, none, none, none, none, none, none, none, none, none, none, none, none, none, none, none, none, none, none, none, some 243, some 244, some 245, some 246, some 247, some 248, some 249, some 250, some 251, some 252, some 253, some 254, some 255, some 256, some 257, some 258, some 259, some 260, some 261, some 262, some 263, some 264, some 265, some 266, some 267, some 268, some 269, some 270, some 271, some 272, some 273, some 274, none, none, none, none, none, none, none, none, none, none, none, none, none, none, none, none, none, none, none, none, none, none, none, none, none, none, none, none, none, none, none, none, none, none, none, none, none, none, none, none, none, none, none] (fun (r : Nat) (f : Nat → Value) (wl : World) => (fun (v : Value) => ∃ j : Nat, v = .int .i64 j ∧ j ≤ N ∧ r = N - j ∧ Sep wr wl [intsT .i64 2 (.slice ad N cd) (overL N (moveL N KN es) fl), intsT .i64 2 (.slice ac N cc) (overL N es fl), intsT .i64 2 (.slice ab2 N cb2) (overL N (backL es) fl), intsT .i64 2 (.slice aa N ca) (overL N es fl)]) (f 20)) (N) (by kernel_rfl) ?atStart15 ?round15
              case' atStart15 => (try dsimp only [nthV])
              case' round15 =>
                intro gk f wr l hl hrel J3 K3 hJ3 hK3
                (try simp only [mask] at hl)
                generalize f 20 = u20 at hl hrel
                subst hl
                (try dsimp only at hrel)
              case atStart15 => exact ⟨0, rfl, Nat.zero_le _, rfl, hs⟩
              case round15 =>
                clear hs
                (try clear n0 n1); (try clear b0 b1); (try clear o0 o1); (try clear m0 m1)
                obtain ⟨j, rfl, hj, rfl, hs⟩ := hrel
                by_cases hlt : j < N
                · (try clear n0 n1); (try clear b0 b1); (try clear o0 o1); (try clear m0 m1)
                  obtain ⟨⟨n0, n1⟩, ⟨b0, b1⟩, ⟨o0, o1⟩, ⟨m0, m1⟩⟩ := FIN.out _ _ hs
                  have hm : (j + KN) % N < N := Nat.mod_lt _ (by omega)
                  have hm0 : 0 ≤ ((j : Int) + (KN : Int)) % (N : Int) := Int.emod_nonneg _ (by omega)
                  have hm1 : ((j : Int) + (KN : Int)) % (N : Int) < (N : Int) := Int.emod_lt_of_pos _ (by omega)
                  have hn0 : ¬ N = 0 := by omega
                  obtain ⟨ba, oa, ea, hba, xa⟩ := (hs.rdInts 3 rfl).at j (by rw [over_len]; exact hlt)
                  obtain ⟨bb, ob, eb, hbb, xb⟩ := (hs.rdInts 2 rfl).at j (by rw [over_len]; exact hlt)
                  obtain ⟨bd, od, ed, hbd, xd⟩ := (hs.rdInts 0 rfl).at ((j + KN) % N) (by rw [over_len]; exact hm)
                  subst ea; subst eb; subst ed
                  rw [over_turn HLEN.out hlt] at xb
                  rw [over_move HR.out hlt] at xd
                  obtain ⟨v0, v1⟩ := over_at_bound HR.out j hlt
                  generalize (overL N es fl).getD j 0 = x at *
                  go_wp2_with fail
                  refine Mix.region [0, 0, 0, 0, 0, 0, 0, 0, 0, 0, 0, 0, 0, 0, 0, 0, 0, 0, 0, 0, 0, 0, 0, 0, 0, 0] (fun _ => True) (by kernel_rfl) (by kernel_rfl) trivial ?_
                  simp only [List.zip_cons_cons, List.zip_nil_right]
                  iterate 11 (refine Mix.step0 fun K hK => ?_; go_simp; (try (go_bits; try go_simp)); first | ((with_reducible refine hK _ _ ?_); clear hK K) | ((try (simp only [IntWalk.iteOmega]; try go_simp)); (try go_bits); (with_reducible refine hK _ _ ?_); clear hK K))
                  iterate 14 (first | (refine Mix.stepS rfl fun K hK => ?_; go_simp; (with_reducible refine hK _ _ ?_); clear hK K) | (refine Mix.step0 fun K hK => ?_; go_simp; (try (go_bits; try go_simp)); first | ((with_reducible refine hK _ _ ?_); clear hK K) | ((try (simp only [IntWalk.iteOmega]; try go_simp)); (try go_bits); (with_reducible refine hK _ _ ?_); clear hK K)))
                  iterate 1 (refine Mix.step0 fun K hK => ?_; go_simp; (try (go_bits; try go_simp)); first | ((with_reducible refine hK _ _ ?_); clear hK K) | ((try (simp only [IntWalk.iteOmega]; try go_simp)); (try go_bits); (with_reducible refine hK _ _ ?_); clear hK K))
                  refine Mix.done ?_
                  go_wp2_with fail
                  refine Round.intro (N - (j + 1)) ?measure16 (by kernel_rfl) (hJ3 _ _ _ ?rel16)
                  case' rel16 => (try dsimp only [nthV])
                  case measure16 => omega
                  case rel16 => exact ⟨j + 1, by go_num, hlt, rfl, hs.drew⟩
                · obtain rfl : j = N := by omega
                  (try clear n0 n1); (try clear b0 b1); (try clear o0 o1); (try clear m0 m1)
                  obtain ⟨⟨n0, n1⟩, ⟨b0, b1⟩, ⟨o0, o1⟩, ⟨m0, m1⟩⟩ := FIN.out _ _ hs
                  go_wp2_with fail
                  refine (cost_l rfl j a c _ fl _ (hs.rdG gn) (hs.rd gf)).mono ?_
                  rintro en wf ⟨rfl, hb⟩
                  replace hs := hs.belowStep hb
                  clear hb; (try clear n0 n1)
                  replace hs := hs.drew
                  (try clear n0 n1); (try clear b0 b1); (try clear o0 o1); (try clear m0 m1)
                  obtain ⟨⟨n0, n1⟩, ⟨b0, b1⟩, ⟨o0, o1⟩, ⟨m0, m1⟩⟩ := FIN.out _ _ hs
                  have hCW := (show (fun W : World => W.cell? ⟨w.heap.size, 0, none⟩ = some (.int .i64 j) ∧ W.cell? ⟨w.heap.size, 1, none⟩ = some (.slice a es.length c)) _ from ⟨n0, n1⟩)
                  go_wp2_with fail
                  refine Mix.region [0, 0, 2, 1, 0, 0, 0, 0, 2, 1, 0, 0, 0, 0, 0, 2, 1, 0, 0, 0, 0, 0, 2, 1, 1, 2, 0, 0, 0, 0, 0, 2, 1, 1, 2, 0, 0, 0, 2, 0, 0] (fun W : World => W.cell? ⟨w.heap.size, 0, none⟩ = some (.int .i64 j) ∧ W.cell? ⟨w.heap.size, 1, none⟩ = some (.slice a es.length c)) (by kernel_rfl) (by kernel_rfl) hCW ?_
                  simp only [List.zip_cons_cons, List.zip_nil_right]
                  iterate 2 (refine Mix.step0 fun K hK => ?_; go_simp; (try (go_bits; try go_simp)); first | ((with_reducible refine hK _ _ ?_); clear hK K) | ((try (simp only [IntWalk.iteOmega]; try go_simp)); (try go_bits); (with_reducible refine hK _ _ ?_); clear hK K))
                  refine Mix.step2n (by first | rfl | simp [Region.wanted, yielded]) fun K hK => ?_
                  go_wp2_with fail
                  refine (cost_l HBL.out j _ _ _ fl _ (hs.rdG gb) (hs.rd gf)).mono ?_
                  rintro en wx ⟨rfl, hb⟩
                  rw [cost_back j HLEN.out]
                  clear hCW
                  replace hs := hs.belowStep hb
                  clear hb; (try clear n0 n1)
                  (try clear n0 n1); (try clear b0 b1); (try clear o0 o1); (try clear m0 m1)
                  obtain ⟨⟨n0, n1⟩, ⟨b0, b1⟩, ⟨o0, o1⟩, ⟨m0, m1⟩⟩ := FIN.out _ _ hs
                  have hCW := (show (fun W : World => W.cell? ⟨w.heap.size, 0, none⟩ = some (.int .i64 j) ∧ W.cell? ⟨w.heap.size, 1, none⟩ = some (.slice a es.length c)) _ from ⟨n0, n1⟩)
                  go_wp2_with fail
                  refine Mix.post_mk (C := (fun W : World => W.cell? ⟨w.heap.size, 0, none⟩ = some (.int .i64 j) ∧ W.cell? ⟨w.heap.size, 1, none⟩ = some (.slice a es.length c))) (by first | exact hCW | exact HCW.out _) (hK _ _ ?_)
                  clear hK K
                  (refine Mix.step1 fun K hK => ?_; go_simp; (try (go_bits; try go_simp)); first | ((with_reducible refine hK _ _ ?_); clear hK K) | ((try (simp only [IntWalk.iteOmega]; try go_simp)); (try go_bits); (with_reducible refine hK _ _ ?_); clear hK K))
                  iterate 2 (refine Mix.step0 fun K hK => ?_; go_simp; (try (go_bits; try go_simp)); first | ((with_reducible refine hK _ _ ?_); clear hK K) | ((try (simp only [IntWalk.iteOmega]; try go_simp)); (try go_bits); (with_reducible refine hK _ _ ?_); clear hK K))
                  iterate 2 (first | (refine Mix.stepS rfl fun K hK => ?_; go_simp; (with_reducible refine hK _ _ ?_); clear hK K) | (refine Mix.step0 fun K hK => ?_; go_simp; (try (go_bits; try go_simp)); first | ((with_reducible refine hK _ _ ?_); clear hK K) | ((try (simp only [IntWalk.iteOmega]; try go_simp)); (try go_bits); (with_reducible refine hK _ _ ?_); clear hK K)))
                  refine Mix.step2n (by first | rfl | simp [Region.wanted, yielded]) fun K hK => ?_
                  go_wp2_with fail
                  refine (cost_l HOL.out j _ _ _ fl.reverse _ (hs.rdG go) (hs.rd gt)).mono ?_
                  rintro en wx ⟨rfl, hb⟩
                  rw [cost_rev j HLEN.out]
                  clear hCW
                  replace hs := hs.belowStep hb
                  clear hb; (try clear n0 n1)
                  (try clear n0 n1); (try clear b0 b1); (try clear o0 o1); (try clear m0 m1)
                  obtain ⟨⟨n0, n1⟩, ⟨b0, b1⟩, ⟨o0, o1⟩, ⟨m0, m1⟩⟩ := FIN.out _ _ hs
                  have hCW := (show (fun W : World => W.cell? ⟨w.heap.size, 0, none⟩ = some (.int .i64 j) ∧ W.cell? ⟨w.heap.size, 1, none⟩ = some (.slice a es.length c)) _ from ⟨n0, n1⟩)
                  go_wp2_with fail
                  refine Mix.post_mk (C := (fun W : World => W.cell? ⟨w.heap.size, 0, none⟩ = some (.int .i64 j) ∧ W.cell? ⟨w.heap.size, 1, none⟩ = some (.slice a es.length c))) (by first | exact hCW | exact HCW.out _) (hK _ _ ?_)
                  clear hK K
                  (refine Mix.step1 fun K hK => ?_; go_simp; (try (go_bits; try go_simp)); first | ((with_reducible refine hK _ _ ?_); clear hK K) | ((try (simp only [IntWalk.iteOmega]; try go_simp)); (try go_bits); (with_reducible refine hK _ _ ?_); clear hK K))
                  iterate 1 (first | (refine Mix.stepS rfl fun K hK => ?_; go_simp; (with_reducible refine hK _ _ ?_); clear hK K) | (refine Mix.step0 fun K hK => ?_; go_simp; (try (go_bits; try go_simp)); first | ((with_reducible refine hK _ _ ?_); clear hK K) | ((try (simp only [IntWalk.iteOmega]; try go_simp)); (try go_bits); (with_reducible refine hK _ _ ?_); clear hK K)))
                  iterate 2 (refine Mix.step0 fun K hK => ?_; go_simp; (try (go_bits; try go_simp)); first | ((with_reducible refine hK _ _ ?_); clear hK K) | ((try (simp only [IntWalk.iteOmega]; try go_simp)); (try go_bits); (with_reducible refine hK _ _ ?_); clear hK K))
                  iterate 2 (first | (refine Mix.stepS rfl fun K hK => ?_; go_simp; (with_reducible refine hK _ _ ?_); clear hK K) | (refine Mix.step0 fun K hK => ?_; go_simp; (try (go_bits; try go_simp)); first | ((with_reducible refine hK _ _ ?_); clear hK K) | ((try (simp only [IntWalk.iteOmega]; try go_simp)); (try go_bits); (with_reducible refine hK _ _ ?_); clear hK K)))
                  refine Mix.step2n (by first | rfl | simp [Region.wanted, yielded]) fun K hK => ?_
                  go_wp2_with fail
                  refine (cost_l HML.out j _ _ _ fl _ (hs.rdG gm) (hs.rd gf)).mono ?_
                  rintro en wx ⟨rfl, hb⟩
                  rw [HMW.out, cost_move j KN HLEN.out]
                  clear hCW
                  replace hs := hs.belowStep hb
                  clear hb; (try clear n0 n1)
                  (try clear n0 n1); (try clear b0 b1); (try clear o0 o1); (try clear m0 m1)
                  obtain ⟨⟨n0, n1⟩, ⟨b0, b1⟩, ⟨o0, o1⟩, ⟨m0, m1⟩⟩ := FIN.out _ _ hs
                  have hCW := (show (fun W : World => W.cell? ⟨w.heap.size, 0, none⟩ = some (.int .i64 j) ∧ W.cell? ⟨w.heap.size, 1, none⟩ = some (.slice a es.length c)) _ from ⟨n0, n1⟩)
                  go_wp2_with fail
                  refine Mix.post_mk (C := (fun W : World => W.cell? ⟨w.heap.size, 0, none⟩ = some (.int .i64 j) ∧ W.cell? ⟨w.heap.size, 1, none⟩ = some (.slice a es.length c))) (by first | exact hCW | exact HCW.out _) (hK _ _ ?_)
                  clear hK K
                  (refine Mix.step1 fun K hK => ?_; go_simp; (try (go_bits; try go_simp)); first | ((with_reducible refine hK _ _ ?_); clear hK K) | ((try (simp only [IntWalk.iteOmega]; try go_simp)); (try go_bits); (with_reducible refine hK _ _ ?_); clear hK K))
                  iterate 1 (first | (refine Mix.stepS rfl fun K hK => ?_; go_simp; (with_reducible refine hK _ _ ?_); clear hK K) | (refine Mix.step0 fun K hK => ?_; go_simp; (try (go_bits; try go_simp)); first | ((with_reducible refine hK _ _ ?_); clear hK K) | ((try (simp only [IntWalk.iteOmega]; try go_simp)); (try go_bits); (with_reducible refine hK _ _ ?_); clear hK K)))
                  iterate 2 (refine Mix.step0 fun K hK => ?_; go_simp; (try (go_bits; try go_simp)); first | ((with_reducible refine hK _ _ ?_); clear hK K) | ((try (simp only [IntWalk.iteOmega]; try go_simp)); (try go_bits); (with_reducible refine hK _ _ ?_); clear hK K))
                  iterate 2 (first | (refine Mix.stepS rfl fun K hK => ?_; go_simp; (with_reducible refine hK _ _ ?_); clear hK K) | (refine Mix.step0 fun K hK => ?_; go_simp; (try (go_bits; try go_simp)); first | ((with_reducible refine hK _ _ ?_); clear hK K) | ((try (simp only [IntWalk.iteOmega]; try go_simp)); (try go_bits); (with_reducible refine hK _ _ ?_); clear hK K)))
                  refine Mix.step2n (by first | rfl | simp [Region.wanted, yielded]) fun K hK => ?_
                  go_wp2_with fail
                  refine (flows_l HBL.out j _ _ _ fl _ (hs.rdG gb) (hs.rd gf)).mono ?_
                  rintro en wx ⟨rfl, hb⟩
                  rw [flows_turn HR.out]
                  clear hCW
                  replace hs := hs.belowStep hb
                  clear hb; (try clear n0 n1)
                  (try clear n0 n1); (try clear b0 b1); (try clear o0 o1); (try clear m0 m1)
                  obtain ⟨⟨n0, n1⟩, ⟨b0, b1⟩, ⟨o0, o1⟩, ⟨m0, m1⟩⟩ := FIN.out _ _ hs
                  have hCW := (show (fun W : World => W.cell? ⟨w.heap.size, 0, none⟩ = some (.int .i64 j) ∧ W.cell? ⟨w.heap.size, 1, none⟩ = some (.slice a es.length c)) _ from ⟨n0, n1⟩)
                  go_wp2_with fail
                  refine Mix.post_mk (C := (fun W : World => W.cell? ⟨w.heap.size, 0, none⟩ = some (.int .i64 j) ∧ W.cell? ⟨w.heap.size, 1, none⟩ = some (.slice a es.length c))) (by first | exact hCW | exact HCW.out _) (hK _ _ ?_)
                  clear hK K
                  (refine Mix.step1 fun K hK => ?_; go_simp; refine ⟨fun W => ?_, hK _ _ ?_⟩; (intro hW1; (try intro hW2); (try intro hW3); (try intro hW4); (try intro hW5); (try intro hW6); (try intro hW7); (try intro hW8); go_simp); clear hK K)
                  (refine Mix.step1 fun K hK => ?_; go_simp; (try (go_bits; try go_simp)); first | ((with_reducible refine hK _ _ ?_); clear hK K) | ((try (simp only [IntWalk.iteOmega]; try go_simp)); (try go_bits); (with_reducible refine hK _ _ ?_); clear hK K))
                  refine Mix.step2n (by first | rfl | simp [Region.wanted, yielded]) fun K hK => ?_
                  go_wp2_with fail
                  refine (flows_l rfl j _ _ _ fl _ (hs.rdG gn) (hs.rd gf)).mono ?_
                  rintro en wx ⟨rfl, hb⟩
                  skip
                  clear hCW
                  replace hs := hs.belowStep hb
                  clear hb; (try clear n0 n1)
                  (try clear n0 n1); (try clear b0 b1); (try clear o0 o1); (try clear m0 m1)
                  obtain ⟨⟨n0, n1⟩, ⟨b0, b1⟩, ⟨o0, o1⟩, ⟨m0, m1⟩⟩ := FIN.out _ _ hs
                  have hCW := (show (fun W : World => W.cell? ⟨w.heap.size, 0, none⟩ = some (.int .i64 j) ∧ W.cell? ⟨w.heap.size, 1, none⟩ = some (.slice a es.length c)) _ from ⟨n0, n1⟩)
                  go_wp2_with fail
                  refine Mix.post_mk (C := (fun W : World => W.cell? ⟨w.heap.size, 0, none⟩ = some (.int .i64 j) ∧ W.cell? ⟨w.heap.size, 1, none⟩ = some (.slice a es.length c))) (by first | exact hCW | exact HCW.out _) (hK _ _ ?_)
                  clear hK K
                  iterate 1 (first | (refine Mix.stepS rfl fun K hK => ?_; go_simp; (with_reducible refine hK _ _ ?_); clear hK K) | (refine Mix.step0 fun K hK => ?_; go_simp; (try (go_bits; try go_simp)); first | ((with_reducible refine hK _ _ ?_); clear hK K) | ((try (simp only [IntWalk.iteOmega]; try go_simp)); (try go_bits); (with_reducible refine hK _ _ ?_); clear hK K)))
                  iterate 2 (refine Mix.step0 fun K hK => ?_; go_simp; (try (go_bits; try go_simp)); first | ((with_reducible refine hK _ _ ?_); clear hK K) | ((try (simp only [IntWalk.iteOmega]; try go_simp)); (try go_bits); (with_reducible refine hK _ _ ?_); clear hK K))
                  iterate 2 (first | (refine Mix.stepS rfl fun K hK => ?_; go_simp; (with_reducible refine hK _ _ ?_); clear hK K) | (refine Mix.step0 fun K hK => ?_; go_simp; (try (go_bits; try go_simp)); first | ((with_reducible refine hK _ _ ?_); clear hK K) | ((try (simp only [IntWalk.iteOmega]; try go_simp)); (try go_bits); (with_reducible refine hK _ _ ?_); clear hK K)))
                  refine Mix.step2n (by first | rfl | simp [Region.wanted, yielded]) fun K hK => ?_
                  go_wp2_with fail
                  refine (flows_l HML.out j _ _ _ fl _ (hs.rdG gm) (hs.rd gf)).mono ?_
                  rintro en wx ⟨rfl, hb⟩
                  rw [HMW.out, flows_move HR.out]
                  clear hCW
                  replace hs := hs.belowStep hb
                  clear hb; (try clear n0 n1)
                  (try clear n0 n1); (try clear b0 b1); (try clear o0 o1); (try clear m0 m1)
                  obtain ⟨⟨n0, n1⟩, ⟨b0, b1⟩, ⟨o0, o1⟩, ⟨m0, m1⟩⟩ := FIN.out _ _ hs
                  have hCW := (show (fun W : World => W.cell? ⟨w.heap.size, 0, none⟩ = some (.int .i64 j) ∧ W.cell? ⟨w.heap.size, 1, none⟩ = some (.slice a es.length c)) _ from ⟨n0, n1⟩)
                  go_wp2_with fail
                  refine Mix.post_mk (C := (fun W : World => W.cell? ⟨w.heap.size, 0, none⟩ = some (.int .i64 j) ∧ W.cell? ⟨w.heap.size, 1, none⟩ = some (.slice a es.length c))) (by first | exact hCW | exact HCW.out _) (hK _ _ ?_)
                  clear hK K
                  (refine Mix.step1 fun K hK => ?_; go_simp; refine ⟨fun W => ?_, hK _ _ ?_⟩; (intro hW1; (try intro hW2); (try intro hW3); (try intro hW4); (try intro hW5); (try intro hW6); (try intro hW7); (try intro hW8); go_simp); clear hK K)
                  (refine Mix.step1 fun K hK => ?_; go_simp; (try (go_bits; try go_simp)); first | ((with_reducible refine hK _ _ ?_); clear hK K) | ((try (simp only [IntWalk.iteOmega]; try go_simp)); (try go_bits); (with_reducible refine hK _ _ ?_); clear hK K))
                  refine Mix.step2n (by first | rfl | simp [Region.wanted, yielded]) fun K hK => ?_
                  go_wp2_with fail
                  refine (flows_l rfl j _ _ _ fl _ (hs.rdG gn) (hs.rd gf)).mono ?_
                  rintro en wx ⟨rfl, hb⟩
                  skip
                  clear hCW
                  replace hs := hs.belowStep hb
                  clear hb; (try clear n0 n1)
                  (try clear n0 n1); (try clear b0 b1); (try clear o0 o1); (try clear m0 m1)
                  obtain ⟨⟨n0, n1⟩, ⟨b0, b1⟩, ⟨o0, o1⟩, ⟨m0, m1⟩⟩ := FIN.out _ _ hs
                  have hCW := (show (fun W : World => W.cell? ⟨w.heap.size, 0, none⟩ = some (.int .i64 j) ∧ W.cell? ⟨w.heap.size, 1, none⟩ = some (.slice a es.length c)) _ from ⟨n0, n1⟩)
                  go_wp2_with fail
                  refine Mix.post_mk (C := (fun W : World => W.cell? ⟨w.heap.size, 0, none⟩ = some (.int .i64 j) ∧ W.cell? ⟨w.heap.size, 1, none⟩ = some (.slice a es.length c))) (by first | exact hCW | exact HCW.out _) (hK _ _ ?_)
                  clear hK K
                  iterate 1 (first | (refine Mix.stepS rfl fun K hK => ?_; go_simp; (with_reducible refine hK _ _ ?_); clear hK K) | (refine Mix.step0 fun K hK => ?_; go_simp; (try (go_bits; try go_simp)); first | ((with_reducible refine hK _ _ ?_); clear hK K) | ((try (simp only [IntWalk.iteOmega]; try go_simp)); (try go_bits); (with_reducible refine hK _ _ ?_); clear hK K)))
                  iterate 2 (refine Mix.step0 fun K hK => ?_; go_simp; (try (go_bits; try go_simp)); first | ((with_reducible refine hK _ _ ?_); clear hK K) | ((try (simp only [IntWalk.iteOmega]; try go_simp)); (try go_bits); (with_reducible refine hK _ _ ?_); clear hK K))
                  refine Mix.step2n (by first | rfl | simp [Region.wanted, yielded]) fun K hK => ?_
                  go_wp2_with fail
                  refine (works_any _).mono ?_
                  rintro en wx ⟨rfl, hb⟩
                  skip
                  clear hCW
                  replace hs := hs.belowStep hb
                  clear hb; (try clear n0 n1)
                  (try clear n0 n1); (try clear b0 b1); (try clear o0 o1); (try clear m0 m1)
                  obtain ⟨⟨n0, n1⟩, ⟨b0, b1⟩, ⟨o0, o1⟩, ⟨m0, m1⟩⟩ := FIN.out _ _ hs
                  have hCW := (show (fun W : World => W.cell? ⟨w.heap.size, 0, none⟩ = some (.int .i64 j) ∧ W.cell? ⟨w.heap.size, 1, none⟩ = some (.slice a es.length c)) _ from ⟨n0, n1⟩)
                  go_wp2_with fail
                  refine Mix.post_mk (C := (fun W : World => W.cell? ⟨w.heap.size, 0, none⟩ = some (.int .i64 j) ∧ W.cell? ⟨w.heap.size, 1, none⟩ = some (.slice a es.length c))) (by first | exact hCW | exact HCW.out _) (hK _ _ ?_)
                  clear hK K
                  iterate 2 (refine Mix.step0 fun K hK => ?_; go_simp; (try (go_bits; try go_simp)); first | ((with_reducible refine hK _ _ ?_); clear hK K) | ((try (simp only [IntWalk.iteOmega]; try go_simp)); (try go_bits); (with_reducible refine hK _ _ ?_); clear hK K))
                  refine Mix.done ?_
                  have HZ := Lib.hid (HBW.out.trans (hs.below.mono HBW.out.size))
                  (try clear n0 n1); (try clear b0 b1); (try clear o0 o1); (try clear m0 m1)
                  clear hs hCW
                  go_wp2_with fail
                  go_ret
                  exact ⟨rfl, HZ.out⟩
          · obtain ⟨p, rfl⟩ : ∃ p, q = p + 1 := ⟨q - 1, by omega⟩
            have hpl : p < fl.length := by omega
            obtain ⟨b1, o1, eb, hb1, x0⟩ := (hs.rd h').at p hpl
            subst eb
            have HD := Lib.hid (show (fl.drop p).reverse = (fl.drop (p + 1)).reverse ++ [fl.getD p 0] by rw [List.drop_eq_getElem_cons hpl, List.reverse_cons]; simp [hpl])
            have HDL := Lib.hid (show ((fl.drop (p + 1)).reverse).length ≤ fl.length by simp)
            generalize (fl.drop (p + 1)).reverse = T at *
            generalize fl.getD p 0 = x at *
            have hpc : ((p + 1 : Nat) : Int) - 1 = (p : Int) := by omega
            rw [hpc]
            clear hpc hq0
            go_wp2_with (at_builtin; refine wpList_appInt rfl (.tmp 133) (.tmp 138) 25 rfl 2 i0 _ 8 Try.underlying25 hi0 hz0 hz1 hz2 rfl _ T .i64 x hs 0 rfl rfl rfl ?g3 ?g4 ?grow3)
            case g3 => have := HDL.out; unfold maxLen; omega
            case g4 => have := HDL.out; omega
            case grow3 =>
              intro vt' w7 hs8 _
              (try simp only [List.set_cons_zero] at hs8)
              rw [← HD.out] at hs8
              clear hs
              go_wp2_with fail
              refine Round.intro (p) ?measure17 (by kernel_rfl) (hJ2 _ _ _ ?rel17)
              case' rel17 => (try dsimp only [nthV])
              case measure17 => omega
              case rel17 => exact ⟨p, rfl, by omega, rfl, hs8⟩
end Go.Proofs.Ytdjkpnddjiapgaa
