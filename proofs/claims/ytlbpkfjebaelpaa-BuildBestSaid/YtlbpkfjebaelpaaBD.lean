/-
  Package build: Round, walked.
-/
import Derived.Test.YtlbpkfjebaelpaaBC
import Derived.Test.YtlbpkfjebaelpaaLB
import Derived.Test.YtlbpkfjebaelpaaLA
import Derived.RangeFuncNested
import Derived.RangeFuncBound
import Derived.RangeFuncCalls
import Derived.RangeFuncLeaves
import Derived.Shelf.Abstract
import Derived.Shelf.RegionOpen
import Derived.WalkKit
import Derived.OwnWalkIn
import Derived.TacticsInMore
import Derived.LoopNIn
import Derived.LoopIn
import Derived.Stop.RegionWithIn
import Derived.Test.YtlbpkfjebaelpaaBB
import Derived.Test.YtlbpkfjebaelpaaBA
set_option linter.unusedVariables false
set_option linter.unusedSimpArgs false
namespace Go.BuildP
open Go Go.RowKit Go.Mem Go.MoneyP Go.NetP
/-- The edges of the hub, of the first k banks. -/
def hubL (rooms : List Int) (k : Nat) : List Ed := (List.range k).flatMap (hubE rooms)
theorem hub_succ (rooms : List Int) (k : Nat) : hubL rooms (k + 1) = hubL rooms k ++ [⟨rooms.length, k, rooms.getD k 0, 0⟩, ⟨k, rooms.length, 4503599627370496, 0⟩] := by
  unfold hubL
  rw [List.range_succ, List.flatMap_append]
  rfl
theorem hub_len (rooms : List Int) : ∀ k, (hubL rooms k).length = 2 * k
  | 0 => rfl
  | k + 1 => by rw [hub_succ, List.length_append, hub_len rooms k]; simp; omega
theorem edges_eq (rooms : List Int) (l : List Du) (c : Bool) : edgesL rooms l c = (openL l).map dueE ++ if c then [] else hubL rooms rooms.length := rfl
theorem due_step {O : List Du} {i : Nat} (hi : i < O.length) : (O.take (i + 1)).map dueE = (O.take i).map dueE ++ [dueE O[i]] ∧ (O.take (i + 1)).map (·.id) = (O.take i).map (·.id) ++ [(O[i]).id] := by
  rw [List.take_succ_eq_append_getElem hi, List.map_append, List.map_append]
  exact ⟨rfl, rfl⟩
end Go.BuildP
namespace Go.Proofs.Ytlbpkfjebaelpaa
open Go Go.RowKit Go.Mem Go.MoneyP Go.NetP Go.BuildP
theorem Try.infoEdb : (Try.prog.info? 52).map (fun i => (i.zero, i.size, i.bytes)) = some (some (.agg #[.int .i64 0, .int .i64 0, .int .i64 0, .int .i64 0]), 4, 32) := by kernel_rfl
theorem Try.infoU64b : (Try.prog.info? 34).map (fun i => (i.zero, i.size, i.bytes)) = some (some (.int .u64 0), 1, 8) := by kernel_rfl
/-- What Round answers. -/
def RoundP (rooms : List Int) (l : List Du) (c : Bool) (w : World) (en : Ending) (w' : World) : Prop :=
  (rightR rooms l = false ∧ en = .returned (.tuple #[.agg #[.int .i64 0, .slice none 0 0], .slice none 0 0, .int .i64 1]) ∧ Below w.heap.size w w') ∨
  (rightR rooms l = true ∧ ∃ ve vi, en = .returned (.tuple #[.agg #[.int .i64 (rooms.length + 1), ve], vi, .int .i64 0]) ∧ Sep w w' [recT edR 52 ve (edgesL rooms l c), intsT .u64 34 vi ((openL l).map (·.id))])
theorem Sep.swap01 {w0 w : World} {A B : Thing} (h : Sep w0 w [A, B]) : Sep w0 w [B, A] := by
  obtain ⟨Ss, hl, ha, p⟩ := h
  match Ss, hl with
  | [S, T], _ =>
    refine ⟨[T, S], rfl, fun i C U hC hU => ?_, fun i j C D hC hD hne => ?_, fun i C hC => ?_, p.below⟩
    · match i, hC, hU with
      | 0, hC, hU => exact ha 1 C U hC hU
      | 1, hC, hU => exact ha 0 C U hC hU
    · match i, j, hC, hD with
      | 0, 0, _, _ => exact absurd rfl hne
      | 1, 1, _, _ => exact absurd rfl hne
      | 0, 1, hC, hD => exact p.dis 1 0 C D hC hD (by omega)
      | 1, 0, hC, hD => exact p.dis 0 1 C D hC hD (by omega)
    · match i, hC with
      | 0, hC => exact p.rng 1 C hC
      | 1, hC => exact p.rng 0 C hC
set_option maxHeartbeats 4000000 in
set_option maxRecDepth 100000 in
theorem rround_any (rooms : List Int) (l : List Du) (c : Bool) (vr vl : Value) (w : World) (hr : Rd .i64 w vr rooms) (h : RdG duR w vl l) :
    Calls Try.prog 9 #[vr, vl, .bool c] w fun en w' => RoundP rooms l c w en w' := by
  obtain ⟨i0, hi0, hz0, hz1, hz2⟩ := info_parts Try.infoEdb
  obtain ⟨j0, hj0, hy0, hy1, hy2⟩ := info_parts Try.infoU64b
  obtain ⟨ar, cr, rfl⟩ := hr.shape
  have hle := hr.le'
  have hs0 := (Sep.start w).newCells #[.int .i64 0, .slice none 0 0] 28
  have RR := Lib.hid (brright_any rooms l _ vl _ (hs0.rd hr) (hs0.rdG h))
  cases hrt : rightR rooms l
  · rw [hrt] at RR
    have HRT := Lib.hid hrt
    clear hrt
    go_enter Try.func9, Try.ntmps9
    go_wp2_with fail
    refine (RR.out).mono ?_
    rintro en w2 ⟨rfl, hb⟩
    replace hs0 := hs0.belowStep hb
    have q0 := cell_of (hs0.cells 0 rfl) 0
    have q1 := cell_of (hs0.cells 0 rfl) 1
    simp only [List.getElem?_toArray, List.getElem?_cons_zero, List.getElem?_cons_succ] at q0 q1
    have qf := fun j => frozen_of (hs0.cells 0 rfl) j
    go_wp2_with fail
    replace hs0 := (hs0.setC 0 rfl 0 (.int .i64 0) #[.int .i64 0, .slice none 0 0] rfl).setC 0 rfl 1 (.slice none 0 0) #[.int .i64 0, .slice none 0 0] rfl
    clear q0 q1 qf
    have q0 := cell_of (hs0.cells 0 rfl) 0
    have q1 := cell_of (hs0.cells 0 rfl) 1
    simp only [List.getElem?_toArray, List.getElem?_cons_zero, List.getElem?_cons_succ] at q0 q1
    exact bodyPost_ret (v := .tuple #[.agg #[.int .i64 0, .slice none 0 0], .slice none 0 0, .int .i64 1]) (by simp [results, Try.results9, go_sem, q0, q1]) rfl (.inl ⟨HRT.out, rfl, hs0.below⟩)
  rw [hrt] at RR
  have HRT := Lib.hid hrt
  obtain ⟨hn16, hl64, _, hmd, _⟩ := right_parts hrt
  have HMD := Lib.hid (show ∀ d ∈ openL l, MayD d from fun d hd => (hmd d (List.mem_filter.1 hd).1).1)
  clear hmd
  clear hrt
  go_enter Try.func9, Try.ntmps9
  go_wp2_with fail
  refine (RR.out).mono ?_
  rintro en w2 ⟨rfl, hb⟩
  replace hs0 := hs0.belowStep hb
  clear hb RR
  have hs1 := hs0.newCells #[.int .i64 (rooms.length + 1), .slice none 0 0] 28
  obtain ⟨BN, hBN⟩ : ∃ BN, BN = w2.heap.size := ⟨_, rfl⟩
  go_wp2_with fail
  refine (ropen_any l vl _ (hs1.rdG h) (by omega)).mono ?_
  rintro en w3 ⟨uo, rfl, k1⟩
  have hs := hs1.join k1
  simp only [List.cons_append, List.nil_append] at hs
  obtain ⟨O, hO⟩ : ∃ O, O = openL l := ⟨_, rfl⟩
  rw [← hO] at hs
  rw [← hO] at HMD
  have hol : O.length ≤ 64 := by rw [hO]; exact Nat.le_trans (open_le l) hl64
  obtain ⟨ao, co, rfl⟩ := (hs.rdRecs 0 rfl).shape
  have HO := Lib.hid hO
  rw [← hBN] at hs ⊢
  clear hO hs0 hs1 k1 hBN
  go_wp2_with fail
  refine wp_loopM [none, none, none, none, none, none, none, none, none, none, none, some 11, none, some 13, none, none, none, none, none, none, none, none, none, none, none, none, none, some 27, some 28, some 29, some 30, some 31, some 32, some 33, some 34, some 35, some 36, some 37, some 38, some 39, some 40, some 41, some 42, some 43, some 44, some 45, some 46, some 47, some 48, some 49, some 50, some 51, some 52, some 53, some 54, some 55, some 56, some 57, some 58, some 59, some 60, some 61, some 62, some 63, some 64, some 65, some 66, some 67, none, none, none, none, none, none, none, none, none, none, none, none, none, none, none, none, none, none, none, none, none, none, none, none, none, none, none] (fun (r : Nat) (f : Nat → Value) (wr : World) => (fun (vi v : Value) => ∃ (i : Nat) (ae : Option Addr) (ce : Nat), v = .int .i64 i ∧ i ≤ O.length ∧ r = O.length - i ∧ Sep w wr [intsT .u64 34 vi ((O.take i).map (·.id)), recT edR 52 (.slice ae i ce) ((O.take i).map dueE), recT duR 45 (.slice ao O.length co) O, cellsT BN #[.int .i64 (rooms.length + 1), .slice ae i ce] 28, cellsT w.heap.size #[.int .i64 0, .slice none 0 0] 28]) (f 11) (f 13)) (O.length) (by kernel_rfl) ?atStart1 ?round1
  case' atStart1 => (try dsimp only [nthV])
  case' round1 =>
    intro gk f wr l hl hrel J1 K1 hJ1 hK1
    (try simp only [mask] at hl)
    generalize f 11 = u11 at hl hrel
    generalize f 13 = u13 at hl hrel
    subst hl
    (try dsimp only at hrel)
  case atStart1 => exact ⟨0, none, 0, rfl, Nat.zero_le _, rfl, (hs.nilRecs edR _).nilInts .u64 _⟩
  case round1 =>
    clear hs
    obtain ⟨i, ae, ce, rfl, hi, rfl, hs⟩ := hrel
    by_cases hlt : i < O.length
    · obtain ⟨b1, o1, e1, hb1, hc1⟩ := (hs.drew.rdRecs 2 rfl).at i hlt
      subst e1
      have HDS := Lib.hid (due_step hlt)
      obtain ⟨x, hx⟩ : ∃ x, x = O[i] := ⟨_, rfl⟩
      rw [← hx] at hc1 HDS
      have HX := Lib.hid hx
      have hmx := HMD.out _ (List.getElem_mem hlt)
      rw [← hx] at hmx
      obtain ⟨EL, hEL⟩ : ∃ EL, EL = (O.take i).map dueE := ⟨_, rfl⟩
      obtain ⟨IL, hIL⟩ : ∃ IL, IL = (O.take i).map (·.id) := ⟨_, rfl⟩
      have HEL := Lib.hid (show EL.length = i by rw [hEL]; simp [hi])
      have HIL := Lib.hid (show IL.length = i by rw [hIL]; simp [hi])
      rw [← hEL, ← hIL] at hs HDS
      clear hx hEL hIL
      obtain ⟨id, f, t, xx, we, u, hh⟩ := x
      have x0 := hc1 0 (by decide)
      have x1 := hc1 1 (by decide)
      have x2 := hc1 2 (by decide)
      have x3 := hc1 3 (by decide)
      have x4 := hc1 4 (by decide)
      have x5 := hc1 5 (by decide)
      have x6 := hc1 6 (by decide)
      simp only [duR, Nat.add_zero, List.getElem?_cons_zero, List.getElem?_cons_succ] at x0 x1 x2 x3 x4 x5 x6
      clear hc1
      have hw0 := hmx.w0
      have hw1 := hmx.w1
      dsimp only at hw0 hw1
      clear hmx
      obtain ⟨vi', ci', rfl⟩ := (hs.rdInts 0 rfl).shape
      rw [HIL.out] at hs ⊢
      have hsa := (hs.alloc (.cells #[.int .i64 f, .int .i64 t, .int .i64 xx, .int .i64 (-we)] 52)).drew
      have n1 := cell_of (hs.cells 3 rfl) 1
      simp only [List.getElem?_toArray, List.getElem?_cons_zero, List.getElem?_cons_succ] at n1
      have hCW : (fun W : World => W.cell? ⟨BN, 1, none⟩ = some (.slice ae i ce)) wr.drew := n1
      go_wp2_with fail
      refine Mix.region2 25 [1, 1, 0, 0, 0, 0, 0, 0, 0, 0, 0, 0, 0, 0, 0, 0, 0, 0, 0, 0, 0, 0, 0, 0, 2, 2, 0, 2] (fun W : World => W.cell? ⟨BN, 1, none⟩ = some (.slice ae i ce)) (by kernel_rfl) (by kernel_rfl) hCW ?_
      simp only [List.zip_cons_cons, List.zip_nil_right, List.take_succ_cons, List.take_zero, List.drop_succ_cons, List.drop_zero]
      (refine Mix.step1 fun K hK => ?_; go_simp; (try (go_bits; try go_simp)); first | ((with_reducible refine hK _ _ ?_); clear hK K) | ((try (simp only [IntWalk.iteOmega]; try go_simp)); (try go_bits); (with_reducible refine hK _ _ ?_); clear hK K))
      (refine Mix.step1 fun K hK => ?_; go_simp; refine ⟨fun W => ?_, hK _ _ ?_⟩; (intro hW1; (try intro hW2); (try intro hW3); (try intro hW4); (try intro hW5); (try intro hW6); (try intro hW7); (try intro hW8); go_simp); clear hK K)
      iterate 22 (refine Mix.step0 fun K hK => ?_; go_simp; (try (go_bits; try go_simp)); first | ((with_reducible refine hK _ _ ?_); clear hK K) | ((try (simp only [IntWalk.iteOmega]; try go_simp)); (try go_bits); (with_reducible refine hK _ _ ?_); clear hK K))
      refine Mix.step2n (by first | rfl | simp [Region.wanted, yielded]) fun K hK => ?_
      go_wp2_with fail
      have hCW := cell_of (hsa.cells 3 rfl) 1
      refine Mix.post_mk (C := (fun W : World => W.cell? ⟨BN, 1, none⟩ = some (.slice ae i ce))) (by first | exact hCW | exact HCW.out _) (hK _ _ ?_)
      clear hK K
      refine Mix.done ?_
      refine Mix.step2n (by first | rfl | simp [Region.wanted, yielded]) fun K hK => ?_
      refine wpList_appRecB edR rfl (.tmp 34) (.tmp 57) 26 rfl 52 i0 _ 32 Try.underlying26 hi0 hz0 hz1 hz2 rfl _ EL ⟨f, t, xx, -we⟩ hsa 1 rfl wr.heap.size _ rfl (heap_alloc_new wr _) rfl rfl (by rw [HEL.out]; unfold maxLen; omega) (by rw [HEL.out]; omega) ?_
      intro v' w5 hs2 hsh
      obtain ⟨g, cap, rfl⟩ := hsh.out
      rw [HEL.out] at hs2
      rw [HEL.out]
      (try simp only [List.set_cons_succ, List.set_cons_zero] at hs2)
      clear hsa hsh hs
      have hCW := cell_of (hs2.cells 3 rfl) 1
      have qf := fun j => frozen_of (hs2.cells 3 rfl) j
      have hCW' := hCW
      simp only [List.getElem?_toArray, List.getElem?_cons_zero, List.getElem?_cons_succ] at hCW'
      go_wp2_with fail
      refine Mix.post_mk (C := (fun _ => True)) trivial (hK _ _ ?_)
      clear hK K
      iterate 1 (refine Mix.step0 fun K hK => ?_; go_simp; (try (go_bits; try go_simp)); first | ((with_reducible refine hK _ _ ?_); clear hK K) | ((try (simp only [IntWalk.iteOmega]; try go_simp)); (try go_bits); (with_reducible refine hK _ _ ?_); clear hK K))
      refine Mix.step2n (by first | rfl | simp [Region.wanted, yielded]) fun K hK => ?_
      go_wp2_with fail
      have hs3 := hs2.setCells 3 rfl 1 (.slice (some ⟨g, 0, none⟩) (i + 1) cap) #[.int .i64 (rooms.length + 1), .slice (some ⟨g, 0, none⟩) (i + 1) cap] rfl
      simp only [List.set_cons_succ, List.set_cons_zero] at hs3
      clear hs2 qf hCW' hCW n1
      refine Mix.post_mk (C := (fun _ => True)) trivial (hK _ _ ?_)
      clear hK K
      refine Mix.done ?_
      generalize w5.setCell _ _ = w6 at hs3 ⊢
      obtain ⟨b1', o1', e1', hb1', hc1⟩ := (hs3.rdRecs 2 rfl).at i hlt
      injection e1' with e1'
      injection e1' with q3 q4
      subst q3; subst q4
      rw [← HX.out] at hc1
      clear x0 x1 x2 x3 x4 x5 x6
      have x0 := hc1 0 (by decide)
      have x1 := hc1 1 (by decide)
      have x2 := hc1 2 (by decide)
      have x3 := hc1 3 (by decide)
      have x4 := hc1 4 (by decide)
      have x5 := hc1 5 (by decide)
      have x6 := hc1 6 (by decide)
      simp only [duR, Nat.add_zero, List.getElem?_cons_zero, List.getElem?_cons_succ] at x0 x1 x2 x3 x4 x5 x6
      clear hc1
      go_wp2_with (at_builtin; refine wpList_appInt rfl (.tmp 60) (.tmp 66) 29 rfl 34 j0 _ 8 Try.underlying29 hj0 hy0 hy1 hy2 rfl _ IL .u64 id hs3 0 rfl rfl rfl ?c3 ?c4 ?grow)
      case c3 => rw [HIL.out]; unfold maxLen; omega
      case c4 => rw [HIL.out]; omega
      case grow =>
        intro vl' w7 hs4 _
        (try simp only [List.set_cons_zero] at hs4)
        clear hs3 x0 x1 x2 x3 x4 x5 x6
        go_wp2_with fail
        refine Round.intro (O.length - (i + 1)) ?measure2 (by kernel_rfl) (hJ1 _ _ _ ?rel2)
        case' rel2 => (try dsimp only [nthV])
        case measure2 => omega
        case rel2 => exact ⟨i + 1, _, _, by go_num, hlt, rfl, by rw [HDS.out.1, HDS.out.2]; exact hs4⟩
    · obtain rfl : i = O.length := by omega
      rw [List.take_length] at hs
      obtain ⟨vi', ci', rfl⟩ := (hs.rdInts 0 rfl).shape
      rw [List.length_map] at hs ⊢
      cases c
      · have HE := Lib.hid (show edgesL rooms l false = O.map dueE ++ hubL rooms rooms.length by rw [edges_eq, ← HO.out]; rfl)
        go_wp2_with fail
        refine wp_loopM [none, none, none, none, none, none, none, none, none, none, none, none, none, none, some 14, none, none, none, none, none, none, none, none, none, none, none, none, none, none, none, none, none, none, none, none, none, none, none, none, none, none, none, none, none, none, none, none, none, none, none, none, none, none, none, none, none, none, none, none, none, none, none, none, none, none, none, none, none, some 68, some 69, some 70, some 71, some 72, some 73, some 74, some 75, some 76, some 77, some 78, some 79, some 80, some 81, some 82, some 83, some 84, some 85, some 86, some 87, some 88, some 89, some 90, some 91, some 92, none, none] (fun (r2 : Nat) (f : Nat → Value) (wq : World) => (fun (v : Value) => ∃ (k : Nat) (ae : Option Addr) (ce : Nat), v = .int .i64 k ∧ k ≤ rooms.length ∧ r2 = rooms.length - k ∧ Sep w wq [intsT .u64 34 (.slice vi' O.length ci') (O.map (·.id)), recT edR 52 (.slice ae (O.length + 2 * k) ce) (O.map dueE ++ hubL rooms k), recT duR 45 (.slice ao O.length co) O, cellsT BN #[.int .i64 (rooms.length + 1), .slice ae (O.length + 2 * k) ce] 28, cellsT w.heap.size #[.int .i64 0, .slice none 0 0] 28]) (f 14)) (rooms.length) (by kernel_rfl) ?atStart3 ?round3
        case' atStart3 => (try dsimp only [nthV])
        case' round3 =>
          intro gk f wr l hl hrel J2 K2 hJ2 hK2
          (try simp only [mask] at hl)
          generalize f 14 = u14 at hl hrel
          subst hl
          (try dsimp only at hrel)
        case atStart3 => exact ⟨0, ae, ce, rfl, Nat.zero_le _, rfl, by rw [Nat.mul_zero, Nat.add_zero, show hubL rooms 0 = [] from rfl, List.append_nil]; exact hs⟩
        case round3 =>
          clear hs
          obtain ⟨k, ae, ce, rfl, hk, rfl, hs⟩ := hrel
          by_cases hlk : k < rooms.length
          · obtain ⟨b2, o2, e2, hb2, hc2⟩ := ((hs.drew).rd hr).at k hlk
            subst e2
            have HHS := Lib.hid (hub_succ rooms k)
            obtain ⟨R, hR⟩ : ∃ R, R = rooms.getD k 0 := ⟨_, rfl⟩
            rw [← hR] at hc2 HHS
            obtain ⟨EL, hEL⟩ : ∃ EL, EL = O.map dueE ++ hubL rooms k := ⟨_, rfl⟩
            have HEL := Lib.hid (show EL.length = O.length + 2 * k by rw [hEL, List.length_append, List.length_map, hub_len])
            have HEN := Lib.hid (show O.map dueE ++ hubL rooms (k + 1) = EL ++ [⟨rooms.length, k, R, 0⟩, ⟨k, rooms.length, 4503599627370496, 0⟩] by rw [HHS.out, hEL, List.append_assoc])
            rw [← hEL] at hs
            clear hR hEL HHS
            have hsa := (hs.alloc (.cells #[.int .i64 rooms.length, .int .i64 k, .int .i64 R, .int .i64 0, .int .i64 k, .int .i64 rooms.length, .int .i64 4503599627370496, .int .i64 0] 52)).drew
            have n1 := cell_of (hs.cells 3 rfl) 1
            simp only [List.getElem?_toArray, List.getElem?_cons_zero, List.getElem?_cons_succ] at n1
            have hCW : (fun W : World => W.cell? ⟨BN, 1, none⟩ = some (.slice ae (O.length + 2 * k) ce)) wr.drew := n1
            have HRD := Lib.hid (show RdG edR (wr.alloc (.cells #[.int .i64 rooms.length, .int .i64 k, .int .i64 R, .int .i64 0, .int .i64 k, .int .i64 rooms.length, .int .i64 4503599627370496, .int .i64 0] 52)).drew (.slice (some ⟨wr.heap.size, 0, none⟩) 2 2) [(⟨rooms.length, k, R, 0⟩ : Ed), ⟨k, rooms.length, 4503599627370496, 0⟩] from RdG.ofCells (R := edR) (w := (wr.alloc (.cells #[.int .i64 rooms.length, .int .i64 k, .int .i64 R, .int .i64 0, .int .i64 k, .int .i64 rooms.length, .int .i64 4503599627370496, .int .i64 0] 52)).drew) [(⟨rooms.length, k, R, 0⟩ : Ed), ⟨k, rooms.length, 4503599627370496, 0⟩] (heap_alloc_new wr _) 2 (by simp [maxLen]))
            go_wp2_with fail
            refine Mix.region2 13 [1, 1, 0, 0, 0, 0, 0, 0, 0, 0, 0, 0, 2, 2, 0, 2] (fun W : World => W.cell? ⟨BN, 1, none⟩ = some (.slice ae (O.length + 2 * k) ce)) (by kernel_rfl) (by kernel_rfl) hCW ?_
            simp only [List.zip_cons_cons, List.zip_nil_right, List.take_succ_cons, List.take_zero, List.drop_succ_cons, List.drop_zero]
            (refine Mix.step1 fun K hK => ?_; go_simp; (try (go_bits; try go_simp)); first | ((with_reducible refine hK _ _ ?_); clear hK K) | ((try (simp only [IntWalk.iteOmega]; try go_simp)); (try go_bits); (with_reducible refine hK _ _ ?_); clear hK K))
            (refine Mix.step1 fun K hK => ?_; go_simp; refine ⟨fun W => ?_, hK _ _ ?_⟩; (intro hW1; (try intro hW2); (try intro hW3); (try intro hW4); (try intro hW5); (try intro hW6); (try intro hW7); (try intro hW8); go_simp); clear hK K)
            iterate 10 (refine Mix.step0 fun K hK => ?_; go_simp; (try (go_bits; try go_simp)); first | ((with_reducible refine hK _ _ ?_); clear hK K) | ((try (simp only [IntWalk.iteOmega]; try go_simp)); (try go_bits); (with_reducible refine hK _ _ ?_); clear hK K))
            refine Mix.step2n (by first | rfl | simp [Region.wanted, yielded]) fun K hK => ?_
            go_wp2_with fail
            have hCW := cell_of (hsa.cells 3 rfl) 1
            refine Mix.post_mk (C := (fun W : World => W.cell? ⟨BN, 1, none⟩ = some (.slice ae (O.length + 2 * k) ce))) (by first | exact hCW | exact HCW.out _) (hK _ _ ?_)
            clear hK K
            refine Mix.done ?_
            refine Mix.step2n (by first | rfl | simp [Region.wanted, yielded]) fun K hK => ?_
            refine wpList_appRdG edR rfl (.tmp 79) (.tmp 90) 26 rfl 52 i0 _ 32 Try.underlying26 hi0 hz0 hz1 hz2 rfl _ EL _ _ hsa 1 rfl HRD.out rfl rfl (by rw [HEL.out]; simp only [List.length_cons, List.length_nil]; unfold maxLen; omega) (by rw [HEL.out]; simp only [List.length_cons, List.length_nil]; omega) ?_
            intro v' w5 hs2
            rw [← HEN.out] at hs2
            (try simp only [List.set_cons_succ, List.set_cons_zero] at hs2)
            obtain ⟨ag, cap, rfl⟩ := (hs2.rdRecs 1 rfl).shape
            rw [show (O.map dueE ++ hubL rooms (k + 1)).length = O.length + 2 * (k + 1) by rw [List.length_append, List.length_map, hub_len]] at hs2 ⊢
            clear hsa hs HRD
            have hCW := cell_of (hs2.cells 3 rfl) 1
            have qf := fun j => frozen_of (hs2.cells 3 rfl) j
            have hCW' := hCW
            simp only [List.getElem?_toArray, List.getElem?_cons_zero, List.getElem?_cons_succ] at hCW'
            go_wp2_with fail
            refine Mix.post_mk (C := (fun _ => True)) trivial (hK _ _ ?_)
            clear hK K
            iterate 1 (refine Mix.step0 fun K hK => ?_; go_simp; (try (go_bits; try go_simp)); first | ((with_reducible refine hK _ _ ?_); clear hK K) | ((try (simp only [IntWalk.iteOmega]; try go_simp)); (try go_bits); (with_reducible refine hK _ _ ?_); clear hK K))
            refine Mix.step2n (by first | rfl | simp [Region.wanted, yielded]) fun K hK => ?_
            go_wp2_with fail
            have hs3 := hs2.setCells 3 rfl 1 (.slice ag (O.length + 2 * (k + 1)) cap) #[.int .i64 (rooms.length + 1), .slice ag (O.length + 2 * (k + 1)) cap] rfl
            simp only [List.set_cons_succ, List.set_cons_zero] at hs3
            clear hs2 qf hCW' hCW n1
            refine Mix.post_mk (C := (fun _ => True)) trivial (hK _ _ ?_)
            clear hK K
            refine Mix.done ?_
            go_wp2_with fail
            refine Round.intro (rooms.length - (k + 1)) ?measure4 (by kernel_rfl) (hJ2 _ _ _ ?rel4)
            case' rel4 => (try dsimp only [nthV])
            case measure4 => omega
            case rel4 => exact ⟨k + 1, ag, cap, by go_num, hlk, rfl, hs3⟩
          · obtain rfl : k = rooms.length := by omega
            have q0 := cell_of (hs.cells 3 rfl) 0
            have q1 := cell_of (hs.cells 3 rfl) 1
            have z0 := cell_of (hs.cells 4 rfl) 0
            have z1 := cell_of (hs.cells 4 rfl) 1
            simp only [List.getElem?_toArray, List.getElem?_cons_zero, List.getElem?_cons_succ] at q0 q1 z0 z1
            have qf := fun j => frozen_of (hs.cells 4 rfl) j
            go_wp2_with fail
            replace hs := (hs.setC 4 rfl 0 (.int .i64 (rooms.length + 1)) #[.int .i64 (rooms.length + 1), .slice none 0 0] rfl).setC 4 rfl 1 (.slice ae (O.length + 2 * rooms.length) ce) #[.int .i64 (rooms.length + 1), .slice ae (O.length + 2 * rooms.length) ce] rfl
            simp only [List.set_cons_succ, List.set_cons_zero] at hs
            clear q0 q1 z0 z1 qf
            have z0 := cell_of (hs.cells 4 rfl) 0
            have z1 := cell_of (hs.cells 4 rfl) 1
            simp only [List.getElem?_toArray, List.getElem?_cons_zero, List.getElem?_cons_succ] at z0 z1
            exact bodyPost_ret (v := .tuple #[.agg #[.int .i64 (rooms.length + 1), .slice ae (O.length + 2 * rooms.length) ce], .slice vi' O.length ci', .int .i64 0]) (by simp [results, Try.results9, go_sem, z0, z1]) rfl (.inr ⟨HRT.out, _, _, rfl, by rw [HE.out, ← HO.out]; exact Sep.swap01 (hs.takeN 2)⟩)
      · have HE := Lib.hid (show edgesL rooms l true = O.map dueE by rw [edges_eq, ← HO.out]; exact List.append_nil _)
        go_wp2_with fail
        refine wp_loopM [none, none, none, none, none, none, none, none, none, none, none, none, none, none, some 14, none, none, none, none, none, none, none, none, none, none, none, none, none, none, none, none, none, none, none, none, none, none, none, none, none, none, none, none, none, none, none, none, none, none, none, none, none, none, none, none, none, none, none, none, none, none, none, none, none, none, none, none, none, some 68, some 69, some 70, some 71, some 72, some 73, some 74, some 75, some 76, some 77, some 78, some 79, some 80, some 81, some 82, some 83, some 84, some 85, some 86, some 87, some 88, some 89, some 90, some 91, some 92, none, none] (fun (r2 : Nat) (f : Nat → Value) (wq : World) => (fun (v : Value) => v = .int .i64 0 ∧ Sep w wq [intsT .u64 34 (.slice vi' O.length ci') (O.map (·.id)), recT edR 52 (.slice ae O.length ce) (O.map dueE), recT duR 45 (.slice ao O.length co) O, cellsT BN #[.int .i64 (rooms.length + 1), .slice ae O.length ce] 28, cellsT w.heap.size #[.int .i64 0, .slice none 0 0] 28]) (f 14)) (0) (by kernel_rfl) ?atStart5 ?round5
        case' atStart5 => (try dsimp only [nthV])
        case' round5 =>
          intro gk f wr l hl hrel J2 K2 hJ2 hK2
          (try simp only [mask] at hl)
          generalize f 14 = u14 at hl hrel
          subst hl
          (try dsimp only at hrel)
        case atStart5 => exact ⟨rfl, hs⟩
        case round5 =>
          clear hs
          obtain ⟨rfl, hs⟩ := hrel
          by_cases hr0 : 0 < rooms.length
          · have e1 : decide ((0 : Int) < (rooms.length : Int)) = true := decide_eq_true (by omega)
            have q0 := cell_of (hs.cells 3 rfl) 0
            have q1 := cell_of (hs.cells 3 rfl) 1
            have z0 := cell_of (hs.cells 4 rfl) 0
            have z1 := cell_of (hs.cells 4 rfl) 1
            simp only [List.getElem?_toArray, List.getElem?_cons_zero, List.getElem?_cons_succ] at q0 q1 z0 z1
            have qf := fun j => frozen_of (hs.cells 4 rfl) j
            go_wp2_with fail
            replace hs := (hs.setC 4 rfl 0 (.int .i64 (rooms.length + 1)) #[.int .i64 (rooms.length + 1), .slice none 0 0] rfl).setC 4 rfl 1 (.slice ae O.length ce) #[.int .i64 (rooms.length + 1), .slice ae O.length ce] rfl
            simp only [List.set_cons_succ, List.set_cons_zero] at hs
            clear q0 q1 z0 z1 qf
            have z0 := cell_of (hs.cells 4 rfl) 0
            have z1 := cell_of (hs.cells 4 rfl) 1
            simp only [List.getElem?_toArray, List.getElem?_cons_zero, List.getElem?_cons_succ] at z0 z1
            exact bodyPost_ret (v := .tuple #[.agg #[.int .i64 (rooms.length + 1), .slice ae O.length ce], .slice vi' O.length ci', .int .i64 0]) (by simp [results, Try.results9, go_sem, z0, z1]) rfl (.inr ⟨HRT.out, _, _, rfl, by rw [HE.out, ← HO.out]; exact Sep.swap01 (hs.takeN 2)⟩)
          · have e1 : decide ((0 : Int) < (rooms.length : Int)) = false := decide_eq_false (by omega)
            have q0 := cell_of (hs.cells 3 rfl) 0
            have q1 := cell_of (hs.cells 3 rfl) 1
            have z0 := cell_of (hs.cells 4 rfl) 0
            have z1 := cell_of (hs.cells 4 rfl) 1
            simp only [List.getElem?_toArray, List.getElem?_cons_zero, List.getElem?_cons_succ] at q0 q1 z0 z1
            have qf := fun j => frozen_of (hs.cells 4 rfl) j
            go_wp2_with fail
            replace hs := (hs.setC 4 rfl 0 (.int .i64 (rooms.length + 1)) #[.int .i64 (rooms.length + 1), .slice none 0 0] rfl).setC 4 rfl 1 (.slice ae O.length ce) #[.int .i64 (rooms.length + 1), .slice ae O.length ce] rfl
            simp only [List.set_cons_succ, List.set_cons_zero] at hs
            clear q0 q1 z0 z1 qf
            have z0 := cell_of (hs.cells 4 rfl) 0
            have z1 := cell_of (hs.cells 4 rfl) 1
            simp only [List.getElem?_toArray, List.getElem?_cons_zero, List.getElem?_cons_succ] at z0 z1
            exact bodyPost_ret (v := .tuple #[.agg #[.int .i64 (rooms.length + 1), .slice ae O.length ce], .slice vi' O.length ci', .int .i64 0]) (by simp [results, Try.results9, go_sem, z0, z1]) rfl (.inr ⟨HRT.out, _, _, rfl, by rw [HE.out, ← HO.out]; exact Sep.swap01 (hs.takeN 2)⟩)
end Go.Proofs.Ytlbpkfjebaelpaa
namespace Go.Proofs.Ytlbpkfjebaelpaa
open Go Go.RowKit Go.Mem Go.MoneyP Go.NetP Go.BuildP Go.Shelf

attribute [local go_sem] Oper.semAt_some

/-- The edges of a round whose open dues are these. -/
def EL (O : List Du) (rooms : List Int) (c : Bool) : List Ed := O.map dueE ++ if c then [] else hubL rooms rooms.length
theorem el_open (rooms : List Int) (l : List Du) (c : Bool) : EL (openL l) rooms c = edgesL rooms l c := (edges_eq rooms l c).symm
theorem el_len (O : List Du) (rooms : List Int) (c : Bool) : (EL O rooms c).length = O.length + if c then 0 else 2 * rooms.length := by
  unfold EL
  cases c <;> simp [hub_len]
def encB (x : Ed) : Array Value := #[.agg #[.int .i64 x.f, .int .i64 x.t, .int .i64 x.c, .int .i64 x.k]]
/-- A round's two ways out, under one name. -/
def OutB (J Jx : List Ed → World → Prop) (N : Nat) (S : Nat → Prop) (p : List Ed) (W : World) (b : Bool) (W' : World) : Prop := (b = true ∧ J p W' ∧ KeepX N S W W') ∨ (b = false ∧ Jx p W')

set_option maxRecDepth 100000 in
set_option maxHeartbeats 3000000 in
theorem bedges1_in (F : Fence) (n : Nat) (hf : F.fn 45) (hdep : F.depth = none) (hro : F.round = none) (hn : 1 ≤ n) (l N : Nat) (S : Nat → Prop) (Bl Bc Br : Nat) (ao ar : Option Addr) (co cr : Nat) (O : List Du) (rooms : List Int) (c : Bool) (hsm : O.length ≤ 64) (hrm : rooms.length ≤ 16) (hmd : ∀ d ∈ O, MayD d)
    (hBl : Bl < N) (hSl : ¬ S Bl) (hBc : Bc < N) (hSc : ¬ S Bc) (hBr : Br < N) (hSr : ¬ S Br) (J Jx : List Ed → World → Prop) (W : World) (hN : N ≤ W.heap.size)
    (hJa : ∀ pre W1 (o : Obj), W.heap.size ≤ W1.heap.size → J pre W1 → J pre (W1.alloc o))
    (hY : ∀ pre x W1, J pre W1 → pre.length < (EL O rooms c).length → YieldAt F (n - 1) Try.prog l (encB x) W1 fun e W' =>
      (e = .returned (.bool true) ∧ J (pre ++ [x]) W' ∧ KeepX N S W1 W') ∨ (e = .returned (.bool false) ∧ Jx (pre ++ [x]) W'))
    (cl : W.cell? ⟨Bl, 0, none⟩ = some (.slice ao O.length co)) (cc : W.cell? ⟨Bc, 0, none⟩ = some (.bool c)) (crr : W.cell? ⟨Br, 0, none⟩ = some (.slice ar rooms.length cr))
    (ce : ∀ (i : Nat) (hi : i < O.length), ∃ b o, ao = some ⟨b, o, none⟩ ∧ b < N ∧ ¬ S b ∧ ∀ (j : Nat), j < 7 → W.cell? ⟨b, o + i * 7 + j, none⟩ = (duR.cells O[i])[j]?) (cx : ∀ i, i < rooms.length → ∃ b o, ar = some ⟨b, o, none⟩ ∧ b < N ∧ ¬ S b ∧ W.cell? ⟨b, o + i, none⟩ = some (.int .i64 (rooms.getD i 0))) (h0 : J [] W) :
    CallsIn F n Try.prog 45 #[.func (.yield l) #[] #[], .pointer (some ⟨Bl, 0, none⟩), .pointer (some ⟨Bc, 0, none⟩), .pointer (some ⟨Br, 0, none⟩)] W fun e W' => (∃ v, e = .returned v) ∧
      (J (EL O rooms c) W' ∨ ∃ p, Jx p W') := by
  refine callsIn_of_wp Try.func45 rfl hf ?_ hro
  simp only [Try.ntmps45, List.size_toArray, List.length_cons, List.length_nil, Nat.reduceAdd, Nat.reduceSub, Array.replicate_succ, Array.replicate_zero, List.push_toArray, List.append_toArray, List.nil_append, List.cons_append]
  have CE := Lib.hid ce
  have CX := Lib.hid cx
  have HY := Lib.hid hY
  have HJA := Lib.hid hJa
  have H0 := Lib.hid h0
  have HMD := Lib.hid hmd
  have HCC := Lib.hid cc
  have HCR := Lib.hid crr
  have HEL := Lib.hid (el_len O rooms c)
  clear ce cx hY hJa h0 hmd cc crr
  gi_wp2
  gi_loopw [12] (fun i wr => ∃ k : Nat, k ≤ O.length ∧ i = .int .i64 k ∧ J ((O.take k).map dueE) wr ∧ KeepX N S W wr) (fun i _ => O.length - (intOf i).toNat)
  case atStart => exact ⟨0, Nat.zero_le _, rfl, H0.out, KeepX.refl _ _ _⟩
  case round =>
    obtain ⟨k, hk, rfl, hJs, hkx⟩ := hrel
    have HK := Lib.hid hkx
    have HJ := Lib.hid hJs
    clear hJs hkx cl
    by_cases hlt : k < O.length
    · obtain ⟨b1, o1, rfl, hb1, hS1, ce⟩ := CE.out k hlt
      have hc1 := fun j hj => (HK.out.cell (o := o1 + k * 7 + j) hb1 hS1).trans (ce j hj)
      have HDS := Lib.hid (due_step hlt).1
      have HL2 := Lib.hid (show ((O.take k).map dueE).length < (EL O rooms c).length by rw [HEL.out, List.length_map, List.length_take]; omega)
      have hm := HMD.out _ (List.getElem_mem hlt)
      obtain ⟨x, hx⟩ : ∃ x, x = O[k] := ⟨_, rfl⟩
      rw [← hx] at hc1 HDS hm
      clear ce hx
      obtain ⟨id, f, t, xx, we, u, hh⟩ := x
      have hw0 := hm.w0
      have hw1 := hm.w1
      dsimp only at hw0 hw1
      have x0 := hc1 0 (by decide)
      have x1 := hc1 1 (by decide)
      have x2 := hc1 2 (by decide)
      have x3 := hc1 3 (by decide)
      have x4 := hc1 4 (by decide)
      have x5 := hc1 5 (by decide)
      have x6 := hc1 6 (by decide)
      simp only [duR, Nat.add_zero, List.getElem?_cons_zero, List.getElem?_cons_succ] at x0 x1 x2 x3 x4 x5 x6
      clear hc1
      clear hm
      have hJA := HJA.out _ _ (.cells #[.int .u64 id, .int .i64 f, .int .i64 t, .int .i64 xx, .int .i64 we, .int .i64 u, .bool hh] 45) HK.out.1 HJ.out
      obtain ⟨fn, tmps, assign, body, hy, hR⟩ := HY.out _ ⟨f, t, xx, -we⟩ _ hJA HL2.out
      have hR' := hR.mono (R' := fun en W' => ∃ b, en = .returned (.bool b) ∧ OutB J Jx N S ((O.take k).map dueE ++ [⟨f, t, xx, -we⟩]) (wr.alloc (.cells #[.int .u64 id, .int .i64 f, .int .i64 t, .int .i64 xx, .int .i64 we, .int .i64 u, .bool hh] 45)) b W')
        (fun en W' h => by
          rcases h with ⟨h1, h2, h3⟩ | ⟨h1, h2⟩
          · exact ⟨true, h1, .inl ⟨rfl, h2, h3⟩⟩
          · exact ⟨false, h1, .inr ⟨rfl, h2⟩⟩)
      dsimp only [encB] at hy
      have HR' := Lib.hid hR'
      clear hR hR' hJA
      gi_wp2_with fail
      refine HR'.out.mono ?_
      rintro en W3 ⟨b, rfl, h3⟩
      rcases h3 with ⟨rfl, hJ3, hk3⟩ | ⟨rfl, hJx3⟩
      · gi_wp2
        go_roundw
        case rel => exact ⟨k + 1, hlt, by go_num, by rw [HDS.out]; exact hJ3, (HK.out.trans (KeepX.alloc (Nat.le_trans hN HK.out.1) _)).trans hk3⟩
        case measure => simp [intOf]; omega
      · gi_wp2
        (repeat rw [Exit.noGoto_ret]); refine bodyPost_ret (results_none rfl _ _ _) rfl ?_
        exact ⟨⟨_, rfl⟩, .inr ⟨_, hJx3⟩⟩
    · obtain rfl : k = O.length := by omega
      have hcc := (HK.out.cell (o := 0) hBc hSc).trans HCC.out
      have hcr := (HK.out.cell (o := 0) hBr hSr).trans HCR.out
      rw [List.take_length] at HJ
      cases c
      · gi_wp2
        gi_loopw [35] (fun i wq => ∃ k : Nat, k ≤ rooms.length ∧ i = .int .i64 k ∧ J (O.map dueE ++ hubL rooms k) wq ∧ KeepX N S W wq) (fun i _ => rooms.length - (intOf i).toNat)
        case atStart => exact ⟨0, Nat.zero_le _, rfl, by rw [show hubL rooms 0 = [] from rfl, List.append_nil]; exact HJ.out, HK.out⟩
        case round =>
          clear hcc hcr HJ HK
          obtain ⟨k, hk, rfl, hJs, hkx⟩ := hrel
          have HK := Lib.hid hkx
          have HJ := Lib.hid hJs
          clear hJs hkx
          by_cases hlk : k < rooms.length
          · obtain ⟨b2, o2, rfl, hb2, hS2, cx⟩ := CX.out k hlk
            have x0 := (HK.out.cell (o := o2 + k) hb2 hS2).trans cx
            have HHS := Lib.hid (hub_succ rooms k)
            obtain ⟨R, hR⟩ : ∃ R, R = rooms.getD k 0 := ⟨_, rfl⟩
            rw [← hR] at x0 HHS
            clear cx hR
            have hl1 : (O.map dueE ++ hubL rooms k).length < (EL O rooms false).length := by rw [HEL.out, List.length_append, List.length_map, hub_len]; simp; omega
            have HL2 := Lib.hid (show (O.map dueE ++ hubL rooms k ++ [(⟨rooms.length, k, R, 0⟩ : Ed)]).length < (EL O rooms false).length by rw [HEL.out, List.length_append, List.length_append, List.length_map, hub_len]; simp; omega)
            obtain ⟨fn, tmps, assign, body, hy, hR⟩ := HY.out _ ⟨rooms.length, k, R, 0⟩ _ HJ.out hl1
            have HR' := Lib.hid hR
            clear hR hl1
            dsimp only [encB] at hy
            gi_wp2_with fail
            refine HR'.out.mono ?_
            rintro en W3 (⟨rfl, hJ3, hk3⟩ | ⟨rfl, hJx3⟩)
            · clear HR' hy x0
              obtain ⟨fn, tmps, assign, body, hy, hR⟩ := HY.out _ ⟨k, rooms.length, 4503599627370496, 0⟩ _ hJ3 HL2.out
              have HR' := Lib.hid hR
              have HK3 := Lib.hid hk3
              clear hR hk3 hJ3
              dsimp only [encB] at hy
              gi_wp2_with fail
              refine HR'.out.mono ?_
              rintro en W4 (⟨rfl, hJ4, hk4⟩ | ⟨rfl, hJx4⟩)
              · gi_wp2
                go_roundw
                case rel => exact ⟨k + 1, hlk, by go_num, by rw [HHS.out, ← List.append_assoc, show ([⟨rooms.length, k, R, 0⟩, ⟨k, rooms.length, 4503599627370496, 0⟩] : List Ed) = [⟨rooms.length, k, R, 0⟩] ++ [⟨k, rooms.length, 4503599627370496, 0⟩] from rfl, ← List.append_assoc]; exact hJ4, (HK.out.trans HK3.out).trans hk4⟩
                case measure => simp [intOf]; omega
              · gi_wp2
                (repeat rw [Exit.noGoto_ret]); refine bodyPost_ret (results_none rfl _ _ _) rfl ?_
                exact ⟨⟨_, rfl⟩, .inr ⟨_, hJx4⟩⟩
            · gi_wp2
              repeat (refine ⟨fun f h => (by cases h), ?_⟩; gi_wp2)
              (repeat rw [Exit.noGoto_ret]); refine bodyPost_ret (results_none rfl _ _ _) rfl ?_
              exact ⟨⟨_, rfl⟩, .inr ⟨_, hJx3⟩⟩
          · obtain rfl : k = rooms.length := by omega
            gi_wp2
            go_end0
            exact ⟨⟨_, rfl⟩, .inl HJ.out⟩
      · gi_wp2
        (repeat rw [Exit.noGoto_ret]); refine bodyPost_ret (results_none rfl _ _ _) rfl ?_
        exact ⟨⟨_, rfl⟩, .inl (by rw [show EL O rooms true = O.map dueE from List.append_nil _]; exact HJ.out)⟩

/-- The edges that come, as a contract. -/
theorem bedges_stops (F : Fence) (n : Nat) (hf : F.fn 45) (hdep : F.depth = none) (hro : F.round = none) (hn : 1 ≤ n) (N : Nat) (S : Nat → Prop) (Bl Bc Br : Nat) (ao ar : Option Addr) (co cr : Nat) (O : List Du) (rooms : List Int) (c : Bool) (hsm : O.length ≤ 64) (hrm : rooms.length ≤ 16) (hmd : ∀ d ∈ O, MayD d)
    (hBl : Bl < N) (hSl : ¬ S Bl) (hBc : Bc < N) (hSc : ¬ S Bc) (hBr : Br < N) (hSr : ¬ S Br) (w : World) (hN : N ≤ w.heap.size)
    (cl : w.cell? ⟨Bl, 0, none⟩ = some (.slice ao O.length co)) (cc : w.cell? ⟨Bc, 0, none⟩ = some (.bool c)) (crr : w.cell? ⟨Br, 0, none⟩ = some (.slice ar rooms.length cr))
    (ce : ∀ (i : Nat) (hi : i < O.length), ∃ b o, ao = some ⟨b, o, none⟩ ∧ b < N ∧ ¬ S b ∧ ∀ (j : Nat), j < 7 → w.cell? ⟨b, o + i * 7 + j, none⟩ = (duR.cells O[i])[j]?) (cx : ∀ i, i < rooms.length → ∃ b o, ar = some ⟨b, o, none⟩ ∧ b < N ∧ ¬ S b ∧ w.cell? ⟨b, o + i, none⟩ = some (.int .i64 (rooms.getD i 0))) :
    SeqStopsK F n Try.prog 45 #[.pointer (some ⟨Bl, 0, none⟩), .pointer (some ⟨Bc, 0, none⟩), .pointer (some ⟨Br, 0, none⟩)] encB (KeepX N S) (fun xs => xs = EL O rooms c) (fun _ => True) (EL O rooms c).length w := fun l J Jx W hW hJ hJx hY h0 => by
  have hlt : ∀ b, b < N → b < w.heap.size := fun b hb => Nat.lt_of_lt_of_le hb hN
  have cell : ∀ b o, b < N → W.cell? ⟨b, o, none⟩ = w.cell? ⟨b, o, none⟩ := fun b o hb => hW.cell (p := ⟨b, o, none⟩) (hlt b hb)
  refine (bedges1_in F n hf hdep hro hn l N S Bl Bc Br ao ar co cr O rooms c hsm hrm hmd hBl hSl hBc hSc hBr hSr (fun pre W' => J pre W' ∧ W.heap.size ≤ W'.heap.size) (fun pre W' => Jx pre W') W (Nat.le_trans hN hW.size)
    (fun pre W1 o hs h => ?_) (fun pre x W1 h hlen => ?_) ((cell _ _ hBl).trans cl) ((cell _ _ hBc).trans cc) ((cell _ _ hBr).trans crr) (fun i hi => by obtain ⟨b, o, e, hb, hs, h⟩ := ce i hi; exact ⟨b, o, e, hb, hs, fun j hj => (cell _ _ hb).trans (h j hj)⟩) (fun i hi => by obtain ⟨b, o, e, hb, hs, h⟩ := cx i hi; exact ⟨b, o, e, hb, hs, (cell _ _ hb).trans h⟩) ⟨h0, Nat.le_refl _⟩).mono ?_
  · obtain ⟨h2, h3⟩ := h
    exact ⟨hJ pre _ _ none h2 (World.grownBy_alloc W1 o none) (fun r e => by cases e), by simp; omega⟩
  · obtain ⟨h2, h3⟩ := h
    obtain ⟨fn, tmps, assign, body, hy1, hR⟩ := hY pre x W1 h2 hlen
    refine ⟨fn, tmps, assign, body, hy1, hR.mono (fun e W' h => ?_)⟩
    rcases h with ⟨a1, a2, a3⟩ | ⟨a1, a2⟩
    · exact .inl ⟨a1, ⟨a2, Nat.le_trans h3 a3.1⟩, a3⟩
    · exact .inr ⟨a1, a2⟩
  · rintro e W' ⟨h1, h2⟩
    refine ⟨h1, ?_⟩
    rcases h2 with ⟨a2, _⟩ | ⟨p, a2⟩
    · exact .inl ⟨_, rfl, a2⟩
    · exact .inr ⟨p, trivial, a2⟩

set_option maxRecDepth 100000 in
theorem bedges_calls (ao ar : Option Addr) (no nr co cr : Nat) (c : Bool) (w : World) :
    Calls Try.prog 25 #[.slice ar nr cr, .slice ao no co, .bool c] w fun e w' => e = .returned (.func (.func 45) #[] #[.pointer (some ⟨w.heap.size + 1, 0, none⟩), .pointer (some ⟨w.heap.size + 2, 0, none⟩), .pointer (some ⟨w.heap.size, 0, none⟩)]) ∧ w' = ((w.alloc (.cells #[.slice ar nr cr] 22)).alloc (.cells #[.slice ao no co] 23)).alloc (.cells #[.bool c] 4) := by
  go_enter Try.func25, Try.ntmps25
  go_wp2_with fail
  go_ret
  exact ⟨rfl, rfl⟩
end Go.Proofs.Ytlbpkfjebaelpaa
namespace Go.Proofs.Ytlbpkfjebaelpaa
open Go Go.RowKit Go.Mem Go.MoneyP Go.NetP Go.BuildP Go.Shelf

attribute [local go_sem] Oper.semAt_some
theorem ids_step {O : List Du} {i : Nat} (hi : i < O.length) : (O.take (i + 1)).map (·.id) = (O.take i).map (·.id) ++ [(O[i]).id] := (due_step hi).2

set_option maxRecDepth 100000 in
set_option maxHeartbeats 4000000 in
theorem round_any (rooms : List Int) (l : List Du) (c : Bool) (vr vl : Value) (w : World) (hr : Rd .i64 w vr rooms) (h : RdG duR w vl l) (hsm : l.length ≤ 1000) :
    Calls Try.prog 8 #[vr, vl, .bool c] w fun en w' => RoundP rooms l c w en w' := by
  obtain ⟨i0, hi0, hz0, hz1, hz2⟩ := info_parts Try.infoEdb
  obtain ⟨j0, hj0, hy0, hy1, hy2⟩ := info_parts Try.infoU64b
  obtain ⟨ar, cr, rfl⟩ := hr.shape
  have hs0 := (Sep.start w).newCells #[.int .i64 0, .slice none 0 0] 28
  have RR := Lib.hid (right_b rooms l _ vl _ (hs0.rd hr) (hs0.rdG h) (by omega))
  cases hrt : rightR rooms l
  · rw [hrt] at RR
    have HRT := Lib.hid hrt
    clear hrt
    go_enter Try.func8, Try.ntmps8
    go_wp2_with fail
    refine (RR.out).mono ?_
    rintro en w2 ⟨rfl, hb⟩
    replace hs0 := hs0.belowStep hb
    have q0 := cell_of (hs0.cells 0 rfl) 0
    have q1 := cell_of (hs0.cells 0 rfl) 1
    simp only [List.getElem?_toArray, List.getElem?_cons_zero, List.getElem?_cons_succ] at q0 q1
    have qf := fun j => frozen_of (hs0.cells 0 rfl) j
    go_wp2_with fail
    replace hs0 := (hs0.setC 0 rfl 0 (.int .i64 0) #[.int .i64 0, .slice none 0 0] rfl).setC 0 rfl 1 (.slice none 0 0) #[.int .i64 0, .slice none 0 0] rfl
    clear q0 q1 qf
    have q0 := cell_of (hs0.cells 0 rfl) 0
    have q1 := cell_of (hs0.cells 0 rfl) 1
    simp only [List.getElem?_toArray, List.getElem?_cons_zero, List.getElem?_cons_succ] at q0 q1
    exact bodyPost_ret (v := .tuple #[.agg #[.int .i64 0, .slice none 0 0], .slice none 0 0, .int .i64 1]) (by simp [results, Try.results8, go_sem, q0, q1]) rfl (.inl ⟨HRT.out, rfl, hs0.below⟩)
  rw [hrt] at RR
  have HRT := Lib.hid hrt
  obtain ⟨hn16, hl64, _, hmd, _⟩ := right_parts hrt
  have HMD := Lib.hid (show ∀ d ∈ openL l, MayD d from fun d hd => (hmd d (List.mem_filter.1 hd).1).1)
  clear hmd
  clear hrt
  refine (callsIn_wide (n := 6)).1 ?_
  refine callsIn_of_wp_marks Try.func8 rfl trivial ?_ rfl
  simp only [Try.ntmps8, List.size_toArray, List.length_cons, List.length_nil, Nat.reduceAdd, Nat.reduceSub, Array.replicate_succ, Array.replicate_zero, List.push_toArray, List.append_toArray, List.nil_append, List.cons_append]
  gi_wp2_with fail
  refine ⟨trivial, (callsIn_wide.2 RR.out).mono ?_⟩
  rintro en w2 ⟨rfl, hb⟩
  replace hs0 := hs0.belowStep hb
  clear hb RR
  obtain ⟨BN, hBN⟩ : ∃ BN, BN = w.heap.size := ⟨_, rfl⟩
  have hBNw : w.heap.size ≤ BN ∧ BN < w2.heap.size := ⟨by omega, by rw [hBN]; exact lt_of (hs0.cells 0 rfl)⟩
  have HBN := Lib.hid hBNw
  rw [← hBN] at hs0 ⊢
  clear hBN hBNw
  have q0 := cell_of (hs0.cells 0 rfl) 0
  have q1 := cell_of (hs0.cells 0 rfl) 1
  simp only [List.getElem?_toArray, List.getElem?_cons_zero, List.getElem?_cons_succ] at q0 q1
  have qf := fun j => frozen_of (hs0.cells 0 rfl) j
  have hs1 := hs0.setC 0 rfl 0 (.int .i64 (rooms.length + 1)) #[.int .i64 (rooms.length + 1), .slice none 0 0] rfl
  simp only [List.set_cons_zero] at hs1
  obtain ⟨w3, hw3⟩ : ∃ w3, w3 = w2.setCell ⟨BN, 0, none⟩ (.int .i64 (rooms.length + 1)) := ⟨_, rfl⟩
  have hb3 : w3.heap.size = w2.heap.size := by rw [hw3]; simp [World.setCell]
  gi_wp2_with fail
  rw [← hw3] at hs1 ⊢
  have HSZ := Lib.hid (show BN < w3.heap.size from lt_of (hs1.cells 0 rfl))
  clear q0 q1 qf hs0 hw3 hb3
  refine ⟨trivial, (callsIn_wide.2 (open_any l vl _ (hs1.rdG h) (by omega))).mono ?_⟩
  rintro en w4 ⟨uo, rfl, k1⟩
  have hs := hs1.join k1
  simp only [List.cons_append, List.nil_append] at hs
  obtain ⟨O, hO⟩ : ∃ O, O = openL l := ⟨_, rfl⟩
  rw [← hO] at hs
  rw [← hO] at HMD
  have hol : O.length ≤ 64 := by rw [hO]; exact Nat.le_trans (open_le l) hl64
  obtain ⟨ao, co, rfl⟩ := (hs.rdWin 0 rfl).shape
  have HO := Lib.hid hO
  clear hO hs1 k1
  gi_wp2_with fail
  gi_loopw [7, 25] (fun vi i wr => ∃ k : Nat, k ≤ O.length ∧ i = .int .i64 k ∧ Sep w wr [intsT .u64 34 vi ((O.take k).map (·.id)), winT duR (.slice ao O.length co) O, cellsT BN #[.int .i64 (rooms.length + 1), .slice none 0 0] 28]) (fun _ i _ => O.length - (intOf i).toNat)
  case atStart => exact ⟨0, Nat.zero_le _, rfl, hs.nilInts .u64 _⟩
  case round =>
    clear hs
    obtain ⟨k, hk, rfl, hs⟩ := hrel
    by_cases hlt : k < O.length
    · obtain ⟨b1, o1, e1, hb1, hc1⟩ := (hs.rdWin 1 rfl).at k hlt
      subst e1
      have HDS := Lib.hid (ids_step hlt)
      obtain ⟨x, hx⟩ : ∃ x, x = O[k] := ⟨_, rfl⟩
      rw [← hx] at hc1 HDS
      obtain ⟨IL, hIL⟩ : ∃ IL, IL = (O.take k).map (·.id) := ⟨_, rfl⟩
      have HIL := Lib.hid (show IL.length = k by rw [hIL]; simp [hk])
      rw [← hIL] at hs HDS
      clear hx hIL
      obtain ⟨id, f, t, xx, we, u, hh⟩ := x
      have x0 := hc1 0 (by decide)
      have x1 := hc1 1 (by decide)
      have x2 := hc1 2 (by decide)
      have x3 := hc1 3 (by decide)
      have x4 := hc1 4 (by decide)
      have x5 := hc1 5 (by decide)
      have x6 := hc1 6 (by decide)
      simp only [duR, Nat.add_zero, List.getElem?_cons_zero, List.getElem?_cons_succ] at x0 x1 x2 x3 x4 x5 x6
      clear hc1
      obtain ⟨vi', ci', rfl⟩ := (hs.rdInts 0 rfl).shape
      rw [HIL.out] at hs ⊢
      have hsa := hs.alloc (.cells #[.int .u64 id, .int .i64 f, .int .i64 t, .int .i64 xx, .int .i64 we, .int .i64 u, .bool hh] 45)
      have hsb := hsa.alloc (.cells #[.int .u64 id] 34)
      have hnb := heap_alloc_new (wr.alloc (.cells #[.int .u64 id, .int .i64 f, .int .i64 t, .int .i64 xx, .int .i64 we, .int .i64 u, .bool hh] 45)) (.cells #[.int .u64 id] 34)
      rw [World.size_alloc] at hnb
      clear hs hsa
      gi_wp2_with (gi_at_builtin; refine wpListIn_appIntB rfl (.tmp 29) (.tmp 32) 29 rfl 34 j0 _ 8 Try.underlying29 hj0 hy0 hy1 hy2 rfl _ IL .u64 id hsb 0 rfl (wr.heap.size + 1) hnb rfl rfl ?c3 ?c4 ?grow)
      case c3 => rw [HIL.out]; unfold maxLen; omega
      case c4 => rw [HIL.out]; omega
      case grow =>
        intro vl' w7 hs4 _
        (try simp only [List.set_cons_zero] at hs4)
        clear hsb hnb x0 x1 x2 x3 x4 x5 x6
        gi_wp2_with fail
        go_roundw
        case rel => exact ⟨k + 1, hlt, by go_num, by rw [HDS.out]; exact hs4⟩
        case measure => simp [intOf]; omega
    · obtain rfl : k = O.length := by omega
      rw [List.take_length] at hs
      obtain ⟨vi, ci, rfl⟩ := (hs.rdInts 0 rfl).shape
      rw [List.length_map] at hs ⊢
      gi_wp2_with fail
      refine ⟨trivial, (callsIn_wide.2 (bedges_calls _ _ _ _ _ _ _ _)).mono ?_⟩
      rintro en w5 ⟨rfl, rfl⟩
      have HWS := Lib.hid (show BN < wr.heap.size from lt_of (hs.cells 2 rfl))
      have hs4 := ((hs.newCells #[.slice ar rooms.length cr] 22).newCells #[.slice ao O.length co] 23).newCells #[.bool c] 4
      simp only [World.size_alloc] at hs4
      gi_wp2_with fail
      obtain ⟨W0, hW0⟩ : ∃ W0, W0 = ((wr.alloc (Obj.cells #[.slice ar rooms.length cr] 22)).alloc (Obj.cells #[.slice ao O.length co] 23)).alloc (Obj.cells #[.bool c] 4) := ⟨_, rfl⟩
      have hsz : W0.heap.size = wr.heap.size + 3 := by rw [hW0]; simp
      have hb03 : Below wr.heap.size wr W0 := by
        rw [hW0]; exact (((Below.refl _ wr).alloc (Nat.le_refl _) _).alloc (by simp) _).alloc (by simp; omega) _
      rw [← hW0] at hs4 ⊢
      clear hW0
      have hcc := cell_of (hs4.cells 0 rfl) 0
      have hcl := cell_of (hs4.cells 1 rfl) 0
      have hcr := cell_of (hs4.cells 2 rfl) 0
      have hrd := hs.rdWin 1 rfl
      have hBw := HBN.out.1
      have hBr := HWS.out
      have hap := hs.apart 1 2 rfl rfl (by omega)
      have hi0s := (hs4.omit 4).tail.tail.tail
      simp only [List.eraseIdx] at hi0s
      refine nameRF fun a0 ha0 => ?_
      refine wpIn_rangeFunc_ownH rfl (by decide) (gf := 45) (lb := #[.pointer (some ⟨wr.heap.size + 1, 0, none⟩), .pointer (some ⟨wr.heap.size + 2, 0, none⟩), .pointer (some ⟨wr.heap.size, 0, none⟩)]) (by rw [ha0]; rfl) trivial (enters_of Try.func45 (by kernel_rfl) rfl)
        (bedges_stops Fence.wide (6 - 1) trivial rfl rfl (by decide) (wr.heap.size + 3) (· = BN) (wr.heap.size + 1) (wr.heap.size + 2) wr.heap.size ao ar co cr O rooms c hol hn16 HMD.out (by omega) (by omega) (by omega) (by omega) (by omega) (by omega) W0 (by omega) hcl hcc hcr ?hce ?hcx) KeepX.trans (keepX_b (by omega)) (Below.refl _ _) (fun _ => rfl)
        (fun pre W => ∃ v, Sep w W [recT edR 52 v pre, intsT .u64 34 (.slice vi O.length ci) (O.map (·.id)), cellsT BN #[.int .i64 (rooms.length + 1), v] 28] ∧ (∀ k, v.ownBlock = some k → wr.heap.size + 3 ≤ k) ∧ W0.heap.size ≤ W.heap.size)
        (fun _ _ _ => False)
        (ownFrom_ex fun v => OwnFrom.and (sep_ownFrom (fun pre => [recT edR 52 v pre, intsT .u64 34 (.slice vi O.length ci) (O.map (·.id)), cellsT BN #[.int .i64 (rooms.length + 1), v] 28]) (by omega) (fun s A hA => by simp at hA; rcases hA with rfl | rfl | rfl; exact recT_cells _ _ _ _; exact intsT_cells _ _ _ _; exact cellsT_cells _ _ _)) (OwnFrom.and (ownFrom_pure _ _) (fun _ _ _ _ h hg _ => Nat.le_trans h hg.size)))
        (fun _ _ _ _ _ hs _ _ => hs)
        ⟨.slice none 0 0, hi0s.nilRecs edR _, fun k e => (by cases e), Nat.le_refl _⟩
        (fun x a1 W => ∃ Bx, wr.heap.size + 3 ≤ Bx ∧ W.heap[Bx]? = some (.cells #[.int .i64 x.f, .int .i64 x.t, .int .i64 x.c, .int .i64 x.k] 52 (0, 0)) ∧
          a1 = { tmps := (a0.tmps.setIfInBounds 39 (.agg #[.int .i64 x.f, .int .i64 x.t, .int .i64 x.c, .int .i64 x.k])).setIfInBounds 11 (.pointer (some ⟨Bx, 0, none⟩)), defers := [] })
        (fun x a1 _ X Y row hs hg hr => by obtain ⟨Bx, h1, h2, h3⟩ := hs; exact ⟨Bx, h1, cellsRow_own Bx _ (fun (_ : Unit) => _) () X Y row h2 hg (fun r e => (hr r e).2), h3⟩)
        ?assign ?body ?done ?stop
      case hce =>
        intro i hi
        obtain ⟨b, o, e, hb, hc⟩ := hrd.at i hi
        obtain ⟨S1, T1, h1, h2, h3⟩ := hap
        have hne : ¬ b = BN := by
          intro e2
          exact h3 b (by rw [h1.1, e]; rfl) (by rw [h2.1]; exact e2)
        exact ⟨b, o, e, by omega, hne, fun j hj => (hb03.cell (p := ⟨b, o + i * 7 + j, none⟩) hb).trans (hc j hj)⟩
      case hcx =>
        intro i hi
        obtain ⟨b, o, e, hb, hc⟩ := hr.at i hi
        exact ⟨b, o, e, by have := hs4.size; omega, by omega, (hs4.cell hb).trans hc⟩
      case assign =>
        rintro l pre ⟨ef, et, ec, ek⟩ W K hI hK
        dsimp only [encB]
        subst ha0
        obtain ⟨v, hs, hv, hz⟩ := hI
        gi_wp2
        exact hK _ _ ((KeepsOthers.alloc _ _).from _) (KeepX.alloc (by omega) _) ⟨v, hs.alloc _, hv, by simp; omega⟩ ⟨W.heap.size, by omega, heap_alloc_new W _, rfl⟩
      case body =>
        rintro l pre ⟨ef, et, ec, ek⟩ a1 W hl _ ⟨v, hs, hv, hz⟩ ⟨Bx, hBx, hbx, rfl⟩ hlt
        subst ha0
        have HLT := Lib.hid (show pre.length < 96 by rw [el_len] at hlt; cases c <;> simp at hlt <;> omega)
        clear hlt
        have e0 := cell_of hbx 0
        have e1 := cell_of hbx 1
        have e2 := cell_of hbx 2
        have e3 := cell_of hbx 3
        simp only [List.getElem?_toArray, List.getElem?_cons_zero, List.getElem?_cons_succ] at e0 e1 e2 e3
        have s1 := cell_of (hs.cells 2 rfl) 1
        simp only [List.getElem?_toArray, List.getElem?_cons_zero, List.getElem?_cons_succ] at s1
        have hsa := hs.alloc (.cells #[.int .i64 ef, .int .i64 et, .int .i64 ec, .int .i64 ek] 52)
        have hnb := heap_alloc_new W (.cells #[.int .i64 ef, .int .i64 et, .int .i64 ec, .int .i64 ek] 52)
        have HV := Lib.hid hv
        have HZ := Lib.hid (show wr.heap.size + 3 ≤ W.heap.size ∧ W0.heap.size ≤ W.heap.size by omega)
        clear hs hv hz hbx hl hsz
        gi_wp2_with (gi_at_builtin; refine wpListIn_appRecB edR rfl (.tmp 41) (.tmp 43) 26 rfl 52 i0 _ 32 Try.underlying26 hi0 hz0 hz1 hz2 rfl v pre ⟨ef, et, ec, ek⟩ hsa 0 rfl W.heap.size _ rfl hnb rfl rfl ?d3 ?d4 ?grow2)
        case d3 => have := HLT.out; unfold maxLen; omega
        case d4 => have := HLT.out; omega
        case grow2 =>
          intro v' w7 hs5 hsh hok
          obtain ⟨g, cap, rfl⟩ := hsh.out
          (try simp only [List.set_cons_zero] at hs5)
          clear hsa hnb e0 e1 e2 e3 s1
          have s1 := cell_of (hs5.cells 2 rfl) 1
          simp only [List.getElem?_toArray, List.getElem?_cons_zero, List.getElem?_cons_succ] at s1
          have qf := fun j => frozen_of (hs5.cells 2 rfl) j
          gi_wp2
          have hs6 := hs5.setC 2 rfl 1 (.slice (some ⟨g, 0, none⟩) (pre.length + 1) cap) #[.int .i64 (rooms.length + 1), .slice (some ⟨g, 0, none⟩) (pre.length + 1) cap] rfl
          simp only [List.set_cons_succ, List.set_cons_zero] at hs6
          have hsz7 := hok.out.fr.size
          rw [World.size_alloc] at hsz7
          refine ⟨(((KeepsOthers.alloc _ _).trans hok.out.keep).trans (KeepsOthers.setCell _ _ _)).from _, ((KeepX.alloc HZ.out.1 _).trans (KeepX.app hok.out (by rw [World.size_alloc]; have := HZ.out; omega) HV.out)).trans (KeepX.setCell _ ⟨BN, 1, none⟩ _ rfl), _, hs6, fun k e => ?_, by have := HZ.out; simp only [World.setCell, Array.size_modify] at *; omega⟩
          rcases hok.out.block k e with h1 | h1
          · exact HV.out k h1
          · rw [World.size_alloc] at h1; have := HZ.out; omega
      case done =>
        rintro D xs W hD hS ⟨v, hs, hv, hz⟩ hK
        subst ha0
        have HS := Lib.hid hS
        clear hS hv
        obtain ⟨ae, ce, rfl⟩ := (hs.rdRecs 0 rfl).shape
        have s0 := cell_of (hs.cells 2 rfl) 0
        have s1 := cell_of (hs.cells 2 rfl) 1
        simp only [List.getElem?_toArray, List.getElem?_cons_zero, List.getElem?_cons_succ] at s0 s1
        have qf := fun j => frozen_of (hs.cells 2 rfl) j
        have hs6 := (hs.setC 2 rfl 0 (.int .i64 (rooms.length + 1)) #[.int .i64 (rooms.length + 1), .slice ae xs.length ce] rfl).setC 2 rfl 1 (.slice ae xs.length ce) #[.int .i64 (rooms.length + 1), .slice ae xs.length ce] rfl
        simp only [List.set_cons_succ, List.set_cons_zero] at hs6
        gi_wp2
        clear s0 s1 qf
        have hK' : ((W.setCell ⟨BN, 0, none⟩ (.int .i64 (rooms.length + 1))).setCell ⟨BN, 1, none⟩ (.slice ae xs.length ce)).heap[D]? = some (.deferred (some [])) :=
          (((KeepsOthers.setCell W ⟨BN, 0, none⟩ (.int .i64 (rooms.length + 1))).trans (KeepsOthers.setCell _ ⟨BN, 1, none⟩ (.slice ae xs.length ce))).same D _ hK rfl)
        generalize (W.setCell ⟨BN, 0, none⟩ (.int .i64 (rooms.length + 1))).setCell ⟨BN, 1, none⟩ (.slice ae xs.length ce) = W9 at hs6 hK' ⊢
        refine ⟨by simp, .inl ⟨_, _, rfl, run_takeDeferred hK', ?_⟩⟩
        have hs7 := hs6.turned (fun A hA => by simp at hA; rcases hA with rfl | rfl | rfl; exact recT_cells _ _ _ _; exact intsT_cells _ _ _ _; exact cellsT_cells _ _ _) (grownBy_putObj' _ D (.deferred none)) (fun r e => by cases e; exact ⟨by have := hs4.size; omega, _, hK', rfl⟩)
        have z0 := cell_of (hs7.cells 2 rfl) 0
        have z1 := cell_of (hs7.cells 2 rfl) 1
        simp only [List.getElem?_toArray, List.getElem?_cons_zero, List.getElem?_cons_succ] at z0 z1
        generalize W9.putObj D (.deferred none) = W8 at hs7 z0 z1 ⊢
        exact ⟨.tuple #[.agg #[.int .i64 (rooms.length + 1), .slice ae xs.length ce], .slice vi O.length ci, .int .i64 0], by simp [results, Try.results8, go_sem, z0, z1],
          .inr ⟨HRT.out, _, _, rfl, by rw [← el_open, ← HO.out, ← HS.out]; exact hs7.takeN 2⟩⟩
      case stop =>
        rintro D c pre W _ _ h _
        exact h.elim
end Go.Proofs.Ytlbpkfjebaelpaa
