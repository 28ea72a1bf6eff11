/-
  The reference's Round, walked.
-/
import Derived.Test.YtlbpkfjebaelpaaBW9
import Derived.Test.YtlbpkfjebaelpaaMix2
import Derived.Test.YtlbpkfjebaelpaaSeq
namespace Go.BuildP
open Go Go.RowKit Go.Mem Go.MoneyP Go.NetP
/-- The edges of the hub, of the first k banks. -/
def hubL (rooms : List Int) (k : Nat) : List Ed := (List.range k).flatMap (hubE rooms)
theorem hub_succ (rooms : List Int) (k : Nat) : hubL rooms (k + 1) = hubL rooms k ++ [⟨rooms.length, k, rooms.getD k 0, 0⟩, ⟨k, rooms.length, 4503599627370496, 0⟩] := by
  unfold hubL
  rw [List.range_succ, List.flatMap_append]
  rfl
theorem hub_len (rooms : List Int) : ∀ k, (hubL rooms k).length = 2 * k
  | 0 => rfl
  | k + 1 => by rw [hub_succ, List.length_append, hub_len rooms k]; simp; omega
theorem edges_eq (rooms : List Int) (l : List Du) (c : Bool) : edgesL rooms l c = (openL l).map dueE ++ if c then [] else hubL rooms rooms.length := rfl
theorem due_step {O : List Du} {i : Nat} (hi : i < O.length) : (O.take (i + 1)).map dueE = (O.take i).map dueE ++ [dueE O[i]] ∧ (O.take (i + 1)).map (·.id) = (O.take i).map (·.id) ++ [(O[i]).id] := by
  rw [List.take_succ_eq_append_getElem hi, List.map_append, List.map_append]
  exact ⟨rfl, rfl⟩
end Go.BuildP
namespace Go.Proofs.Ytlbpkfjebaelpaa
open Go Go.RowKit Go.Mem Go.MoneyP Go.NetP Go.BuildP
theorem Try.infoEdb : (Try.prog.info? 52).map (fun i => (i.zero, i.size, i.bytes)) = some (some (.agg #[.int .i64 0, .int .i64 0, .int .i64 0, .int .i64 0]), 4, 32) := by kernel_rfl
theorem Try.infoU64b : (Try.prog.info? 34).map (fun i => (i.zero, i.size, i.bytes)) = some (some (.int .u64 0), 1, 8) := by kernel_rfl
/-- What Round answers. -/
def RoundP (rooms : List Int) (l : List Du) (c : Bool) (w : World) (en : Ending) (w' : World) : Prop :=
  (rightR rooms l = false ∧ en = .returned (.tuple #[.agg #[.int .i64 0, .slice none 0 0], .slice none 0 0, .int .i64 1]) ∧ Below w.heap.size w w') ∨
  (rightR rooms l = true ∧ ∃ ve vi, en = .returned (.tuple #[.agg #[.int .i64 (rooms.length + 1), ve], vi, .int .i64 0]) ∧ Sep w w' [recT edR 52 ve (edgesL rooms l c), intsT .u64 34 vi ((openL l).map (·.id))])
theorem Sep.swap01 {w0 w : World} {A B : Thing} (h : Sep w0 w [A, B]) : Sep w0 w [B, A] := by
  obtain ⟨Ss, hl, ha, p⟩ := h
  match Ss, hl with
  | [S, T], _ =>
    refine ⟨[T, S], rfl, fun i C U hC hU => ?_, fun i j C D hC hD hne => ?_, fun i C hC => ?_, p.below⟩
    · match i, hC, hU with
      | 0, hC, hU => exact ha 1 C U hC hU
      | 1, hC, hU => exact ha 0 C U hC hU
    · match i, j, hC, hD with
      | 0, 0, _, _ => exact absurd rfl hne
      | 1, 1, _, _ => exact absurd rfl hne
      | 0, 1, hC, hD => exact p.dis 1 0 C D hC hD (by omega)
      | 1, 0, hC, hD => exact p.dis 0 1 C D hC hD (by omega)
    · match i, hC with
      | 0, hC => exact p.rng 1 C hC
      | 1, hC => exact p.rng 0 C hC
set_option maxHeartbeats 4000000 in
set_option maxRecDepth 100000 in
theorem rround_any (rooms : List Int) (l : List Du) (c : Bool) (vr vl : Value) (w : World) (hr : Rd .i64 w vr rooms) (h : RdG duR w vl l) :
    Calls Try.prog 9 #[vr, vl, .bool c] w fun en w' => RoundP rooms l c w en w' := by
  obtain ⟨i0, hi0, hz0, hz1, hz2⟩ := info_parts Try.infoEdb
  obtain ⟨j0, hj0, hy0, hy1, hy2⟩ := info_parts Try.infoU64b
  obtain ⟨ar, cr, rfl⟩ := hr.shape
  have hle := hr.le'
  have hs0 := (Sep.start w).newCells #[.int .i64 0, .slice none 0 0] 28
  have RR := Lib.hid (brright_any rooms l _ vl _ (hs0.rd hr) (hs0.rdG h))
  cases hrt : rightR rooms l
  · rw [hrt] at RR
    have HRT := Lib.hid hrt
    clear hrt
    go_enter Try.func9, Try.ntmps9
    go_wp2_with fail
    refine (RR.out).mono ?_
    rintro en w2 ⟨rfl, hb⟩
    replace hs0 := hs0.belowStep hb
    have q0 := cell_of (hs0.cells 0 rfl) 0
    have q1 := cell_of (hs0.cells 0 rfl) 1
    simp only [List.getElem?_toArray, List.getElem?_cons_zero, List.getElem?_cons_succ] at q0 q1
    have qf := fun j => frozen_of (hs0.cells 0 rfl) j
    go_wp2_with fail
    replace hs0 := (hs0.setC 0 rfl 0 (.int .i64 0) #[.int .i64 0, .slice none 0 0] rfl).setC 0 rfl 1 (.slice none 0 0) #[.int .i64 0, .slice none 0 0] rfl
    clear q0 q1 qf
    have q0 := cell_of (hs0.cells 0 rfl) 0
    have q1 := cell_of (hs0.cells 0 rfl) 1
    simp only [List.getElem?_toArray, List.getElem?_cons_zero, List.getElem?_cons_succ] at q0 q1
    exact bodyPost_ret (v := .tuple #[.agg #[.int .i64 0, .slice none 0 0], .slice none 0 0, .int .i64 1]) (by simp [results, Try.results9, go_sem, q0, q1]) rfl (.inl ⟨HRT.out, rfl, hs0.below⟩)
  rw [hrt] at RR
  have HRT := Lib.hid hrt
  obtain ⟨hn16, hl64, _, hmd, _⟩ := right_parts hrt
  have HMD := Lib.hid (show ∀ d ∈ openL l, MayD d from fun d hd => (hmd d (List.mem_filter.1 hd).1).1)
  clear hmd
  clear hrt
  go_enter Try.func9, Try.ntmps9
  go_wp2_with fail
  refine (RR.out).mono ?_
  rintro en w2 ⟨rfl, hb⟩
  replace hs0 := hs0.belowStep hb
  clear hb RR
  have hs1 := hs0.newCells #[.int .i64 (rooms.length + 1), .slice none 0 0] 28
  obtain ⟨BN, hBN⟩ : ∃ BN, BN = w2.heap.size := ⟨_, rfl⟩
  go_wp2_with fail
  refine (ropen_any l vl _ (hs1.rdG h) (by omega)).mono ?_
  rintro en w3 ⟨uo, rfl, k1⟩
  have hs := hs1.join k1
  simp only [List.cons_append, List.nil_append] at hs
  obtain ⟨O, hO⟩ : ∃ O, O = openL l := ⟨_, rfl⟩
  rw [← hO] at hs
  rw [← hO] at HMD
  have hol : O.length ≤ 64 := by rw [hO]; exact Nat.le_trans (open_le l) hl64
  obtain ⟨ao, co, rfl⟩ := (hs.rdRecs 0 rfl).shape
  have HO := Lib.hid hO
  rw [← hBN] at hs ⊢
  clear hO hs0 hs1 k1 hBN
  go_wp2_with fail
  refine wp_loopM [none, none, none, none, none, none, none, none, none, none, none, some 11, none, some 13, none, none, none, none, none, none, none, none, none, none, none, none, none, some 27, some 28, some 29, some 30, some 31, some 32, some 33, some 34, some 35, some 36, some 37, some 38, some 39, some 40, some 41, some 42, some 43, some 44, some 45, some 46, some 47, some 48, some 49, some 50, some 51, some 52, some 53, some 54, some 55, some 56, some 57, some 58, some 59, some 60, some 61, some 62, some 63, some 64, some 65, some 66, some 67, none, none, none, none, none, none, none, none, none, none, none, none, none, none, none, none, none, none, none, none, none, none, none, none, none, none, none] (fun (r : Nat) (f : Nat → Value) (wr : World) => (fun (vi v : Value) => ∃ (i : Nat) (ae : Option Addr) (ce : Nat), v = .int .i64 i ∧ i ≤ O.length ∧ r = O.length - i ∧ Sep w wr [intsT .u64 34 vi ((O.take i).map (·.id)), recT edR 52 (.slice ae i ce) ((O.take i).map dueE), recT duR 45 (.slice ao O.length co) O, cellsT BN #[.int .i64 (rooms.length + 1), .slice ae i ce] 28, cellsT w.heap.size #[.int .i64 0, .slice none 0 0] 28]) (f 11) (f 13)) (O.length) (by kernel_rfl) ?atStart1 ?round1
  case' atStart1 => (try dsimp only [nthV])
  case' round1 =>
    intro gk f wr l hl hrel J1 K1 hJ1 hK1
    (try simp only [mask] at hl)
    generalize f 11 = u11 at hl hrel
    generalize f 13 = u13 at hl hrel
    subst hl
    (try dsimp only at hrel)
  case atStart1 => exact ⟨0, none, 0, rfl, Nat.zero_le _, rfl, (hs.nilRecs edR _).nilInts .u64 _⟩
  case round1 =>
    clear hs
    obtain ⟨i, ae, ce, rfl, hi, rfl, hs⟩ := hrel
    by_cases hlt : i < O.length
    · obtain ⟨b1, o1, e1, hb1, hc1⟩ := (hs.drew.rdRecs 2 rfl).at i hlt
      subst e1
      have HDS := Lib.hid (due_step hlt)
      obtain ⟨x, hx⟩ : ∃ x, x = O[i] := ⟨_, rfl⟩
      rw [← hx] at hc1 HDS
      have HX := Lib.hid hx
      have hmx := HMD.out _ (List.getElem_mem hlt)
      rw [← hx] at hmx
      obtain ⟨EL, hEL⟩ : ∃ EL, EL = (O.take i).map dueE := ⟨_, rfl⟩
      obtain ⟨IL, hIL⟩ : ∃ IL, IL = (O.take i).map (·.id) := ⟨_, rfl⟩
      have HEL := Lib.hid (show EL.length = i by rw [hEL]; simp [hi])
      have HIL := Lib.hid (show IL.length = i by rw [hIL]; simp [hi])
      rw [← hEL, ← hIL] at hs HDS
      clear hx hEL hIL
      obtain ⟨id, f, t, xx, we, u, hh⟩ := x
      have x0 := hc1 0 (by decide)
      have x1 := hc1 1 (by decide)
      have x2 := hc1 2 (by decide)
      have x3 := hc1 3 (by decide)
      have x4 := hc1 4 (by decide)
      have x5 := hc1 5 (by decide)
      have x6 := hc1 6 (by decide)
      simp only [duR, Nat.add_zero, List.getElem?_cons_zero, List.getElem?_cons_succ] at x0 x1 x2 x3 x4 x5 x6
      clear hc1
      have hw0 := hmx.w0
      have hw1 := hmx.w1
      dsimp only at hw0 hw1
      clear hmx
      obtain ⟨vi', ci', rfl⟩ := (hs.rdInts 0 rfl).shape
      rw [HIL.out] at hs ⊢
      have hsa := (hs.alloc (.cells #[.int .i64 f, .int .i64 t, .int .i64 xx, .int .i64 (-we)] 52)).drew
      have n1 := cell_of (hs.cells 3 rfl) 1
      simp only [List.getElem?_toArray, List.getElem?_cons_zero, List.getElem?_cons_succ] at n1
      have hCW : (fun W : World => W.cell? ⟨BN, 1, none⟩ = some (.slice ae i ce)) wr.drew := n1
      go_wp2_with fail
      refine Mix.region2 25 [1, 1, 0, 0, 0, 0, 0, 0, 0, 0, 0, 0, 0, 0, 0, 0, 0, 0, 0, 0, 0, 0, 0, 0, 2, 2, 0, 2] (fun W : World => W.cell? ⟨BN, 1, none⟩ = some (.slice ae i ce)) (by kernel_rfl) (by kernel_rfl) hCW ?_
      simp only [List.zip_cons_cons, List.zip_nil_right, List.take_succ_cons, List.take_zero, List.drop_succ_cons, List.drop_zero]
      (refine Mix.step1 fun K hK => ?_; go_simp; (try (go_bits; try go_simp)); first | ((with_reducible refine hK _ _ ?_); clear hK K) | ((try (simp only [IntWalk.iteOmega]; try go_simp)); (try go_bits); (with_reducible refine hK _ _ ?_); clear hK K))
      (refine Mix.step1 fun K hK => ?_; go_simp; refine ⟨fun W => ?_, hK _ _ ?_⟩; (intro hW1; (try intro hW2); (try intro hW3); (try intro hW4); (try intro hW5); (try intro hW6); (try intro hW7); (try intro hW8); go_simp); clear hK K)
      iterate 22 (refine Mix.step0 fun K hK => ?_; go_simp; (try (go_bits; try go_simp)); first | ((with_reducible refine hK _ _ ?_); clear hK K) | ((try (simp only [IntWalk.iteOmega]; try go_simp)); (try go_bits); (with_reducible refine hK _ _ ?_); clear hK K))
      refine Mix.step2n (by first | rfl | simp [Region.wanted, yielded]) fun K hK => ?_
      go_wp2_with fail
      have hCW := cell_of (hsa.cells 3 rfl) 1
      refine Mix.post_mk (C := (fun W : World => W.cell? ⟨BN, 1, none⟩ = some (.slice ae i ce))) (by first | exact hCW | exact HCW.out _) (hK _ _ ?_)
      clear hK K
      refine Mix.done ?_
      refine Mix.step2n (by first | rfl | simp [Region.wanted, yielded]) fun K hK => ?_
      refine wpList_appRecB edR rfl (.tmp 34) (.tmp 57) 26 rfl 52 i0 _ 32 Try.underlying26 hi0 hz0 hz1 hz2 rfl _ EL ⟨f, t, xx, -we⟩ hsa 1 rfl wr.heap.size _ rfl (heap_alloc_new wr _) rfl rfl (by rw [HEL.out]; unfold maxLen; omega) (by rw [HEL.out]; omega) ?_
      intro v' w5 hs2 hsh
      obtain ⟨g, cap, rfl⟩ := hsh.out
      rw [HEL.out] at hs2
      rw [HEL.out]
      (try simp only [List.set_cons_succ, List.set_cons_zero] at hs2)
      clear hsa hsh hs
      have hCW := cell_of (hs2.cells 3 rfl) 1
      have qf := fun j => frozen_of (hs2.cells 3 rfl) j
      have hCW' := hCW
      simp only [List.getElem?_toArray, List.getElem?_cons_zero, List.getElem?_cons_succ] at hCW'
      go_wp2_with fail
      refine Mix.post_mk (C := (fun _ => True)) trivial (hK _ _ ?_)
      clear hK K
      iterate 1 (refine Mix.step0 fun K hK => ?_; go_simp; (try (go_bits; try go_simp)); first | ((with_reducible refine hK _ _ ?_); clear hK K) | ((try (simp only [IntWalk.iteOmega]; try go_simp)); (try go_bits); (with_reducible refine hK _ _ ?_); clear hK K))
      refine Mix.step2n (by first | rfl | simp [Region.wanted, yielded]) fun K hK => ?_
      go_wp2_with fail
      have hs3 := hs2.setCells 3 rfl 1 (.slice (some ⟨g, 0, none⟩) (i + 1) cap) #[.int .i64 (rooms.length + 1), .slice (some ⟨g, 0, none⟩) (i + 1) cap] rfl
      simp only [List.set_cons_succ, List.set_cons_zero] at hs3
      clear hs2 qf hCW' hCW n1
      refine Mix.post_mk (C := (fun _ => True)) trivial (hK _ _ ?_)
      clear hK K
      refine Mix.done ?_
      generalize w5.setCell _ _ = w6 at hs3 ⊢
      obtain ⟨b1', o1', e1', hb1', hc1⟩ := (hs3.rdRecs 2 rfl).at i hlt
      injection e1' with e1'
      injection e1' with q3 q4
      subst q3; subst q4
      rw [← HX.out] at hc1
      clear x0 x1 x2 x3 x4 x5 x6
      have x0 := hc1 0 (by decide)
      have x1 := hc1 1 (by decide)
      have x2 := hc1 2 (by decide)
      have x3 := hc1 3 (by decide)
      have x4 := hc1 4 (by decide)
      have x5 := hc1 5 (by decide)
      have x6 := hc1 6 (by decide)
      simp only [duR, Nat.add_zero, List.getElem?_cons_zero, List.getElem?_cons_succ] at x0 x1 x2 x3 x4 x5 x6
      clear hc1
      go_wp2_with (at_builtin; refine wpList_appInt rfl (.tmp 60) (.tmp 66) 29 rfl 34 j0 _ 8 Try.underlying29 hj0 hy0 hy1 hy2 rfl _ IL .u64 id hs3 0 rfl rfl rfl ?c3 ?c4 ?grow)
      case c3 => rw [HIL.out]; unfold maxLen; omega
      case c4 => rw [HIL.out]; omega
      case grow =>
        intro vl' w7 hs4 _
        (try simp only [List.set_cons_zero] at hs4)
        clear hs3 x0 x1 x2 x3 x4 x5 x6
        go_wp2_with fail
        refine Round.intro (O.length - (i + 1)) ?measure2 (by kernel_rfl) (hJ1 _ _ _ ?rel2)
        case' rel2 => (try dsimp only [nthV])
        case measure2 => omega
        case rel2 => exact ⟨i + 1, _, _, by go_num, hlt, rfl, by rw [HDS.out.1, HDS.out.2]; exact hs4⟩
    · obtain rfl : i = O.length := by omega
      rw [List.take_length] at hs
      obtain ⟨vi', ci', rfl⟩ := (hs.rdInts 0 rfl).shape
      rw [List.length_map] at hs ⊢
      cases c
      · have HE := Lib.hid (show edgesL rooms l false = O.map dueE ++ hubL rooms rooms.length by rw [edges_eq, ← HO.out]; rfl)
        go_wp2_with fail
        refine wp_loopM [none, none, none, none, none, none, none, none, none, none, none, none, none, none, some 14, none, none, none, none, none, none, none, none, none, none, none, none, none, none, none, none, none, none, none, none, none, none, none, none, none, none, none, none, none, none, none, none, none, none, none, none, none, none, none, none, none, none, none, none, none, none, none, none, none, none, none, none, none, some 68, some 69, some 70, some 71, some 72, some 73, some 74, some 75, some 76, some 77, some 78, some 79, some 80, some 81, some 82, some 83, some 84, some 85, some 86, some 87, some 88, some 89, some 90, some 91, some 92, none, none] (fun (r2 : Nat) (f : Nat → Value) (wq : World) => (fun (v : Value) => ∃ (k : Nat) (ae : Option Addr) (ce : Nat), v = .int .i64 k ∧ k ≤ rooms.length ∧ r2 = rooms.length - k ∧ Sep w wq [intsT .u64 34 (.slice vi' O.length ci') (O.map (·.id)), recT edR 52 (.slice ae (O.length + 2 * k) ce) (O.map dueE ++ hubL rooms k), recT duR 45 (.slice ao O.length co) O, cellsT BN #[.int .i64 (rooms.length + 1), .slice ae (O.length + 2 * k) ce] 28, cellsT w.heap.size #[.int .i64 0, .slice none 0 0] 28]) (f 14)) (rooms.length) (by kernel_rfl) ?atStart3 ?round3
        case' atStart3 => (try dsimp only [nthV])
        case' round3 =>
          intro gk f wr l hl hrel J2 K2 hJ2 hK2
          (try simp only [mask] at hl)
          generalize f 14 = u14 at hl hrel
          subst hl
          (try dsimp only at hrel)
        case atStart3 => exact ⟨0, ae, ce, rfl, Nat.zero_le _, rfl, by rw [Nat.mul_zero, Nat.add_zero, show hubL rooms 0 = [] from rfl, List.append_nil]; exact hs⟩
        case round3 =>
          clear hs
          obtain ⟨k, ae, ce, rfl, hk, rfl, hs⟩ := hrel
          by_cases hlk : k < rooms.length
          · obtain ⟨b2, o2, e2, hb2, hc2⟩ := ((hs.drew).rd hr).at k hlk
            subst e2
            have HHS := Lib.hid (hub_succ rooms k)
            obtain ⟨R, hR⟩ : ∃ R, R = rooms.getD k 0 := ⟨_, rfl⟩
            rw [← hR] at hc2 HHS
            obtain ⟨EL, hEL⟩ : ∃ EL, EL = O.map dueE ++ hubL rooms k := ⟨_, rfl⟩
            have HEL := Lib.hid (show EL.length = O.length + 2 * k by rw [hEL, List.length_append, List.length_map, hub_len])
            have HEN := Lib.hid (show O.map dueE ++ hubL rooms (k + 1) = EL ++ [⟨rooms.length, k, R, 0⟩, ⟨k, rooms.length, 4503599627370496, 0⟩] by rw [HHS.out, hEL, List.append_assoc])
            rw [← hEL] at hs
            clear hR hEL HHS
            have hsa := (hs.alloc (.cells #[.int .i64 rooms.length, .int .i64 k, .int .i64 R, .int .i64 0, .int .i64 k, .int .i64 rooms.length, .int .i64 4503599627370496, .int .i64 0] 52)).drew
            have n1 := cell_of (hs.cells 3 rfl) 1
            simp only [List.getElem?_toArray, List.getElem?_cons_zero, List.getElem?_cons_succ] at n1
            have hCW : (fun W : World => W.cell? ⟨BN, 1, none⟩ = some (.slice ae (O.length + 2 * k) ce)) wr.drew := n1
            have HRD := Lib.hid (show RdG edR (wr.alloc (.cells #[.int .i64 rooms.length, .int .i64 k, .int .i64 R, .int .i64 0, .int .i64 k, .int .i64 rooms.length, .int .i64 4503599627370496, .int .i64 0] 52)).drew (.slice (some ⟨wr.heap.size, 0, none⟩) 2 2) [(⟨rooms.length, k, R, 0⟩ : Ed), ⟨k, rooms.length, 4503599627370496, 0⟩] from RdG.ofCells (R := edR) (w := (wr.alloc (.cells #[.int .i64 rooms.length, .int .i64 k, .int .i64 R, .int .i64 0, .int .i64 k, .int .i64 rooms.length, .int .i64 4503599627370496, .int .i64 0] 52)).drew) [(⟨rooms.length, k, R, 0⟩ : Ed), ⟨k, rooms.length, 4503599627370496, 0⟩] (heap_alloc_new wr _) 2 (by simp [maxLen]))
            go_wp2_with fail
            refine Mix.region2 13 [1, 1, 0, 0, 0, 0, 0, 0, 0, 0, 0, 0, 2, 2, 0, 2] (fun W : World => W.cell? ⟨BN, 1, none⟩ = some (.slice ae (O.length + 2 * k) ce)) (by kernel_rfl) (by kernel_rfl) hCW ?_
            simp only [List.zip_cons_cons, List.zip_nil_right, List.take_succ_cons, List.take_zero, List.drop_succ_cons, List.drop_zero]
            (refine Mix.step1 fun K hK => ?_; go_simp; (try (go_bits; try go_simp)); first | ((with_reducible refine hK _ _ ?_); clear hK K) | ((try (simp only [IntWalk.iteOmega]; try go_simp)); (try go_bits); (with_reducible refine hK _ _ ?_); clear hK K))
            (refine Mix.step1 fun K hK => ?_; go_simp; refine ⟨fun W => ?_, hK _ _ ?_⟩; (intro hW1; (try intro hW2); (try intro hW3); (try intro hW4); (try intro hW5); (try intro hW6); (try intro hW7); (try intro hW8); go_simp); clear hK K)
            iterate 10 (refine Mix.step0 fun K hK => ?_; go_simp; (try (go_bits; try go_simp)); first | ((with_reducible refine hK _ _ ?_); clear hK K) | ((try (simp only [IntWalk.iteOmega]; try go_simp)); (try go_bits); (with_reducible refine hK _ _ ?_); clear hK K))
            refine Mix.step2n (by first | rfl | simp [Region.wanted, yielded]) fun K hK => ?_
            go_wp2_with fail
            have hCW := cell_of (hsa.cells 3 rfl) 1
            refine Mix.post_mk (C := (fun W : World => W.cell? ⟨BN, 1, none⟩ = some (.slice ae (O.length + 2 * k) ce))) (by first | exact hCW | exact HCW.out _) (hK _ _ ?_)
            clear hK K
            refine Mix.done ?_
            refine Mix.step2n (by first | rfl | simp [Region.wanted, yielded]) fun K hK => ?_
            refine wpList_appRdG edR rfl (.tmp 79) (.tmp 90) 26 rfl 52 i0 _ 32 Try.underlying26 hi0 hz0 hz1 hz2 rfl _ EL _ _ hsa 1 rfl HRD.out rfl rfl (by rw [HEL.out]; simp only [List.length_cons, List.length_nil]; unfold maxLen; omega) (by rw [HEL.out]; simp only [List.length_cons, List.length_nil]; omega) ?_
            intro v' w5 hs2
            rw [← HEN.out] at hs2
            (try simp only [List.set_cons_succ, List.set_cons_zero] at hs2)
            obtain ⟨ag, cap, rfl⟩ := (hs2.rdRecs 1 rfl).shape
            rw [show (O.map dueE ++ hubL rooms (k + 1)).length = O.length + 2 * (k + 1) by rw [List.length_append, List.length_map, hub_len]] at hs2 ⊢
            clear hsa hs HRD
            have hCW := cell_of (hs2.cells 3 rfl) 1
            have qf := fun j => frozen_of (hs2.cells 3 rfl) j
            have hCW' := hCW
            simp only [List.getElem?_toArray, List.getElem?_cons_zero, List.getElem?_cons_succ] at hCW'
            go_wp2_with fail
            refine Mix.post_mk (C := (fun _ => True)) trivial (hK _ _ ?_)
            clear hK K
            iterate 1 (refine Mix.step0 fun K hK => ?_; go_simp; (try (go_bits; try go_simp)); first | ((with_reducible refine hK _ _ ?_); clear hK K) | ((try (simp only [IntWalk.iteOmega]; try go_simp)); (try go_bits); (with_reducible refine hK _ _ ?_); clear hK K))
            refine Mix.step2n (by first | rfl | simp [Region.wanted, yielded]) fun K hK => ?_
            go_wp2_with fail
            have hs3 := hs2.setCells 3 rfl 1 (.slice ag (O.length + 2 * (k + 1)) cap) #[.int .i64 (rooms.length + 1), .slice ag (O.length + 2 * (k + 1)) cap] rfl
            simp only [List.set_cons_succ, List.set_cons_zero] at hs3
            clear hs2 qf hCW' hCW n1
            refine Mix.post_mk (C := (fun _ => True)) trivial (hK _ _ ?_)
            clear hK K
            refine Mix.done ?_
            go_wp2_with fail
            refine Round.intro (rooms.length - (k + 1)) ?measure4 (by kernel_rfl) (hJ2 _ _ _ ?rel4)
            case' rel4 => (try dsimp only [nthV])
            case measure4 => omega
            case rel4 => exact ⟨k + 1, ag, cap, by go_num, hlk, rfl, hs3⟩
          · obtain rfl : k = rooms.length := by omega
            have q0 := cell_of (hs.cells 3 rfl) 0
            have q1 := cell_of (hs.cells 3 rfl) 1
            have z0 := cell_of (hs.cells 4 rfl) 0
            have z1 := cell_of (hs.cells 4 rfl) 1
            simp only [List.getElem?_toArray, List.getElem?_cons_zero, List.getElem?_cons_succ] at q0 q1 z0 z1
            have qf := fun j => frozen_of (hs.cells 4 rfl) j
            go_wp2_with fail
            replace hs := (hs.setC 4 rfl 0 (.int .i64 (rooms.length + 1)) #[.int .i64 (rooms.length + 1), .slice none 0 0] rfl).setC 4 rfl 1 (.slice ae (O.length + 2 * rooms.length) ce) #[.int .i64 (rooms.length + 1), .slice ae (O.length + 2 * rooms.length) ce] rfl
            simp only [List.set_cons_succ, List.set_cons_zero] at hs
            clear q0 q1 z0 z1 qf
            have z0 := cell_of (hs.cells 4 rfl) 0
            have z1 := cell_of (hs.cells 4 rfl) 1
            simp only [List.getElem?_toArray, List.getElem?_cons_zero, List.getElem?_cons_succ] at z0 z1
            exact bodyPost_ret (v := .tuple #[.agg #[.int .i64 (rooms.length + 1), .slice ae (O.length + 2 * rooms.length) ce], .slice vi' O.length ci', .int .i64 0]) (by simp [results, Try.results9, go_sem, z0, z1]) rfl (.inr ⟨HRT.out, _, _, rfl, by rw [HE.out, ← HO.out]; exact Sep.swap01 (hs.takeN 2)⟩)
      · have HE := Lib.hid (show edgesL rooms l true = O.map dueE by rw [edges_eq, ← HO.out]; exact List.append_nil _)
        go_wp2_with fail
        refine wp_loopM [none, none, none, none, none, none, none, none, none, none, none, none, none, none, some 14, none, none, none, none, none, none, none, none, none, none, none, none, none, none, none, none, none, none, none, none, none, none, none, none, none, none, none, none, none, none, none, none, none, none, none, none, none, none, none, none, none, none, none, none, none, none, none, none, none, none, none, none, none, some 68, some 69, some 70, some 71, some 72, some 73, some 74, some 75, some 76, some 77, some 78, some 79, some 80, some 81, some 82, some 83, some 84, some 85, some 86, some 87, some 88, some 89, some 90, some 91, some 92, none, none] (fun (r2 : Nat) (f : Nat → Value) (wq : World) => (fun (v : Value) => v = .int .i64 0 ∧ Sep w wq [intsT .u64 34 (.slice vi' O.length ci') (O.map (·.id)), recT edR 52 (.slice ae O.length ce) (O.map dueE), recT duR 45 (.slice ao O.length co) O, cellsT BN #[.int .i64 (rooms.length + 1), .slice ae O.length ce] 28, cellsT w.heap.size #[.int .i64 0, .slice none 0 0] 28]) (f 14)) (0) (by kernel_rfl) ?atStart5 ?round5
        case' atStart5 => (try dsimp only [nthV])
        case' round5 =>
          intro gk f wr l hl hrel J2 K2 hJ2 hK2
          (try simp only [mask] at hl)
          generalize f 14 = u14 at hl hrel
          subst hl
          (try dsimp only at hrel)
        case atStart5 => exact ⟨rfl, hs⟩
        case round5 =>
          clear hs
          obtain ⟨rfl, hs⟩ := hrel
          by_cases hr0 : 0 < rooms.length
          · have e1 : decide ((0 : Int) < (rooms.length : Int)) = true := decide_eq_true (by omega)
            have q0 := cell_of (hs.cells 3 rfl) 0
            have q1 := cell_of (hs.cells 3 rfl) 1
            have z0 := cell_of (hs.cells 4 rfl) 0
            have z1 := cell_of (hs.cells 4 rfl) 1
            simp only [List.getElem?_toArray, List.getElem?_cons_zero, List.getElem?_cons_succ] at q0 q1 z0 z1
            have qf := fun j => frozen_of (hs.cells 4 rfl) j
            go_wp2_with fail
            replace hs := (hs.setC 4 rfl 0 (.int .i64 (rooms.length + 1)) #[.int .i64 (rooms.length + 1), .slice none 0 0] rfl).setC 4 rfl 1 (.slice ae O.length ce) #[.int .i64 (rooms.length + 1), .slice ae O.length ce] rfl
            simp only [List.set_cons_succ, List.set_cons_zero] at hs
            clear q0 q1 z0 z1 qf
            have z0 := cell_of (hs.cells 4 rfl) 0
            have z1 := cell_of (hs.cells 4 rfl) 1
            simp only [List.getElem?_toArray, List.getElem?_cons_zero, List.getElem?_cons_succ] at z0 z1
            exact bodyPost_ret (v := .tuple #[.agg #[.int .i64 (rooms.length + 1), .slice ae O.length ce], .slice vi' O.length ci', .int .i64 0]) (by simp [results, Try.results9, go_sem, z0, z1]) rfl (.inr ⟨HRT.out, _, _, rfl, by rw [HE.out, ← HO.out]; exact Sep.swap01 (hs.takeN 2)⟩)
          · have e1 : decide ((0 : Int) < (rooms.length : Int)) = false := decide_eq_false (by omega)
            have q0 := cell_of (hs.cells 3 rfl) 0
            have q1 := cell_of (hs.cells 3 rfl) 1
            have z0 := cell_of (hs.cells 4 rfl) 0
            have z1 := cell_of (hs.cells 4 rfl) 1
            simp only [List.getElem?_toArray, List.getElem?_cons_zero, List.getElem?_cons_succ] at q0 q1 z0 z1
            have qf := fun j => frozen_of (hs.cells 4 rfl) j
            go_wp2_with fail
            replace hs := (hs.setC 4 rfl 0 (.int .i64 (rooms.length + 1)) #[.int .i64 (rooms.length + 1), .slice none 0 0] rfl).setC 4 rfl 1 (.slice ae O.length ce) #[.int .i64 (rooms.length + 1), .slice ae O.length ce] rfl
            simp only [List.set_cons_succ, List.set_cons_zero] at hs
            clear q0 q1 z0 z1 qf
            have z0 := cell_of (hs.cells 4 rfl) 0
            have z1 := cell_of (hs.cells 4 rfl) 1
            simp only [List.getElem?_toArray, List.getElem?_cons_zero, List.getElem?_cons_succ] at z0 z1
            exact bodyPost_ret (v := .tuple #[.agg #[.int .i64 (rooms.length + 1), .slice ae O.length ce], .slice vi' O.length ci', .int .i64 0]) (by simp [results, Try.results9, go_sem, z0, z1]) rfl (.inr ⟨HRT.out, _, _, rfl, by rw [HE.out, ← HO.out]; exact Sep.swap01 (hs.takeN 2)⟩)
end Go.Proofs.Ytlbpkfjebaelpaa
