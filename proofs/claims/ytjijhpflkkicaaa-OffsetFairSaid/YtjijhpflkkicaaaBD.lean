/-
 Package build: Round, walked.
-/
import Derived.Test.YtjijhpflkkicaaaBC
import Derived.Test.YtjijhpflkkicaaaLB
import Derived.Test.YtjijhpflkkicaaaLA
import Derived.RangeFuncNested
import Derived.RangeFuncBound
import Derived.RangeFuncCalls
import Derived.RangeFuncLeaves
import Derived.Shelf.Abstract
import Derived.Shelf.RegionOpen
import Derived.WalkKit
import Derived.OwnWalkIn
import Derived.TacticsInMore
import Derived.LoopNIn
import Derived.LoopIn
import Derived.Stop.RegionWithIn
import Derived.Test.YtjijhpflkkicaaaBB
import Derived.Test.YtjijhpflkkicaaaBA
set_option linter.unusedVariables false
set_option linter.unusedSimpArgs false
namespace Go.BuildP
open Go Go.RowKit Go.Mem Go.MoneyP Go.NetP
/-- The edges of the hub, of the first k banks. -/
def hubL (rooms : List Int) (k : Nat) : List Ed := (List.range k).flatMap (hubE rooms)
theorem hub_succ (rooms : List Int) (k : Nat) : hubL rooms (k + 1) = hubL rooms k ++ [⟨rooms.length, k, rooms.getD k 0, 0⟩, ⟨k, rooms.length, 4503599627370496, 0⟩] := by
 unfold hubL
 rw [List.range_succ, List.flatMap_append]
 rfl
theorem hub_len (rooms : List Int) : ∀ k, (hubL rooms k).length = 2 * k
 | 0 => rfl
 | k + 1 => by rw [hub_succ, List.length_append, hub_len rooms k]; simp; omega
theorem edges_eq (rooms : List Int) (l : List Du) (c : Bool) : edgesL rooms l c = (openL l).map dueE ++ if c then [] else hubL rooms rooms.length := rfl
theorem due_step {O : List Du} {i : Nat} (hi : i < O.length) : (O.take (i + 1)).map dueE = (O.take i).map dueE ++ [dueE O[i]] ∧ (O.take (i + 1)).map (·.id) = (O.take i).map (·.id) ++ [(O[i]).id] := by
 rw [List.take_succ_eq_append_getElem hi, List.map_append, List.map_append]
 exact ⟨rfl, rfl⟩
end Go.BuildP
namespace Go.Proofs.Ytjijhpflkkicaaa
open Go Go.RowKit Go.Mem Go.MoneyP Go.NetP Go.BuildP
theorem Try.infoEdb : (Try.prog.info? 77).map (fun i => (i.zero, i.size, i.bytes)) = some (some (.agg #[.int .i64 0, .int .i64 0, .int .i64 0, .int .i64 0]), 4, 32) := by kernel_rfl
theorem Try.infoU64b : (Try.prog.info? 42).map (fun i => (i.zero, i.size, i.bytes)) = some (some (.int .u64 0), 1, 8) := by kernel_rfl
/-- What Round answers. -/
def RoundP (rooms : List Int) (l : List Du) (c : Bool) (w : World) (en : Ending) (w' : World) : Prop :=
 (rightR rooms l = false ∧ en = .returned (.tuple #[.agg #[.int .i64 0, .slice none 0 0], .slice none 0 0, .int .i64 1]) ∧ Below w.heap.size w w') ∨
 (rightR rooms l = true ∧ ∃ ve vi, en = .returned (.tuple #[.agg #[.int .i64 (rooms.length + 1), ve], vi, .int .i64 0]) ∧ Sep w w' [recT edR 77 ve (edgesL rooms l c), intsT .u64 42 vi ((openL l).map (·.id))])
end Go.Proofs.Ytjijhpflkkicaaa
namespace Go.Proofs.Ytjijhpflkkicaaa
open Go Go.RowKit Go.Mem Go.MoneyP Go.NetP Go.BuildP Go.Shelf

attribute [local go_sem] Oper.semAt_some

/-- The edges of a round whose open dues are these. -/
def EL (O : List Du) (rooms : List Int) (c : Bool) : List Ed := O.map dueE ++ if c then [] else hubL rooms rooms.length
theorem el_open (rooms : List Int) (l : List Du) (c : Bool) : EL (openL l) rooms c = edgesL rooms l c := (edges_eq rooms l c).symm
theorem el_len (O : List Du) (rooms : List Int) (c : Bool) : (EL O rooms c).length = O.length + if c then 0 else 2 * rooms.length := by
 unfold EL
 cases c <;> simp [hub_len]
def encB (x : Ed) : Array Value := #[.agg #[.int .i64 x.f, .int .i64 x.t, .int .i64 x.c, .int .i64 x.k]]
/-- A round's two ways out, under one name. -/
def OutB (J Jx : List Ed → World → Prop) (N : Nat) (S : Nat → Prop) (p : List Ed) (W : World) (b : Bool) (W' : World) : Prop := (b = true ∧ J p W' ∧ KeepX N S W W') ∨ (b = false ∧ Jx p W')

set_option maxRecDepth 100000 in
set_option maxHeartbeats 3000000 in
theorem bedges1_in (F : Fence) (n : Nat) (hf : F.fn 57) (hdep : F.depth = none) (hro : F.round = none) (hn : 1 ≤ n) (l N : Nat) (S : Nat → Prop) (Bl Bc Br : Nat) (ao ar : Option Addr) (co cr : Nat) (O : List Du) (rooms : List Int) (c : Bool) (hsm : O.length ≤ 64) (hrm : rooms.length ≤ 16) (hmd : ∀ d ∈ O, MayD d)
  (hBl : Bl < N) (hSl : ¬ S Bl) (hBc : Bc < N) (hSc : ¬ S Bc) (hBr : Br < N) (hSr : ¬ S Br) (J Jx : List Ed → World → Prop) (W : World) (hN : N ≤ W.heap.size)
  (hJa : ∀ pre W1 (o : Obj), W.heap.size ≤ W1.heap.size → J pre W1 → J pre (W1.alloc o))
  (hY : ∀ pre x W1, J pre W1 → pre.length < (EL O rooms c).length → YieldAt F (n - 1) Try.prog l (encB x) W1 fun e W' =>
   (e = .returned (.bool true) ∧ J (pre ++ [x]) W' ∧ KeepX N S W1 W') ∨ (e = .returned (.bool false) ∧ Jx (pre ++ [x]) W'))
  (cl : W.cell? ⟨Bl, 0, none⟩ = some (.slice ao O.length co)) (cc : W.cell? ⟨Bc, 0, none⟩ = some (.bool c)) (crr : W.cell? ⟨Br, 0, none⟩ = some (.slice ar rooms.length cr))
  (ce : ∀ (i : Nat) (hi : i < O.length), ∃ b o, ao = some ⟨b, o, none⟩ ∧ b < N ∧ ¬ S b ∧ ∀ (j : Nat), j < 7 → W.cell? ⟨b, o + i * 7 + j, none⟩ = (duR.cells O[i])[j]?) (cx : ∀ i, i < rooms.length → ∃ b o, ar = some ⟨b, o, none⟩ ∧ b < N ∧ ¬ S b ∧ W.cell? ⟨b, o + i, none⟩ = some (.int .i64 (rooms.getD i 0))) (h0 : J [] W) :
  CallsIn F n Try.prog 57 #[.func (.yield l) #[] #[], .pointer (some ⟨Bl, 0, none⟩), .pointer (some ⟨Bc, 0, none⟩), .pointer (some ⟨Br, 0, none⟩)] W fun e W' => (∃ v, e = .returned v) ∧
   (J (EL O rooms c) W' ∨ ∃ p, Jx p W') := by
 refine callsIn_of_wp Try.func57 rfl hf ?_ hro
 simp only [Try.ntmps57, List.size_toArray, List.length_cons, List.length_nil, Nat.reduceAdd, Nat.reduceSub, Array.replicate_succ, Array.replicate_zero, List.push_toArray, List.append_toArray, List.nil_append, List.cons_append]
 have CE := Lib.hid ce
 have CX := Lib.hid cx
 have HY := Lib.hid hY
 have HJA := Lib.hid hJa
 have H0 := Lib.hid h0
 have HMD := Lib.hid hmd
 have HCC := Lib.hid cc
 have HCR := Lib.hid crr
 have HEL := Lib.hid (el_len O rooms c)
 clear ce cx hY hJa h0 hmd cc crr
 gi_wp2
 gi_loopw [12] (fun i wr => ∃ k : Nat, k ≤ O.length ∧ i = .int .i64 k ∧ J ((O.take k).map dueE) wr ∧ KeepX N S W wr) (fun i _ => O.length - (intOf i).toNat)
 case atStart => exact ⟨0, Nat.zero_le _, rfl, H0.out, KeepX.refl _ _ _⟩
 case round =>
  obtain ⟨k, hk, rfl, hJs, hkx⟩ := hrel
  have HK := Lib.hid hkx
  have HJ := Lib.hid hJs
  clear hJs hkx cl
  by_cases hlt : k < O.length
  ·obtain ⟨b1, o1, rfl, hb1, hS1, ce⟩ := CE.out k hlt
   have hc1 := fun j hj => (HK.out.cell (o := o1 + k * 7 + j) hb1 hS1).trans (ce j hj)
   have HDS := Lib.hid (due_step hlt).1
   have HL2 := Lib.hid (show ((O.take k).map dueE).length < (EL O rooms c).length by rw [HEL.out, List.length_map, List.length_take]; omega)
   have hm := HMD.out _ (List.getElem_mem hlt)
   obtain ⟨x, hx⟩ : ∃ x, x = O[k] := ⟨_, rfl⟩
   rw [← hx] at hc1 HDS hm
   clear ce hx
   obtain ⟨id, f, t, xx, we, u, hh⟩ := x
   have hw0 := hm.w0
   have hw1 := hm.w1
   dsimp only at hw0 hw1
   have x0 := hc1 0 (by decide)
   have x1 := hc1 1 (by decide)
   have x2 := hc1 2 (by decide)
   have x3 := hc1 3 (by decide)
   have x4 := hc1 4 (by decide)
   have x5 := hc1 5 (by decide)
   have x6 := hc1 6 (by decide)
   simp only [duR, Nat.add_zero, List.getElem?_cons_zero, List.getElem?_cons_succ] at x0 x1 x2 x3 x4 x5 x6
   clear hc1
   clear hm
   have hJA := HJA.out _ _ (.cells #[.int .u64 id, .int .i64 f, .int .i64 t, .int .i64 xx, .int .i64 we, .int .i64 u, .bool hh] 44) HK.out.1 HJ.out
   obtain ⟨fn, tmps, assign, body, hy, hR⟩ := HY.out _ ⟨f, t, xx, -we⟩ _ hJA HL2.out
   have hR' := hR.mono (R' := fun en W' => ∃ b, en = .returned (.bool b) ∧ OutB J Jx N S ((O.take k).map dueE ++ [⟨f, t, xx, -we⟩]) (wr.alloc (.cells #[.int .u64 id, .int .i64 f, .int .i64 t, .int .i64 xx, .int .i64 we, .int .i64 u, .bool hh] 44)) b W')
    (fun en W' h => by
     rcases h with ⟨h1, h2, h3⟩ | ⟨h1, h2⟩
     ·exact ⟨true, h1, .inl ⟨rfl, h2, h3⟩⟩
     ·exact ⟨false, h1, .inr ⟨rfl, h2⟩⟩)
   dsimp only [encB] at hy
   have HR' := Lib.hid hR'
   clear hR hR' hJA
   gi_wp2_with fail
   refine HR'.out.mono ?_
   rintro en W3 ⟨b, rfl, h3⟩
   rcases h3 with ⟨rfl, hJ3, hk3⟩ | ⟨rfl, hJx3⟩
   ·gi_wp2
    go_roundw
    case rel => exact ⟨k + 1, hlt, by go_num, by rw [HDS.out]; exact hJ3, (HK.out.trans (KeepX.alloc (Nat.le_trans hN HK.out.1) _)).trans hk3⟩
    case measure => simp [intOf]; omega
   ·gi_wp2
    (repeat rw [Exit.noGoto_ret]); refine bodyPost_ret (results_none rfl _ _ _) rfl ?_
    exact ⟨⟨_, rfl⟩, .inr ⟨_, hJx3⟩⟩
  ·obtain rfl : k = O.length := by omega
   have hcc := (HK.out.cell (o := 0) hBc hSc).trans HCC.out
   have hcr := (HK.out.cell (o := 0) hBr hSr).trans HCR.out
   rw [List.take_length] at HJ
   cases c
   ·gi_wp2
    gi_loopw [35] (fun i wq => ∃ k : Nat, k ≤ rooms.length ∧ i = .int .i64 k ∧ J (O.map dueE ++ hubL rooms k) wq ∧ KeepX N S W wq) (fun i _ => rooms.length - (intOf i).toNat)
    case atStart => exact ⟨0, Nat.zero_le _, rfl, by rw [show hubL rooms 0 = [] from rfl, List.append_nil]; exact HJ.out, HK.out⟩
    case round =>
     clear hcc hcr HJ HK
     obtain ⟨k, hk, rfl, hJs, hkx⟩ := hrel
     have HK := Lib.hid hkx
     have HJ := Lib.hid hJs
     clear hJs hkx
     by_cases hlk : k < rooms.length
     ·obtain ⟨b2, o2, rfl, hb2, hS2, cx⟩ := CX.out k hlk
      have x0 := (HK.out.cell (o := o2 + k) hb2 hS2).trans cx
      have HHS := Lib.hid (hub_succ rooms k)
      obtain ⟨R, hR⟩ : ∃ R, R = rooms.getD k 0 := ⟨_, rfl⟩
      rw [← hR] at x0 HHS
      clear cx hR
      have hl1 : (O.map dueE ++ hubL rooms k).length < (EL O rooms false).length := by rw [HEL.out, List.length_append, List.length_map, hub_len]; simp; omega
      have HL2 := Lib.hid (show (O.map dueE ++ hubL rooms k ++ [(⟨rooms.length, k, R, 0⟩ : Ed)]).length < (EL O rooms false).length by rw [HEL.out, List.length_append, List.length_append, List.length_map, hub_len]; simp; omega)
      obtain ⟨fn, tmps, assign, body, hy, hR⟩ := HY.out _ ⟨rooms.length, k, R, 0⟩ _ HJ.out hl1
      have HR' := Lib.hid hR
      clear hR hl1
      dsimp only [encB] at hy
      gi_wp2_with fail
      refine HR'.out.mono ?_
      rintro en W3 (⟨rfl, hJ3, hk3⟩ | ⟨rfl, hJx3⟩)
      ·clear HR' hy x0
       obtain ⟨fn, tmps, assign, body, hy, hR⟩ := HY.out _ ⟨k, rooms.length, 4503599627370496, 0⟩ _ hJ3 HL2.out
       have HR' := Lib.hid hR
       have HK3 := Lib.hid hk3
       clear hR hk3 hJ3
       dsimp only [encB] at hy
       gi_wp2_with fail
       refine HR'.out.mono ?_
       rintro en W4 (⟨rfl, hJ4, hk4⟩ | ⟨rfl, hJx4⟩)
       ·gi_wp2
        go_roundw
        case rel => exact ⟨k + 1, hlk, by go_num, by rw [HHS.out, ← List.append_assoc, show ([⟨rooms.length, k, R, 0⟩, ⟨k, rooms.length, 4503599627370496, 0⟩] : List Ed) = [⟨rooms.length, k, R, 0⟩] ++ [⟨k, rooms.length, 4503599627370496, 0⟩] from rfl, ← List.append_assoc]; exact hJ4, (HK.out.trans HK3.out).trans hk4⟩
        case measure => simp [intOf]; omega
       ·gi_wp2
        (repeat rw [Exit.noGoto_ret]); refine bodyPost_ret (results_none rfl _ _ _) rfl ?_
        exact ⟨⟨_, rfl⟩, .inr ⟨_, hJx4⟩⟩
      ·gi_wp2
       repeat (refine ⟨fun f h => (by cases h), ?_⟩; gi_wp2)
       (repeat rw [Exit.noGoto_ret]); refine bodyPost_ret (results_none rfl _ _ _) rfl ?_
       exact ⟨⟨_, rfl⟩, .inr ⟨_, hJx3⟩⟩
     ·obtain rfl : k = rooms.length := by omega
      gi_wp2
      go_end0
      exact ⟨⟨_, rfl⟩, .inl HJ.out⟩
   ·gi_wp2
    (repeat rw [Exit.noGoto_ret]); refine bodyPost_ret (results_none rfl _ _ _) rfl ?_
    exact ⟨⟨_, rfl⟩, .inl (by rw [show EL O rooms true = O.map dueE from List.append_nil _]; exact HJ.out)⟩

/-- The edges that come, as a contract. -/
theorem bedges_stops (F : Fence) (n : Nat) (hf : F.fn 57) (hdep : F.depth = none) (hro : F.round = none) (hn : 1 ≤ n) (N : Nat) (S : Nat → Prop) (Bl Bc Br : Nat) (ao ar : Option Addr) (co cr : Nat) (O : List Du) (rooms : List Int) (c : Bool) (hsm : O.length ≤ 64) (hrm : rooms.length ≤ 16) (hmd : ∀ d ∈ O, MayD d)
  (hBl : Bl < N) (hSl : ¬ S Bl) (hBc : Bc < N) (hSc : ¬ S Bc) (hBr : Br < N) (hSr : ¬ S Br) (w : World) (hN : N ≤ w.heap.size)
  (cl : w.cell? ⟨Bl, 0, none⟩ = some (.slice ao O.length co)) (cc : w.cell? ⟨Bc, 0, none⟩ = some (.bool c)) (crr : w.cell? ⟨Br, 0, none⟩ = some (.slice ar rooms.length cr))
  (ce : ∀ (i : Nat) (hi : i < O.length), ∃ b o, ao = some ⟨b, o, none⟩ ∧ b < N ∧ ¬ S b ∧ ∀ (j : Nat), j < 7 → w.cell? ⟨b, o + i * 7 + j, none⟩ = (duR.cells O[i])[j]?) (cx : ∀ i, i < rooms.length → ∃ b o, ar = some ⟨b, o, none⟩ ∧ b < N ∧ ¬ S b ∧ w.cell? ⟨b, o + i, none⟩ = some (.int .i64 (rooms.getD i 0))) :
  SeqStopsK F n Try.prog 57 #[.pointer (some ⟨Bl, 0, none⟩), .pointer (some ⟨Bc, 0, none⟩), .pointer (some ⟨Br, 0, none⟩)] encB (KeepX N S) (fun xs => xs = EL O rooms c) (fun _ => True) (EL O rooms c).length w := fun l J Jx W hW hJ hJx hY h0 => by
 have hlt : ∀ b, b < N → b < w.heap.size := fun b hb => Nat.lt_of_lt_of_le hb hN
 have cell : ∀ b o, b < N → W.cell? ⟨b, o, none⟩ = w.cell? ⟨b, o, none⟩ := fun b o hb => hW.cell (p := ⟨b, o, none⟩) (hlt b hb)
 refine (bedges1_in F n hf hdep hro hn l N S Bl Bc Br ao ar co cr O rooms c hsm hrm hmd hBl hSl hBc hSc hBr hSr (fun pre W' => J pre W' ∧ W.heap.size ≤ W'.heap.size) (fun pre W' => Jx pre W') W (Nat.le_trans hN hW.size)
  (fun pre W1 o hs h => ?_) (fun pre x W1 h hlen => ?_) ((cell _ _ hBl).trans cl) ((cell _ _ hBc).trans cc) ((cell _ _ hBr).trans crr) (fun i hi => by obtain ⟨b, o, e, hb, hs, h⟩ := ce i hi; exact ⟨b, o, e, hb, hs, fun j hj => (cell _ _ hb).trans (h j hj)⟩) (fun i hi => by obtain ⟨b, o, e, hb, hs, h⟩ := cx i hi; exact ⟨b, o, e, hb, hs, (cell _ _ hb).trans h⟩) ⟨h0, Nat.le_refl _⟩).mono ?_
 ·obtain ⟨h2, h3⟩ := h
  exact ⟨hJ pre _ _ none h2 (World.grownBy_alloc W1 o none) (fun r e => by cases e), by simp; omega⟩
 ·obtain ⟨h2, h3⟩ := h
  obtain ⟨fn, tmps, assign, body, hy1, hR⟩ := hY pre x W1 h2 hlen
  refine ⟨fn, tmps, assign, body, hy1, hR.mono (fun e W' h => ?_)⟩
  rcases h with ⟨a1, a2, a3⟩ | ⟨a1, a2⟩
  ·exact .inl ⟨a1, ⟨a2, Nat.le_trans h3 a3.1⟩, a3⟩
  ·exact .inr ⟨a1, a2⟩
 ·rintro e W' ⟨h1, h2⟩
  refine ⟨h1, ?_⟩
  rcases h2 with ⟨a2, _⟩ | ⟨p, a2⟩
  ·exact .inl ⟨_, rfl, a2⟩
  ·exact .inr ⟨p, trivial, a2⟩

set_option maxRecDepth 100000 in
theorem bedges_calls (ao ar : Option Addr) (no nr co cr : Nat) (c : Bool) (w : World) :
  Calls Try.prog 37 #[.slice ar nr cr, .slice ao no co, .bool c] w fun e w' => e = .returned (.func (.func 57) #[] #[.pointer (some ⟨w.heap.size + 1, 0, none⟩), .pointer (some ⟨w.heap.size + 2, 0, none⟩), .pointer (some ⟨w.heap.size, 0, none⟩)]) ∧ w' = ((w.alloc (.cells #[.slice ar nr cr] 23)).alloc (.cells #[.slice ao no co] 22)).alloc (.cells #[.bool c] 4) := by
 go_enter Try.func37, Try.ntmps37
 go_wp2_with fail
 go_ret
 exact ⟨rfl, rfl⟩
end Go.Proofs.Ytjijhpflkkicaaa
namespace Go.Proofs.Ytjijhpflkkicaaa
open Go Go.RowKit Go.Mem Go.MoneyP Go.NetP Go.BuildP Go.Shelf

attribute [local go_sem] Oper.semAt_some
theorem ids_step {O : List Du} {i : Nat} (hi : i < O.length) : (O.take (i + 1)).map (·.id) = (O.take i).map (·.id) ++ [(O[i]).id] := (due_step hi).2

set_option maxRecDepth 100000 in
set_option maxHeartbeats 4000000 in
theorem round_any (rooms : List Int) (l : List Du) (c : Bool) (vr vl : Value) (w : World) (hr : Rd .i64 w vr rooms) (h : RdG duR w vl l) (hsm : l.length ≤ 1000) :
  Calls Try.prog 20 #[vr, vl, .bool c] w fun en w' => RoundP rooms l c w en w' := by
 obtain ⟨i0, hi0, hz0, hz1, hz2⟩ := info_parts Try.infoEdb
 obtain ⟨j0, hj0, hy0, hy1, hy2⟩ := info_parts Try.infoU64b
 obtain ⟨ar, cr, rfl⟩ := hr.shape
 have hs0 := (Sep.start w).newCells #[.int .i64 0, .slice none 0 0] 48
 have RR := Lib.hid (right_b rooms l _ vl _ (hs0.rd hr) (hs0.rdG h) (by omega))
 cases hrt : rightR rooms l
 ·rw [hrt] at RR
  have HRT := Lib.hid hrt
  clear hrt
  go_enter Try.func20, Try.ntmps20
  go_wp2_with fail
  refine (RR.out).mono ?_
  rintro en w2 ⟨rfl, hb⟩
  replace hs0 := hs0.belowStep hb
  have q0 := cell_of (hs0.cells 0 rfl) 0
  have q1 := cell_of (hs0.cells 0 rfl) 1
  simp only [List.getElem?_toArray, List.getElem?_cons_zero, List.getElem?_cons_succ] at q0 q1
  have qf := fun j => frozen_of (hs0.cells 0 rfl) j
  go_wp2_with fail
  replace hs0 := (hs0.setC 0 rfl 0 (.int .i64 0) #[.int .i64 0, .slice none 0 0] rfl).setC 0 rfl 1 (.slice none 0 0) #[.int .i64 0, .slice none 0 0] rfl
  clear q0 q1 qf
  have q0 := cell_of (hs0.cells 0 rfl) 0
  have q1 := cell_of (hs0.cells 0 rfl) 1
  simp only [List.getElem?_toArray, List.getElem?_cons_zero, List.getElem?_cons_succ] at q0 q1
  exact bodyPost_ret (v := .tuple #[.agg #[.int .i64 0, .slice none 0 0], .slice none 0 0, .int .i64 1]) (by simp [results, Try.results20, go_sem, q0, q1]) rfl (.inl ⟨HRT.out, rfl, hs0.below⟩)
 rw [hrt] at RR
 have HRT := Lib.hid hrt
 obtain ⟨hn16, hl64, _, hmd, _⟩ := right_parts hrt
 have HMD := Lib.hid (show ∀ d ∈ openL l, MayD d from fun d hd => (hmd d (List.mem_filter.1 hd).1).1)
 clear hmd
 clear hrt
 refine (callsIn_wide (n := 6)).1 ?_
 refine callsIn_of_wp_marks Try.func20 rfl trivial ?_ rfl
 simp only [Try.ntmps20, List.size_toArray, List.length_cons, List.length_nil, Nat.reduceAdd, Nat.reduceSub, Array.replicate_succ, Array.replicate_zero, List.push_toArray, List.append_toArray, List.nil_append, List.cons_append]
 gi_wp2_with fail
 refine ⟨trivial, (callsIn_wide.2 RR.out).mono ?_⟩
 rintro en w2 ⟨rfl, hb⟩
 replace hs0 := hs0.belowStep hb
 clear hb RR
 obtain ⟨BN, hBN⟩ : ∃ BN, BN = w.heap.size := ⟨_, rfl⟩
 have hBNw : w.heap.size ≤ BN ∧ BN < w2.heap.size := ⟨by omega, by rw [hBN]; exact lt_of (hs0.cells 0 rfl)⟩
 have HBN := Lib.hid hBNw
 rw [← hBN] at hs0 ⊢
 clear hBN hBNw
 have q0 := cell_of (hs0.cells 0 rfl) 0
 have q1 := cell_of (hs0.cells 0 rfl) 1
 simp only [List.getElem?_toArray, List.getElem?_cons_zero, List.getElem?_cons_succ] at q0 q1
 have qf := fun j => frozen_of (hs0.cells 0 rfl) j
 have hs1 := hs0.setC 0 rfl 0 (.int .i64 (rooms.length + 1)) #[.int .i64 (rooms.length + 1), .slice none 0 0] rfl
 simp only [List.set_cons_zero] at hs1
 obtain ⟨w3, hw3⟩ : ∃ w3, w3 = w2.setCell ⟨BN, 0, none⟩ (.int .i64 (rooms.length + 1)) := ⟨_, rfl⟩
 have hb3 : w3.heap.size = w2.heap.size := by rw [hw3]; simp [World.setCell]
 gi_wp2_with fail
 rw [← hw3] at hs1 ⊢
 have HSZ := Lib.hid (show BN < w3.heap.size from lt_of (hs1.cells 0 rfl))
 clear q0 q1 qf hs0 hw3 hb3
 refine ⟨trivial, (callsIn_wide.2 (open_any l vl _ (hs1.rdG h) (by omega))).mono ?_⟩
 rintro en w4 ⟨uo, rfl, k1⟩
 have hs := hs1.join k1
 simp only [List.cons_append, List.nil_append] at hs
 obtain ⟨O, hO⟩ : ∃ O, O = openL l := ⟨_, rfl⟩
 rw [← hO] at hs
 rw [← hO] at HMD
 have hol : O.length ≤ 64 := by rw [hO]; exact Nat.le_trans (open_le l) hl64
 obtain ⟨ao, co, rfl⟩ := (hs.rdWin 0 rfl).shape
 have HO := Lib.hid hO
 clear hO hs1 k1
 gi_wp2_with fail
 gi_loopw [7, 25] (fun vi i wr => ∃ k : Nat, k ≤ O.length ∧ i = .int .i64 k ∧ Sep w wr [intsT .u64 42 vi ((O.take k).map (·.id)), winT duR (.slice ao O.length co) O, cellsT BN #[.int .i64 (rooms.length + 1), .slice none 0 0] 48]) (fun _ i _ => O.length - (intOf i).toNat)
 case atStart => exact ⟨0, Nat.zero_le _, rfl, hs.nilInts .u64 _⟩
 case round =>
  clear hs
  obtain ⟨k, hk, rfl, hs⟩ := hrel
  by_cases hlt : k < O.length
  ·obtain ⟨b1, o1, e1, hb1, hc1⟩ := (hs.rdWin 1 rfl).at k hlt
   subst e1
   have HDS := Lib.hid (ids_step hlt)
   obtain ⟨x, hx⟩ : ∃ x, x = O[k] := ⟨_, rfl⟩
   rw [← hx] at hc1 HDS
   obtain ⟨IL, hIL⟩ : ∃ IL, IL = (O.take k).map (·.id) := ⟨_, rfl⟩
   have HIL := Lib.hid (show IL.length = k by rw [hIL]; simp [hk])
   rw [← hIL] at hs HDS
   clear hx hIL
   obtain ⟨id, f, t, xx, we, u, hh⟩ := x
   have x0 := hc1 0 (by decide)
   have x1 := hc1 1 (by decide)
   have x2 := hc1 2 (by decide)
   have x3 := hc1 3 (by decide)
   have x4 := hc1 4 (by decide)
   have x5 := hc1 5 (by decide)
   have x6 := hc1 6 (by decide)
   simp only [duR, Nat.add_zero, List.getElem?_cons_zero, List.getElem?_cons_succ] at x0 x1 x2 x3 x4 x5 x6
   clear hc1
   obtain ⟨vi', ci', rfl⟩ := (hs.rdInts 0 rfl).shape
   rw [HIL.out] at hs ⊢
   have hsa := hs.alloc (.cells #[.int .u64 id, .int .i64 f, .int .i64 t, .int .i64 xx, .int .i64 we, .int .i64 u, .bool hh] 44)
   have hsb := hsa.alloc (.cells #[.int .u64 id] 42)
   have hnb := heap_alloc_new (wr.alloc (.cells #[.int .u64 id, .int .i64 f, .int .i64 t, .int .i64 xx, .int .i64 we, .int .i64 u, .bool hh] 44)) (.cells #[.int .u64 id] 42)
   rw [World.size_alloc] at hnb
   clear hs hsa
   gi_wp2_with (gi_at_builtin; refine wpListIn_appIntB rfl (.tmp 29) (.tmp 32) 49 rfl 42 j0 _ 8 Try.underlying49 hj0 hy0 hy1 hy2 rfl _ IL .u64 id hsb 0 rfl (wr.heap.size + 1) hnb rfl rfl ?c3 ?c4 ?grow)
   case c3 => rw [HIL.out]; unfold maxLen; omega
   case c4 => rw [HIL.out]; omega
   case grow =>
    intro vl' w7 hs4 _
    (try simp only [List.set_cons_zero] at hs4)
    clear hsb hnb x0 x1 x2 x3 x4 x5 x6
    gi_wp2_with fail
    go_roundw
    case rel => exact ⟨k + 1, hlt, by go_num, by rw [HDS.out]; exact hs4⟩
    case measure => simp [intOf]; omega
  ·obtain rfl : k = O.length := by omega
   rw [List.take_length] at hs
   obtain ⟨vi, ci, rfl⟩ := (hs.rdInts 0 rfl).shape
   rw [List.length_map] at hs ⊢
   gi_wp2_with fail
   refine ⟨trivial, (callsIn_wide.2 (bedges_calls _ _ _ _ _ _ _ _)).mono ?_⟩
   rintro en w5 ⟨rfl, rfl⟩
   have HWS := Lib.hid (show BN < wr.heap.size from lt_of (hs.cells 2 rfl))
   have hs4 := ((hs.newCells #[.slice ar rooms.length cr] 23).newCells #[.slice ao O.length co] 22).newCells #[.bool c] 4
   simp only [World.size_alloc] at hs4
   gi_wp2_with fail
   obtain ⟨W0, hW0⟩ : ∃ W0, W0 = ((wr.alloc (Obj.cells #[.slice ar rooms.length cr] 23)).alloc (Obj.cells #[.slice ao O.length co] 22)).alloc (Obj.cells #[.bool c] 4) := ⟨_, rfl⟩
   have hsz : W0.heap.size = wr.heap.size + 3 := by rw [hW0]; simp
   have hb03 : Below wr.heap.size wr W0 := by
    rw [hW0]; exact (((Below.refl _ wr).alloc (Nat.le_refl _) _).alloc (by simp) _).alloc (by simp; omega) _
   rw [← hW0] at hs4 ⊢
   clear hW0
   have hcc := cell_of (hs4.cells 0 rfl) 0
   have hcl := cell_of (hs4.cells 1 rfl) 0
   have hcr := cell_of (hs4.cells 2 rfl) 0
   have hrd := hs.rdWin 1 rfl
   have hBw := HBN.out.1
   have hBr := HWS.out
   have hap := hs.apart 1 2 rfl rfl (by omega)
   have hi0s := (hs4.omit 4).tail.tail.tail
   simp only [List.eraseIdx] at hi0s
   refine nameRF fun a0 ha0 => ?_
   refine wpIn_rangeFunc_ownH rfl (by decide) (gf := 57) (lb := #[.pointer (some ⟨wr.heap.size + 1, 0, none⟩), .pointer (some ⟨wr.heap.size + 2, 0, none⟩), .pointer (some ⟨wr.heap.size, 0, none⟩)]) (by rw [ha0]; rfl) trivial (enters_of Try.func57 (by kernel_rfl) rfl)
    (bedges_stops Fence.wide (6 - 1) trivial rfl rfl (by decide) (wr.heap.size + 3) (· = BN) (wr.heap.size + 1) (wr.heap.size + 2) wr.heap.size ao ar co cr O rooms c hol hn16 HMD.out (by omega) (by omega) (by omega) (by omega) (by omega) (by omega) W0 (by omega) hcl hcc hcr ?hce ?hcx) KeepX.trans (keepX_b (by omega)) (Below.refl _ _) (fun _ => rfl)
    (fun pre W => ∃ v, Sep w W [recT edR 77 v pre, intsT .u64 42 (.slice vi O.length ci) (O.map (·.id)), cellsT BN #[.int .i64 (rooms.length + 1), v] 48] ∧ (∀ k, v.ownBlock = some k → wr.heap.size + 3 ≤ k) ∧ W0.heap.size ≤ W.heap.size)
    (fun _ _ _ => False)
    (ownFrom_ex fun v => OwnFrom.and (sep_ownFrom (fun pre => [recT edR 77 v pre, intsT .u64 42 (.slice vi O.length ci) (O.map (·.id)), cellsT BN #[.int .i64 (rooms.length + 1), v] 48]) (by omega) (fun s A hA => by simp at hA; rcases hA with rfl | rfl | rfl; exact recT_cells _ _ _ _; exact intsT_cells _ _ _ _; exact cellsT_cells _ _ _)) (OwnFrom.and (ownFrom_pure _ _) (fun _ _ _ _ h hg _ => Nat.le_trans h hg.size)))
    (fun _ _ _ _ _ hs _ _ => hs)
    ⟨.slice none 0 0, hi0s.nilRecs edR _, fun k e => (by cases e), Nat.le_refl _⟩
    (fun x a1 W => ∃ Bx, wr.heap.size + 3 ≤ Bx ∧ W.heap[Bx]? = some (.cells #[.int .i64 x.f, .int .i64 x.t, .int .i64 x.c, .int .i64 x.k] 77 (0, 0)) ∧
     a1 = { tmps := (a0.tmps.setIfInBounds 39 (.agg #[.int .i64 x.f, .int .i64 x.t, .int .i64 x.c, .int .i64 x.k])).setIfInBounds 11 (.pointer (some ⟨Bx, 0, none⟩)), defers := [] })
    (fun x a1 _ X Y row hs hg hr => by obtain ⟨Bx, h1, h2, h3⟩ := hs; exact ⟨Bx, h1, cellsRow_own Bx _ (fun (_ : Unit) => _) () X Y row h2 hg (fun r e => (hr r e).2), h3⟩)
    ?assign ?body ?done ?stop
   case hce =>
    intro i hi
    obtain ⟨b, o, e, hb, hc⟩ := hrd.at i hi
    obtain ⟨S1, T1, h1, h2, h3⟩ := hap
    have hne : ¬ b = BN := by
     intro e2
     exact h3 b (by rw [h1.1, e]; rfl) (by rw [h2.1]; exact e2)
    exact ⟨b, o, e, by omega, hne, fun j hj => (hb03.cell (p := ⟨b, o + i * 7 + j, none⟩) hb).trans (hc j hj)⟩
   case hcx =>
    intro i hi
    obtain ⟨b, o, e, hb, hc⟩ := hr.at i hi
    exact ⟨b, o, e, by have := hs4.size; omega, by omega, (hs4.cell hb).trans hc⟩
   case assign =>
    rintro l pre ⟨ef, et, ec, ek⟩ W K hI hK
    dsimp only [encB]
    subst ha0
    obtain ⟨v, hs, hv, hz⟩ := hI
    gi_wp2
    exact hK _ _ ((KeepsOthers.alloc _ _).from _) (KeepX.alloc (by omega) _) ⟨v, hs.alloc _, hv, by simp; omega⟩ ⟨W.heap.size, by omega, heap_alloc_new W _, rfl⟩
   case body =>
    rintro l pre ⟨ef, et, ec, ek⟩ a1 W hl _ ⟨v, hs, hv, hz⟩ ⟨Bx, hBx, hbx, rfl⟩ hlt
    subst ha0
    have HLT := Lib.hid (show pre.length < 96 by rw [el_len] at hlt; cases c <;> simp at hlt <;> omega)
    clear hlt
    have e0 := cell_of hbx 0
    have e1 := cell_of hbx 1
    have e2 := cell_of hbx 2
    have e3 := cell_of hbx 3
    simp only [List.getElem?_toArray, List.getElem?_cons_zero, List.getElem?_cons_succ] at e0 e1 e2 e3
    have s1 := cell_of (hs.cells 2 rfl) 1
    simp only [List.getElem?_toArray, List.getElem?_cons_zero, List.getElem?_cons_succ] at s1
    have hsa := hs.alloc (.cells #[.int .i64 ef, .int .i64 et, .int .i64 ec, .int .i64 ek] 77)
    have hnb := heap_alloc_new W (.cells #[.int .i64 ef, .int .i64 et, .int .i64 ec, .int .i64 ek] 77)
    have HV := Lib.hid hv
    have HZ := Lib.hid (show wr.heap.size + 3 ≤ W.heap.size ∧ W0.heap.size ≤ W.heap.size by omega)
    clear hs hv hz hbx hl hsz
    gi_wp2_with (gi_at_builtin; refine wpListIn_appRecB edR rfl (.tmp 41) (.tmp 43) 46 rfl 77 i0 _ 32 Try.underlying46 hi0 hz0 hz1 hz2 rfl v pre ⟨ef, et, ec, ek⟩ hsa 0 rfl W.heap.size _ rfl hnb rfl rfl ?d3 ?d4 ?grow2)
    case d3 => have := HLT.out; unfold maxLen; omega
    case d4 => have := HLT.out; omega
    case grow2 =>
     intro v' w7 hs5 hsh hok
     obtain ⟨g, cap, rfl⟩ := hsh.out
     (try simp only [List.set_cons_zero] at hs5)
     clear hsa hnb e0 e1 e2 e3 s1
     have s1 := cell_of (hs5.cells 2 rfl) 1
     simp only [List.getElem?_toArray, List.getElem?_cons_zero, List.getElem?_cons_succ] at s1
     have qf := fun j => frozen_of (hs5.cells 2 rfl) j
     gi_wp2
     have hs6 := hs5.setC 2 rfl 1 (.slice (some ⟨g, 0, none⟩) (pre.length + 1) cap) #[.int .i64 (rooms.length + 1), .slice (some ⟨g, 0, none⟩) (pre.length + 1) cap] rfl
     simp only [List.set_cons_succ, List.set_cons_zero] at hs6
     have hsz7 := hok.out.fr.size
     rw [World.size_alloc] at hsz7
     refine ⟨(((KeepsOthers.alloc _ _).trans hok.out.keep).trans (KeepsOthers.setCell _ _ _)).from _, ((KeepX.alloc HZ.out.1 _).trans (KeepX.app hok.out (by rw [World.size_alloc]; have := HZ.out; omega) HV.out)).trans (KeepX.setCell _ ⟨BN, 1, none⟩ _ rfl), _, hs6, fun k e => ?_, by have := HZ.out; simp only [World.setCell, Array.size_modify] at *; omega⟩
     rcases hok.out.block k e with h1 | h1
     ·exact HV.out k h1
     ·rw [World.size_alloc] at h1; have := HZ.out; omega
   case done =>
    rintro D xs W hD hS ⟨v, hs, hv, hz⟩ hK
    subst ha0
    have HS := Lib.hid hS
    clear hS hv
    obtain ⟨ae, ce, rfl⟩ := (hs.rdRecs 0 rfl).shape
    have s0 := cell_of (hs.cells 2 rfl) 0
    have s1 := cell_of (hs.cells 2 rfl) 1
    simp only [List.getElem?_toArray, List.getElem?_cons_zero, List.getElem?_cons_succ] at s0 s1
    have qf := fun j => frozen_of (hs.cells 2 rfl) j
    have hs6 := (hs.setC 2 rfl 0 (.int .i64 (rooms.length + 1)) #[.int .i64 (rooms.length + 1), .slice ae xs.length ce] rfl).setC 2 rfl 1 (.slice ae xs.length ce) #[.int .i64 (rooms.length + 1), .slice ae xs.length ce] rfl
    simp only [List.set_cons_succ, List.set_cons_zero] at hs6
    gi_wp2
    clear s0 s1 qf
    have hK' : ((W.setCell ⟨BN, 0, none⟩ (.int .i64 (rooms.length + 1))).setCell ⟨BN, 1, none⟩ (.slice ae xs.length ce)).heap[D]? = some (.deferred (some [])) :=
     (((KeepsOthers.setCell W ⟨BN, 0, none⟩ (.int .i64 (rooms.length + 1))).trans (KeepsOthers.setCell _ ⟨BN, 1, none⟩ (.slice ae xs.length ce))).same D _ hK rfl)
    generalize (W.setCell ⟨BN, 0, none⟩ (.int .i64 (rooms.length + 1))).setCell ⟨BN, 1, none⟩ (.slice ae xs.length ce) = W9 at hs6 hK' ⊢
    refine ⟨by simp, .inl ⟨_, _, rfl, run_takeDeferred hK', ?_⟩⟩
    have hs7 := hs6.turned (fun A hA => by simp at hA; rcases hA with rfl | rfl | rfl; exact recT_cells _ _ _ _; exact intsT_cells _ _ _ _; exact cellsT_cells _ _ _) (grownBy_putObj' _ D (.deferred none)) (fun r e => by cases e; exact ⟨by have := hs4.size; omega, _, hK', rfl⟩)
    have z0 := cell_of (hs7.cells 2 rfl) 0
    have z1 := cell_of (hs7.cells 2 rfl) 1
    simp only [List.getElem?_toArray, List.getElem?_cons_zero, List.getElem?_cons_succ] at z0 z1
    generalize W9.putObj D (.deferred none) = W8 at hs7 z0 z1 ⊢
    exact ⟨.tuple #[.agg #[.int .i64 (rooms.length + 1), .slice ae xs.length ce], .slice vi O.length ci, .int .i64 0], by simp [results, Try.results20, go_sem, z0, z1],
     .inr ⟨HRT.out, _, _, rfl, by rw [← el_open, ← HO.out, ← HS.out]; exact hs7.takeN 2⟩⟩
   case stop =>
    rintro D c pre W _ _ h _
    exact h.elim
end Go.Proofs.Ytjijhpflkkicaaa
