/-
  Package build: the edges of a round gone through by a function, walked.
-/
import Derived.RangeFuncNested
import Derived.RangeFuncBound
import Derived.RangeFuncCalls
import Derived.RangeFuncLeaves
import Derived.Shelf.Abstract
import Derived.Shelf.RegionOpen
import Derived.WalkKit
import Derived.OwnWalkIn
import Derived.TacticsInMore
import Derived.LoopNIn
import Derived.LoopIn
import Derived.Stop.RegionWithIn
import Derived.Test.YtlbpkfjebaelpaaMixIn
import Derived.Test.YtlbpkfjebaelpaaSeq
import Derived.Test.YtlbpkfjebaelpaaBW12
namespace Go.Proofs.Ytlbpkfjebaelpaa
open Go Go.RowKit Go.Mem Go.MoneyP Go.NetP Go.BuildP Go.Shelf

attribute [local go_sem] Oper.semAt_some

/-- The edges of a round whose open dues are these. -/
def EL (O : List Du) (rooms : List Int) (c : Bool) : List Ed := O.map dueE ++ if c then [] else hubL rooms rooms.length
theorem el_open (rooms : List Int) (l : List Du) (c : Bool) : EL (openL l) rooms c = edgesL rooms l c := (edges_eq rooms l c).symm
theorem el_len (O : List Du) (rooms : List Int) (c : Bool) : (EL O rooms c).length = O.length + if c then 0 else 2 * rooms.length := by
  unfold EL
  cases c <;> simp [hub_len]
def encB (x : Ed) : Array Value := #[.agg #[.int .i64 x.f, .int .i64 x.t, .int .i64 x.c, .int .i64 x.k]]
/-- A round's two ways out, under one name. -/
def OutB (J Jx : List Ed → World → Prop) (N : Nat) (S : Nat → Prop) (p : List Ed) (W : World) (b : Bool) (W' : World) : Prop := (b = true ∧ J p W' ∧ KeepX N S W W') ∨ (b = false ∧ Jx p W')

set_option maxRecDepth 100000 in
set_option maxHeartbeats 3000000 in
theorem bedges1_in (F : Fence) (n : Nat) (hf : F.fn 45) (hdep : F.depth = none) (hro : F.round = none) (hn : 1 ≤ n) (l N : Nat) (S : Nat → Prop) (Bl Bc Br : Nat) (ao ar : Option Addr) (co cr : Nat) (O : List Du) (rooms : List Int) (c : Bool) (hsm : O.length ≤ 64) (hrm : rooms.length ≤ 16) (hmd : ∀ d ∈ O, MayD d)
    (hBl : Bl < N) (hSl : ¬ S Bl) (hBc : Bc < N) (hSc : ¬ S Bc) (hBr : Br < N) (hSr : ¬ S Br) (J Jx : List Ed → World → Prop) (W : World) (hN : N ≤ W.heap.size)
    (hJa : ∀ pre W1 (o : Obj), W.heap.size ≤ W1.heap.size → J pre W1 → J pre (W1.alloc o))
    (hY : ∀ pre x W1, J pre W1 → pre.length < (EL O rooms c).length → YieldAt F (n - 1) Try.prog l (encB x) W1 fun e W' =>
      (e = .returned (.bool true) ∧ J (pre ++ [x]) W' ∧ KeepX N S W1 W') ∨ (e = .returned (.bool false) ∧ Jx (pre ++ [x]) W'))
    (cl : W.cell? ⟨Bl, 0, none⟩ = some (.slice ao O.length co)) (cc : W.cell? ⟨Bc, 0, none⟩ = some (.bool c)) (crr : W.cell? ⟨Br, 0, none⟩ = some (.slice ar rooms.length cr))
    (ce : ∀ (i : Nat) (hi : i < O.length), ∃ b o, ao = some ⟨b, o, none⟩ ∧ b < N ∧ ¬ S b ∧ ∀ (j : Nat), j < 7 → W.cell? ⟨b, o + i * 7 + j, none⟩ = (duR.cells O[i])[j]?) (cx : ∀ i, i < rooms.length → ∃ b o, ar = some ⟨b, o, none⟩ ∧ b < N ∧ ¬ S b ∧ W.cell? ⟨b, o + i, none⟩ = some (.int .i64 (rooms.getD i 0))) (h0 : J [] W) :
    CallsIn F n Try.prog 45 #[.func (.yield l) #[] #[], .pointer (some ⟨Bl, 0, none⟩), .pointer (some ⟨Bc, 0, none⟩), .pointer (some ⟨Br, 0, none⟩)] W fun e W' => (∃ v, e = .returned v) ∧
      (J (EL O rooms c) W' ∨ ∃ p, Jx p W') := by
  refine callsIn_of_wp Try.func45 rfl hf ?_ hro
  simp only [Try.ntmps45, List.size_toArray, List.length_cons, List.length_nil, Nat.reduceAdd, Nat.reduceSub, Array.replicate_succ, Array.replicate_zero, List.push_toArray, List.append_toArray, List.nil_append, List.cons_append]
  have CE := Lib.hid ce
  have CX := Lib.hid cx
  have HY := Lib.hid hY
  have HJA := Lib.hid hJa
  have H0 := Lib.hid h0
  have HMD := Lib.hid hmd
  have HCC := Lib.hid cc
  have HCR := Lib.hid crr
  have HEL := Lib.hid (el_len O rooms c)
  clear ce cx hY hJa h0 hmd cc crr
  gi_wp2
  gi_loopw [12] (fun i wr => ∃ k : Nat, k ≤ O.length ∧ i = .int .i64 k ∧ J ((O.take k).map dueE) wr ∧ KeepX N S W wr) (fun i _ => O.length - (intOf i).toNat)
  case atStart => exact ⟨0, Nat.zero_le _, rfl, H0.out, KeepX.refl _ _ _⟩
  case round =>
    obtain ⟨k, hk, rfl, hJs, hkx⟩ := hrel
    have HK := Lib.hid hkx
    have HJ := Lib.hid hJs
    clear hJs hkx cl
    by_cases hlt : k < O.length
    · obtain ⟨b1, o1, rfl, hb1, hS1, ce⟩ := CE.out k hlt
      have hc1 := fun j hj => (HK.out.cell (o := o1 + k * 7 + j) hb1 hS1).trans (ce j hj)
      have HDS := Lib.hid (due_step hlt).1
      have HL2 := Lib.hid (show ((O.take k).map dueE).length < (EL O rooms c).length by rw [HEL.out, List.length_map, List.length_take]; omega)
      have hm := HMD.out _ (List.getElem_mem hlt)
      obtain ⟨x, hx⟩ : ∃ x, x = O[k] := ⟨_, rfl⟩
      rw [← hx] at hc1 HDS hm
      clear ce hx
      obtain ⟨id, f, t, xx, we, u, hh⟩ := x
      have hw0 := hm.w0
      have hw1 := hm.w1
      dsimp only at hw0 hw1
      have x0 := hc1 0 (by decide)
      have x1 := hc1 1 (by decide)
      have x2 := hc1 2 (by decide)
      have x3 := hc1 3 (by decide)
      have x4 := hc1 4 (by decide)
      have x5 := hc1 5 (by decide)
      have x6 := hc1 6 (by decide)
      simp only [duR, Nat.add_zero, List.getElem?_cons_zero, List.getElem?_cons_succ] at x0 x1 x2 x3 x4 x5 x6
      clear hc1
      clear hm
      have hJA := HJA.out _ _ (.cells #[.int .u64 id, .int .i64 f, .int .i64 t, .int .i64 xx, .int .i64 we, .int .i64 u, .bool hh] 45) HK.out.1 HJ.out
      obtain ⟨fn, tmps, assign, body, hy, hR⟩ := HY.out _ ⟨f, t, xx, -we⟩ _ hJA HL2.out
      have hR' := hR.mono (R' := fun en W' => ∃ b, en = .returned (.bool b) ∧ OutB J Jx N S ((O.take k).map dueE ++ [⟨f, t, xx, -we⟩]) (wr.alloc (.cells #[.int .u64 id, .int .i64 f, .int .i64 t, .int .i64 xx, .int .i64 we, .int .i64 u, .bool hh] 45)) b W')
        (fun en W' h => by
          rcases h with ⟨h1, h2, h3⟩ | ⟨h1, h2⟩
          · exact ⟨true, h1, .inl ⟨rfl, h2, h3⟩⟩
          · exact ⟨false, h1, .inr ⟨rfl, h2⟩⟩)
      dsimp only [encB] at hy
      have HR' := Lib.hid hR'
      clear hR hR' hJA
      gi_wp2_with fail
      refine HR'.out.mono ?_
      rintro en W3 ⟨b, rfl, h3⟩
      rcases h3 with ⟨rfl, hJ3, hk3⟩ | ⟨rfl, hJx3⟩
      · gi_wp2
        go_roundw
        case rel => exact ⟨k + 1, hlt, by go_num, by rw [HDS.out]; exact hJ3, (HK.out.trans (KeepX.alloc (Nat.le_trans hN HK.out.1) _)).trans hk3⟩
        case measure => simp [intOf]; omega
      · gi_wp2
        (repeat rw [Exit.noGoto_ret]); refine bodyPost_ret (results_none rfl _ _ _) rfl ?_
        exact ⟨⟨_, rfl⟩, .inr ⟨_, hJx3⟩⟩
    · obtain rfl : k = O.length := by omega
      have hcc := (HK.out.cell (o := 0) hBc hSc).trans HCC.out
      have hcr := (HK.out.cell (o := 0) hBr hSr).trans HCR.out
      rw [List.take_length] at HJ
      cases c
      · gi_wp2
        gi_loopw [35] (fun i wq => ∃ k : Nat, k ≤ rooms.length ∧ i = .int .i64 k ∧ J (O.map dueE ++ hubL rooms k) wq ∧ KeepX N S W wq) (fun i _ => rooms.length - (intOf i).toNat)
        case atStart => exact ⟨0, Nat.zero_le _, rfl, by rw [show hubL rooms 0 = [] from rfl, List.append_nil]; exact HJ.out, HK.out⟩
        case round =>
          clear hcc hcr HJ HK
          obtain ⟨k, hk, rfl, hJs, hkx⟩ := hrel
          have HK := Lib.hid hkx
          have HJ := Lib.hid hJs
          clear hJs hkx
          by_cases hlk : k < rooms.length
          · obtain ⟨b2, o2, rfl, hb2, hS2, cx⟩ := CX.out k hlk
            have x0 := (HK.out.cell (o := o2 + k) hb2 hS2).trans cx
            have HHS := Lib.hid (hub_succ rooms k)
            obtain ⟨R, hR⟩ : ∃ R, R = rooms.getD k 0 := ⟨_, rfl⟩
            rw [← hR] at x0 HHS
            clear cx hR
            have hl1 : (O.map dueE ++ hubL rooms k).length < (EL O rooms false).length := by rw [HEL.out, List.length_append, List.length_map, hub_len]; simp; omega
            have HL2 := Lib.hid (show (O.map dueE ++ hubL rooms k ++ [(⟨rooms.length, k, R, 0⟩ : Ed)]).length < (EL O rooms false).length by rw [HEL.out, List.length_append, List.length_append, List.length_map, hub_len]; simp; omega)
            obtain ⟨fn, tmps, assign, body, hy, hR⟩ := HY.out _ ⟨rooms.length, k, R, 0⟩ _ HJ.out hl1
            have HR' := Lib.hid hR
            clear hR hl1
            dsimp only [encB] at hy
            gi_wp2_with fail
            refine HR'.out.mono ?_
            rintro en W3 (⟨rfl, hJ3, hk3⟩ | ⟨rfl, hJx3⟩)
            · clear HR' hy x0
              obtain ⟨fn, tmps, assign, body, hy, hR⟩ := HY.out _ ⟨k, rooms.length, 4503599627370496, 0⟩ _ hJ3 HL2.out
              have HR' := Lib.hid hR
              have HK3 := Lib.hid hk3
              clear hR hk3 hJ3
              dsimp only [encB] at hy
              gi_wp2_with fail
              refine HR'.out.mono ?_
              rintro en W4 (⟨rfl, hJ4, hk4⟩ | ⟨rfl, hJx4⟩)
              · gi_wp2
                go_roundw
                case rel => exact ⟨k + 1, hlk, by go_num, by rw [HHS.out, ← List.append_assoc, show ([⟨rooms.length, k, R, 0⟩, ⟨k, rooms.length, 4503599627370496, 0⟩] : List Ed) = [⟨rooms.length, k, R, 0⟩] ++ [⟨k, rooms.length, 4503599627370496, 0⟩] from rfl, ← List.append_assoc]; exact hJ4, (HK.out.trans HK3.out).trans hk4⟩
                case measure => simp [intOf]; omega
              · gi_wp2
                (repeat rw [Exit.noGoto_ret]); refine bodyPost_ret (results_none rfl _ _ _) rfl ?_
                exact ⟨⟨_, rfl⟩, .inr ⟨_, hJx4⟩⟩
            · gi_wp2
              repeat (refine ⟨fun f h => (by cases h), ?_⟩; gi_wp2)
              (repeat rw [Exit.noGoto_ret]); refine bodyPost_ret (results_none rfl _ _ _) rfl ?_
              exact ⟨⟨_, rfl⟩, .inr ⟨_, hJx3⟩⟩
          · obtain rfl : k = rooms.length := by omega
            gi_wp2
            go_end0
            exact ⟨⟨_, rfl⟩, .inl HJ.out⟩
      · gi_wp2
        (repeat rw [Exit.noGoto_ret]); refine bodyPost_ret (results_none rfl _ _ _) rfl ?_
        exact ⟨⟨_, rfl⟩, .inl (by rw [show EL O rooms true = O.map dueE from List.append_nil _]; exact HJ.out)⟩

/-- The edges that come, as a contract. -/
theorem bedges_stops (F : Fence) (n : Nat) (hf : F.fn 45) (hdep : F.depth = none) (hro : F.round = none) (hn : 1 ≤ n) (N : Nat) (S : Nat → Prop) (Bl Bc Br : Nat) (ao ar : Option Addr) (co cr : Nat) (O : List Du) (rooms : List Int) (c : Bool) (hsm : O.length ≤ 64) (hrm : rooms.length ≤ 16) (hmd : ∀ d ∈ O, MayD d)
    (hBl : Bl < N) (hSl : ¬ S Bl) (hBc : Bc < N) (hSc : ¬ S Bc) (hBr : Br < N) (hSr : ¬ S Br) (w : World) (hN : N ≤ w.heap.size)
    (cl : w.cell? ⟨Bl, 0, none⟩ = some (.slice ao O.length co)) (cc : w.cell? ⟨Bc, 0, none⟩ = some (.bool c)) (crr : w.cell? ⟨Br, 0, none⟩ = some (.slice ar rooms.length cr))
    (ce : ∀ (i : Nat) (hi : i < O.length), ∃ b o, ao = some ⟨b, o, none⟩ ∧ b < N ∧ ¬ S b ∧ ∀ (j : Nat), j < 7 → w.cell? ⟨b, o + i * 7 + j, none⟩ = (duR.cells O[i])[j]?) (cx : ∀ i, i < rooms.length → ∃ b o, ar = some ⟨b, o, none⟩ ∧ b < N ∧ ¬ S b ∧ w.cell? ⟨b, o + i, none⟩ = some (.int .i64 (rooms.getD i 0))) :
    SeqStopsK F n Try.prog 45 #[.pointer (some ⟨Bl, 0, none⟩), .pointer (some ⟨Bc, 0, none⟩), .pointer (some ⟨Br, 0, none⟩)] encB (KeepX N S) (fun xs => xs = EL O rooms c) (fun _ => True) (EL O rooms c).length w := fun l J Jx W hW hJ hJx hY h0 => by
  have hlt : ∀ b, b < N → b < w.heap.size := fun b hb => Nat.lt_of_lt_of_le hb hN
  have cell : ∀ b o, b < N → W.cell? ⟨b, o, none⟩ = w.cell? ⟨b, o, none⟩ := fun b o hb => hW.cell (p := ⟨b, o, none⟩) (hlt b hb)
  refine (bedges1_in F n hf hdep hro hn l N S Bl Bc Br ao ar co cr O rooms c hsm hrm hmd hBl hSl hBc hSc hBr hSr (fun pre W' => J pre W' ∧ W.heap.size ≤ W'.heap.size) (fun pre W' => Jx pre W') W (Nat.le_trans hN hW.size)
    (fun pre W1 o hs h => ?_) (fun pre x W1 h hlen => ?_) ((cell _ _ hBl).trans cl) ((cell _ _ hBc).trans cc) ((cell _ _ hBr).trans crr) (fun i hi => by obtain ⟨b, o, e, hb, hs, h⟩ := ce i hi; exact ⟨b, o, e, hb, hs, fun j hj => (cell _ _ hb).trans (h j hj)⟩) (fun i hi => by obtain ⟨b, o, e, hb, hs, h⟩ := cx i hi; exact ⟨b, o, e, hb, hs, (cell _ _ hb).trans h⟩) ⟨h0, Nat.le_refl _⟩).mono ?_
  · obtain ⟨h2, h3⟩ := h
    exact ⟨hJ pre _ _ none h2 (World.grownBy_alloc W1 o none) (fun r e => by cases e), by simp; omega⟩
  · obtain ⟨h2, h3⟩ := h
    obtain ⟨fn, tmps, assign, body, hy1, hR⟩ := hY pre x W1 h2 hlen
    refine ⟨fn, tmps, assign, body, hy1, hR.mono (fun e W' h => ?_)⟩
    rcases h with ⟨a1, a2, a3⟩ | ⟨a1, a2⟩
    · exact .inl ⟨a1, ⟨a2, Nat.le_trans h3 a3.1⟩, a3⟩
    · exact .inr ⟨a1, a2⟩
  · rintro e W' ⟨h1, h2⟩
    refine ⟨h1, ?_⟩
    rcases h2 with ⟨a2, _⟩ | ⟨p, a2⟩
    · exact .inl ⟨_, rfl, a2⟩
    · exact .inr ⟨p, trivial, a2⟩

set_option maxRecDepth 100000 in
theorem bedges_calls (ao ar : Option Addr) (no nr co cr : Nat) (c : Bool) (w : World) :
    Calls Try.prog 25 #[.slice ar nr cr, .slice ao no co, .bool c] w fun e w' => e = .returned (.func (.func 45) #[] #[.pointer (some ⟨w.heap.size + 1, 0, none⟩), .pointer (some ⟨w.heap.size + 2, 0, none⟩), .pointer (some ⟨w.heap.size, 0, none⟩)]) ∧ w' = ((w.alloc (.cells #[.slice ar nr cr] 22)).alloc (.cells #[.slice ao no co] 23)).alloc (.cells #[.bool c] 4) := by
  go_enter Try.func25, Try.ntmps25
  go_wp2_with fail
  go_ret
  exact ⟨rfl, rfl⟩
end Go.Proofs.Ytlbpkfjebaelpaa
