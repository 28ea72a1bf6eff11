/-
  A net turned round, as the law's loop makes it. Plain lemmas.
-/
import Derived.Test.YtdjkpnddjiapgaaNTurned
import Derived.WalkKit
namespace Go.NetP
open Go Go.Mem Go.RowKit

/-- How far the nodes' numbers go on. -/
def kOf (n : Int) (M : Nat) : Int := if 0 < n then (M : Int) % n else 0
theorem kOf_bound (n : Int) {M : Nat} (h : M ≤ 255) : 0 ≤ kOf n M ∧ kOf n M ≤ 255 := by
  unfold kOf
  split
  · obtain ⟨N, rfl⟩ : ∃ N : Nat, n = N := ⟨n.toNat, by omega⟩
    have e : (M : Int) % (N : Int) = ((M % N : Nat) : Int) := by simp
    have := Nat.mod_le M N
    rw [e]; omega
  · omega
def mvW (n k x : Int) : Int := if 0 ≤ x ∧ x < n then (wrap64 (x + k)).tmod n else x
def inB (n x : Int) : Bool := decide (0 ≤ x) && decide (x < n)
theorem inB_iff (n x : Int) : inB n x = true ↔ 0 ≤ x ∧ x < n := by simp [inB]
theorem mvW_no {n k x : Int} (h : inB n x = false) : mvW n k x = x := by
  unfold mvW
  rw [if_neg (fun h' => by rw [(inB_iff n x).2 h'] at h; cases h)]
theorem mvW_yes {n k x : Int} (h : inB n x = true) : mvW n k x = (wrap64 (x + k)).tmod n := by
  unfold mvW
  rw [if_pos ((inB_iff n x).1 h)]
def mwE (n k : Int) (e : Ed) : Ed := ⟨mvW n k e.f, mvW n k e.t, e.c, e.k⟩
theorem mvW_eq {n k x : Int} (hn : n ≤ 40) (hk : 0 ≤ k ∧ k ≤ 255) : mvW n k x = mvI n k x := by
  unfold mvW mvI
  split
  · rename_i h
    rw [IntWalk.wrap64_in _ ⟨by omega, by omega⟩, Int.tmod_eq_emod_of_nonneg (by omega)]
  · rfl
theorem mwL_eq {n k : Int} (hn : n ≤ 40) (hk : 0 ≤ k ∧ k ≤ 255) (es : List Ed) : es.map (mwE n k) = moveL n k es := by
  unfold moveL
  refine List.map_congr_left fun e _ => ?_
  simp only [mwE, mvE, mvW_eq hn hk]
theorem right_mw {n k : Int} (hk : 0 ≤ k ∧ k ≤ 255) (es : List Ed) : rightB n (es.map (mwE n k)) = rightB n es := by
  by_cases hn : n ≤ 40
  · rw [mwL_eq hn hk, moveL, right_map (mvE n k) (fun _ => ⟨rfl, rfl⟩) (edge_move n k)]
  · rw [right_n (by omega), right_n (by omega)]
theorem within_mw {n k : Int} (hk : 0 ≤ k ∧ k ≤ 255) (es : List Ed) (fl : List Int) : withinB n (es.map (mwE n k)) fl = withinB n es fl := by
  by_cases hn : n ≤ 40
  · rw [mwL_eq hn hk, moveL, within_map (mvE n k) (fun _ => ⟨rfl, rfl⟩) (edge_move n k)]
  · have h1 : rightB n es = false := right_n (by omega)
    have h2 : rightB n (es.map (mwE n k)) = false := right_n (by omega)
    simp [withinB, h1, h2]
theorem right_back (n : Int) (es : List Ed) : rightB n (backL es) = rightB n es := right_map turnE (fun _ => ⟨rfl, rfl⟩) (edge_turn n) es
theorem within_back (n : Int) (es : List Ed) (fl : List Int) : withinB n (backL es) fl = withinB n es fl := within_map turnE (fun _ => ⟨rfl, rfl⟩) (edge_turn n) es fl
theorem cost_back (n : Int) {es : List Ed} {fl : List Int} (hl : fl.length = es.length) : costV n (backL es) fl = costV n es fl := cost_map turnE (fun _ => ⟨rfl, rfl⟩) (edge_turn n) hl
theorem cost_move (n k : Int) {es : List Ed} {fl : List Int} (hl : fl.length = es.length) : costV n (moveL n k es) fl = costV n es fl := cost_map (mvE n k) (fun _ => ⟨rfl, rfl⟩) (edge_move n k) hl
theorem take_map_succ {α β : Type} (g : α → β) (es : List α) {i : Nat} (h : i < es.length) : (es.map g).take (i + 1) = (es.map g).take i ++ [g es[i]] := by
  rw [List.take_succ_eq_append_getElem (by simpa using h)]; simp
theorem take_rev_succ {α : Type} (es : List α) {i : Nat} (h : i < es.length) : es.reverse.take (i + 1) = es.reverse.take i ++ [es[es.length - 1 - i]] := by
  rw [List.take_succ_eq_append_getElem (by simpa using h)]; simp
theorem back_len (es : List Ed) : (backL es).length = es.length := by simp [backL]
end Go.NetP
