/-
  A net turned round, in another order, with other numbers. Plain lemmas.
-/
import Derived.Test.YtdjkpnddjiapgaaNAdds
namespace Go.NetP
open Go Go.Mem

def turnE (e : Ed) : Ed := ⟨e.t, e.f, e.c, e.k⟩
def mvI (n : Int) (k x : Int) : Int := if 0 ≤ x ∧ x < n then (x + k) % n else x
def mvE (n k : Int) (e : Ed) : Ed := ⟨mvI n k e.f, mvI n k e.t, e.c, e.k⟩
def backL (es : List Ed) : List Ed := es.map turnE
def moveL (n k : Int) (es : List Ed) : List Ed := es.map (mvE n k)

theorem edge_turn (n : Int) (e : Ed) : edgeB n (turnE e) = edgeB n e := by
  rw [Bool.eq_iff_iff, edgeB_iff, edgeB_iff]; simp only [turnE]; constructor <;> (rintro ⟨a, b, c⟩; exact ⟨b, a, c⟩)
theorem node_move {n k x : Int} : (0 ≤ mvI n k x ∧ mvI n k x < n) ↔ (0 ≤ x ∧ x < n) := by
  unfold mvI
  split
  · rename_i h
    have h1 := Int.emod_nonneg (x + k) (b := n) (by omega)
    have h2 := Int.emod_lt_of_pos (x + k) (b := n) (by omega)
    exact ⟨fun _ => h, fun _ => ⟨h1, h2⟩⟩
  · exact Iff.rfl
theorem edge_move (n k : Int) (e : Ed) : edgeB n (mvE n k e) = edgeB n e := by
  rw [Bool.eq_iff_iff, edgeB_iff, edgeB_iff]; simp only [mvE, node_move]
theorem costs_map (g : Ed → Ed) (h : ∀ e, (g e).c = e.c ∧ (g e).k = e.k) (es : List Ed) : costs (es.map g) = costs es := by
  unfold costs
  rw [List.map_map]
  congr 1
  refine List.map_congr_left fun e _ => ?_
  simp [costE, h]
theorem right_map (g : Ed → Ed) (h : ∀ e, (g e).c = e.c ∧ (g e).k = e.k) {n : Int} (he : ∀ e, edgeB n (g e) = edgeB n e) (es : List Ed) : rightB n (es.map g) = rightB n es := by
  unfold rightB
  rw [costs_map g h, List.length_map]
  have : edges n (es.map g) = edges n es := by
    unfold edges
    rw [List.all_map]
    congr 1
    funext e
    exact he e
  rw [this]
theorem right_rev (n : Int) (es : List Ed) : rightB n es.reverse = rightB n es := by
  unfold rightB
  have h1 : edges n es.reverse = edges n es := by unfold edges; rw [List.all_reverse]
  have h2 : costs es.reverse = costs es := by unfold costs; rw [List.map_reverse, List.sum_reverse]
  rw [h1, h2, List.length_reverse]
theorem within_iff (n : Int) (es : List Ed) (fl : List Int) : withinB n es fl = true ↔ fl.length = es.length ∧ rightB n es = true ∧ ∀ i (h : i < es.length), 0 ≤ fl.getD i 0 ∧ fl.getD i 0 ≤ es[i].c := by
  constructor
  · intro h
    exact ⟨(within_cap h).1, (within_cap h).2.1, fun i hi => within_at h hi⟩
  · rintro ⟨h1, h2, h3⟩
    refine within_ok h1 h2 fun j hj => ?_
    rw [capB_at (by omega)]
    have := h3 j (by omega)
    rw [Bool.and_eq_true, decide_eq_true_eq, decide_eq_true_eq]; exact this
theorem within_map (g : Ed → Ed) (h : ∀ e, (g e).c = e.c ∧ (g e).k = e.k) {n : Int} (he : ∀ e, edgeB n (g e) = edgeB n e) (es : List Ed) (fl : List Int) : withinB n (es.map g) fl = withinB n es fl := by
  rw [Bool.eq_iff_iff, within_iff, within_iff, right_map g h he]
  simp [h]
theorem rev_get {fl : List Int} {i : Nat} (h : i < fl.length) : fl.reverse.getD i 0 = fl.getD (fl.length - 1 - i) 0 := by
  have : fl.length - 1 - i < fl.length := by omega
  simp [h, this]
theorem within_rev (n : Int) (es : List Ed) (fl : List Int) : withinB n es.reverse fl.reverse = withinB n es fl := by
  rw [Bool.eq_iff_iff, within_iff, within_iff, right_rev]
  simp only [List.length_reverse]
  constructor
  · rintro ⟨h1, h2, h3⟩
    refine ⟨h1, h2, fun i hi => ?_⟩
    have := h3 (es.length - 1 - i) (by omega)
    rw [rev_get (by omega), h1, List.getElem_reverse] at this
    have e : es.length - 1 - (es.length - 1 - i) = i := by omega
    simpa only [e] using this
  · rintro ⟨h1, h2, h3⟩
    refine ⟨h1, h2, fun i hi => ?_⟩
    have := h3 (es.length - 1 - i) (by omega)
    rw [rev_get (by omega), h1, List.getElem_reverse]
    exact this
/-- What is over at a node, by pairs. -/
def ovz (v : Nat) (ps : List (Ed × Int)) : Int := (ps.map fun x => gain (decide (x.1.t = (v : Int))) x.2 - gain (decide (x.1.f = (v : Int))) x.2).sum
def cz (ps : List (Ed × Int)) : Int := (ps.map fun x => x.2 * x.1.k).sum
theorem ovz_at {es : List Ed} {fl : List Int} (v : Nat) (hl : fl.length = es.length) : ∀ m, m ≤ es.length → overAt es fl v m = ovz v ((es.zip fl).take m)
  | 0, _ => by simp [overAt, ovz]
  | m + 1, h => by
    have hz : m < (es.zip fl).length := by simp; omega
    have h2 : m < fl.length := by omega
    have h3 : m < es.length := by omega
    rw [overAt_succ, ovz_at v hl m (by omega), List.take_succ_eq_append_getElem hz, edAt_of h3]
    unfold ovz
    rw [List.map_append, List.sum_append]
    simp [h2]; omega
theorem ovz_all {es : List Ed} {fl : List Int} (v : Nat) (hl : fl.length = es.length) : overAt es fl v fl.length = ovz v (es.zip fl) := by
  rw [ovz_at v hl _ (by omega), List.take_of_length_le (by simp; omega)]
theorem cz_at {es : List Ed} {fl : List Int} (hl : fl.length = es.length) : ∀ m, m ≤ es.length → flowCost es fl m = cz ((es.zip fl).take m)
  | 0, _ => by simp [flowCost, cz]
  | m + 1, h => by
    have hz : m < (es.zip fl).length := by simp; omega
    have h2 : m < fl.length := by omega
    have h3 : m < es.length := by omega
    rw [flowCost_succ, cz_at hl m (by omega), List.take_succ_eq_append_getElem hz, edAt_of h3]
    unfold cz
    rw [List.map_append, List.sum_append]
    simp [h2]
theorem cz_all {es : List Ed} {fl : List Int} (hl : fl.length = es.length) : flowCost es fl fl.length = cz (es.zip fl) := by
  rw [cz_at hl _ (by omega), List.take_of_length_le (by simp; omega)]
theorem zip_rev {α β : Type} : ∀ (l : List α) (m : List β), l.length = m.length → l.reverse.zip m.reverse = (l.zip m).reverse := by
  intro l m h
  rw [List.zip_eq_zipWith, List.zip_eq_zipWith, List.reverse_zipWith h]
theorem ovz_rev (v : Nat) (ps : List (Ed × Int)) : ovz v ps.reverse = ovz v ps := by unfold ovz; rw [List.map_reverse, List.sum_reverse]
theorem cz_rev (ps : List (Ed × Int)) : cz ps.reverse = cz ps := by unfold cz; rw [List.map_reverse, List.sum_reverse]
theorem over_rev {es : List Ed} {fl : List Int} (n : Nat) (hl : fl.length = es.length) : overL n es.reverse fl.reverse = overL n es fl := by
  unfold overL
  refine List.map_congr_left fun v _ => ?_
  rw [ovz_all v (by simpa using hl), ovz_all v hl, zip_rev _ _ hl.symm, ovz_rev]
theorem cost_rev {es : List Ed} {fl : List Int} (n : Int) (hl : fl.length = es.length) : costV n es.reverse fl.reverse = costV n es fl := by
  unfold costV
  rw [within_rev, cz_all (by simpa using hl), cz_all hl, zip_rev _ _ hl.symm, cz_rev]
theorem zip_map_ed (g : Ed → Ed) (es : List Ed) (fl : List Int) : (es.map g).zip fl = (es.zip fl).map fun x => (g x.1, x.2) := by
  induction es generalizing fl with
  | nil => simp
  | cons e es ih => cases fl with
    | nil => simp
    | cons x fl => simp [ih]
theorem ovz_turn (v : Nat) (ps : List (Ed × Int)) : ovz v (ps.map fun x => (turnE x.1, x.2)) = - ovz v ps := by
  induction ps with
  | nil => simp [ovz]
  | cons x ps ih =>
    simp only [ovz, List.map_cons, List.sum_cons] at ih ⊢
    rw [ih]
    show gain (decide (x.1.f = (v : Int))) x.2 - gain (decide (x.1.t = (v : Int))) x.2 + _ = _
    omega
theorem cz_map (g : Ed → Ed) (h : ∀ e, (g e).c = e.c ∧ (g e).k = e.k) (ps : List (Ed × Int)) : cz (ps.map fun x => (g x.1, x.2)) = cz ps := by
  unfold cz
  rw [List.map_map]
  congr 1
  refine List.map_congr_left fun x _ => ?_
  simp [h]
theorem cost_map (g : Ed → Ed) (h : ∀ e, (g e).c = e.c ∧ (g e).k = e.k) {n : Int} (he : ∀ e, edgeB n (g e) = edgeB n e) {es : List Ed} {fl : List Int} (hl : fl.length = es.length) : costV n (es.map g) fl = costV n es fl := by
  unfold costV
  rw [within_map g h he, cz_all (by simpa using hl), cz_all hl, zip_map_ed, cz_map g h]
theorem over_turn {es : List Ed} {fl : List Int} {n : Nat} (hl : fl.length = es.length) {v : Nat} (hv : v < n) : (overL n (backL es) fl).getD v 0 = - (overL n es fl).getD v 0 := by
  rw [over_get _ _ hv, over_get _ _ hv, ovz_all v (by simpa [backL] using hl), ovz_all v hl, backL, zip_map_ed, ovz_turn]
theorem mod_inj {n k a b : Nat} (ha : a < n) (hb : b < n) (h : (a + k) % n = (b + k) % n) : a = b := by
  have h1 := Nat.div_add_mod (a + k) n
  have h2 := Nat.div_add_mod (b + k) n
  rw [h] at h1
  have hn : 0 < n := by omega
  rcases Nat.lt_trichotomy ((a + k) / n) ((b + k) / n) with q | q | q
  · have : n * ((a + k) / n) + n ≤ n * ((b + k) / n) := by rw [← Nat.mul_succ]; exact Nat.mul_le_mul_left n q
    omega
  · rw [q] at h1; omega
  · have : n * ((b + k) / n) + n ≤ n * ((a + k) / n) := by rw [← Nat.mul_succ]; exact Nat.mul_le_mul_left n q
    omega
theorem mv_eq {n k v : Nat} (hv : v < n) {x : Int} (hx : 0 ≤ x ∧ x < n) : decide (mvI n k x = (((v + k) % n : Nat) : Int)) = decide (x = (v : Int)) := by
  obtain ⟨X, rfl⟩ : ∃ X : Nat, x = X := ⟨x.toNat, by omega⟩
  have hX : X < n := by omega
  have e : mvI n k X = (((X + k) % n : Nat) : Int) := by
    unfold mvI; rw [if_pos hx]; simp
  rw [e]
  rw [Bool.eq_iff_iff, decide_eq_true_eq, decide_eq_true_eq]
  constructor
  · intro h; have : (X + k) % n = (v + k) % n := by omega
    rw [mod_inj hX hv this]
  · intro h; have : X = v := by omega
    rw [this]
theorem over_move {es : List Ed} {fl : List Int} {n k : Nat} (h : withinB n es fl = true) {v : Nat} (hv : v < n) : (overL n (moveL n k es) fl).getD ((v + k) % n) 0 = (overL n es fl).getD v 0 := by
  have hl := (within_cap h).1
  have hm : (v + k) % n < n := Nat.mod_lt _ (by omega)
  rw [over_get _ _ hm, over_get _ _ hv, ovz_all _ (by simpa [moveL] using hl), ovz_all v hl, moveL, zip_map_ed]
  unfold ovz
  rw [List.map_map]
  congr 1
  refine List.map_congr_left fun x hx => ?_
  have he := (edgeB_iff _ _).1 ((right_cap (within_cap h).2.1).2.2.2.2 x.1 (List.of_mem_zip hx).1)
  show gain (decide (mvI n k x.1.t = _)) x.2 - gain (decide (mvI n k x.1.f = _)) x.2 = _
  rw [mv_eq hv he.2.1, mv_eq hv he.1]
theorem flows_turn {es : List Ed} {fl : List Int} {n : Nat} (h : withinB n es fl = true) : flowsB n (backL es) fl = flowsB n es fl := by
  have hl := (within_cap h).1
  have hb : withinB n (backL es) fl = true := by rw [backL, within_map turnE (fun _ => ⟨rfl, rfl⟩) (edge_turn n)]; exact h
  have f : ∀ x, withinB n x fl = true → flowsB n x fl = (overL n x fl).all (fun x => x == 0) := fun x h => by simp [flowsB, overV, h]
  rw [f _ h, f _ hb, Bool.eq_iff_iff, all_zero, all_zero, over_len, over_len]
  constructor
  · intro k i hi; have := k i hi; rw [over_turn hl hi] at this; omega
  · intro k i hi; rw [over_turn hl hi, k i hi]; rfl
theorem flows_move {es : List Ed} {fl : List Int} {n k : Nat} (h : withinB n es fl = true) : flowsB n (moveL n k es) fl = flowsB n es fl := by
  have hb : withinB n (moveL n k es) fl = true := by rw [moveL, within_map (mvE n k) (fun _ => ⟨rfl, rfl⟩) (edge_move n k)]; exact h
  have f : ∀ x, withinB n x fl = true → flowsB n x fl = (overL n x fl).all (fun x => x == 0) := fun x h => by simp [flowsB, overV, h]
  have hn := (right_cap (within_cap h).2.1).1
  rw [f _ h, f _ hb, Bool.eq_iff_iff, all_zero, all_zero, over_len, over_len]
  constructor
  · intro q i hi; have := q ((i + k) % n) (Nat.mod_lt _ (by omega)); rw [over_move h hi] at this; exact this
  · intro q i hi
    have hk : k % n < n := Nat.mod_lt _ (by omega)
    have e : (((i + (n - k % n)) % n) + k) % n = i := by
      have h1 := Nat.div_add_mod k n
      rw [Nat.add_mod, Nat.mod_mod, ← Nat.add_mod]
      have : i + (n - k % n) + k = i + n * (k / n + 1) := by rw [Nat.mul_add]; omega
      rw [this, Nat.add_mul_mod_self_left, Nat.mod_eq_of_lt hi]
    have := over_move (k := k) h (v := (i + (n - k % n)) % n) (Nat.mod_lt _ (by omega))
    rw [e] at this
    rw [this]
    exact q _ (Nat.mod_lt _ (by omega))
end Go.NetP
