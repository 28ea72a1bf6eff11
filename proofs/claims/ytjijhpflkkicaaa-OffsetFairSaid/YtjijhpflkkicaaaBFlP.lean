/-
  What flows in a round's net, and what is permitted: plain.
-/
import Derived.Test.YtjijhpflkkicaaaBD
import Derived.Test.YtjijhpflkkicaaaBC
import Derived.Test.YtjijhpflkkicaaaBB
import Derived.Test.YtjijhpflkkicaaaNA
set_option linter.unusedVariables false
set_option linter.unusedSimpArgs false
namespace Go.BuildP
open Go Go.RowKit Go.Mem Go.MoneyP Go.NetP

theorem edAt_left {A B : List Ed} {j : Nat} (h : j < A.length) : edAt (A ++ B) j = edAt A j := by
  unfold edAt
  rw [List.getD_eq_getElem?_getD, List.getD_eq_getElem?_getD, List.getElem?_append_left h]
theorem edAt_right {A B : List Ed} (j : Nat) : edAt (A ++ B) (A.length + j) = edAt B j := by
  unfold edAt
  rw [List.getD_eq_getElem?_getD, List.getD_eq_getElem?_getD, List.getElem?_append_right (by omega)]
  congr 2; omega
theorem getD_left {a b : List Int} {j : Nat} (h : j < a.length) : (a ++ b).getD j 0 = a.getD j 0 := by
  rw [List.getD_eq_getElem?_getD, List.getD_eq_getElem?_getD, List.getElem?_append_left h]
theorem getD_right {a b : List Int} (j : Nat) : (a ++ b).getD (a.length + j) 0 = b.getD j 0 := by
  rw [List.getD_eq_getElem?_getD, List.getD_eq_getElem?_getD, List.getElem?_append_right (by omega)]
  congr 2; omega
theorem over_left {A B : List Ed} {a b : List Int} (h : A.length = a.length) (v : Nat) : ∀ i, i ≤ A.length → overAt (A ++ B) (a ++ b) v i = overAt A a v i
  | 0, _ => by simp [overAt]
  | i + 1, hi => by rw [overAt_succ, overAt_succ, over_left h v i (by omega), edAt_left (by omega), getD_left (by omega)]
theorem over_split {A B : List Ed} {a b : List Int} (h : A.length = a.length) (v : Nat) : ∀ k, overAt (A ++ B) (a ++ b) v (A.length + k) = overAt A a v A.length + overAt B b v k
  | 0 => by rw [Nat.add_zero, over_left h v _ (Nat.le_refl _)]; simp [overAt]
  | k + 1 => by
    rw [← Nat.add_assoc, overAt_succ, overAt_succ, over_split h v k, edAt_right, show A.length + k = a.length + k by rw [h], getD_right]; omega
theorem cost_left {A B : List Ed} {a b : List Int} (h : A.length = a.length) : ∀ i, i ≤ A.length → flowCost (A ++ B) (a ++ b) i = flowCost A a i
  | 0, _ => by simp [flowCost]
  | i + 1, hi => by rw [flowCost_succ, flowCost_succ, cost_left h i (by omega), edAt_left (by omega), getD_left (by omega)]
theorem cost_split {A B : List Ed} {a b : List Int} (h : A.length = a.length) : ∀ k, flowCost (A ++ B) (a ++ b) (A.length + k) = flowCost A a A.length + flowCost B b k
  | 0 => by rw [Nat.add_zero, cost_left h _ (Nat.le_refl _)]; simp [flowCost]
  | k + 1 => by
    rw [← Nat.add_assoc, flowCost_succ, flowCost_succ, cost_split h k, edAt_right, show A.length + k = a.length + k by rw [h], getD_right]; omega
theorem edAt_due {O : List Du} {i : Nat} (h : i < O.length) : edAt (O.map dueE) i = dueE O[i] := by
  rw [edAt_of (by simpa using h)]; simp
/-- What comes to a bank by the dues is what goes out of it, turned. -/
theorem over_due {n : Nat} {O : List Du} {ps : List Int} (h : RoundQ n O ps) (v : Nat) : ∀ i, i ≤ O.length → overAt (O.map dueE) ps v i = -(outQ n ((O.zip ps).take i)).getD v 0
  | 0, _ => by
    have : (List.replicate n (0 : Int)).getD v 0 = 0 := by rw [List.getD_eq_getElem?_getD, List.getElem?_replicate]; split <;> rfl
    simp [overAt, outQ, this, -List.getD_eq_getElem?_getD]
  | i + 1, hi => by
    have hlt : i < O.length := hi
    obtain ⟨hz, he⟩ := zip_at h.len hlt
    have hm := h.may _ (List.getElem_mem hz)
    rw [he] at hm
    obtain ⟨h1, h2, h3⟩ := hm
    dsimp only at h1 h2 h3
    have a1 := h1.f0
    have a2 := h1.t0
    rw [overAt_succ, over_due h v i (by omega), out_step h hlt, stepO_at h1 (by rw [outQ_len]; exact h2) (by rw [outQ_len]; exact h3), edAt_due hlt]
    unfold gain dueE
    dsimp only
    have e1 : ((O[i].t) = (v : Int)) ↔ O[i].t.toNat = v := by omega
    have e2 : ((O[i].f) = (v : Int)) ↔ O[i].f.toNat = v := by omega
    by_cases b1 : O[i].t.toNat = v <;> by_cases b2 : O[i].f.toNat = v <;> simp [e1, e2, b1, b2] <;> omega
theorem cost_due {O : List Du} {ps : List Int} (h : PayQ O ps) : ∀ i, i ≤ O.length → flowCost (O.map dueE) ps i = -worthQ ((O.zip ps).take i)
  | 0, _ => by simp [flowCost, worthQ]
  | i + 1, hi => by
    rw [flowCost_succ, cost_due h i (by omega), (worth_step h hi).1, edAt_due hi]
    unfold dueE
    dsimp only
    rw [Int.mul_neg, Int.mul_comm]; omega
theorem edAt_hub (rooms : List Int) : ∀ (m k : Nat), k < m → edAt (hubL rooms m) (2 * k) = ⟨rooms.length, k, rooms.getD k 0, 0⟩ ∧ edAt (hubL rooms m) (2 * k + 1) = ⟨k, rooms.length, 4503599627370496, 0⟩
  | m + 1, k, hk => by
    rw [hub_succ]
    by_cases e : k < m
    · obtain ⟨h1, h2⟩ := edAt_hub rooms m k e
      rw [edAt_left (by rw [hub_len]; omega), edAt_left (by rw [hub_len]; omega)]
      exact ⟨h1, h2⟩
    · obtain rfl : k = m := by omega
      have h1 := edAt_right (A := hubL rooms k) (B := [⟨rooms.length, k, rooms.getD k 0, 0⟩, ⟨k, rooms.length, 4503599627370496, 0⟩]) 0
      have h2 := edAt_right (A := hubL rooms k) (B := [⟨rooms.length, k, rooms.getD k 0, 0⟩, ⟨k, rooms.length, 4503599627370496, 0⟩]) 1
      rw [hub_len] at h1 h2
      exact ⟨h1, h2⟩
theorem over_hub (rooms : List Int) (b : List Int) (m v : Nat) (hv : v < rooms.length) : ∀ k, k ≤ m → overAt (hubL rooms m) b v (2 * k) = if v < k then b.getD (2 * v) 0 - b.getD (2 * v + 1) 0 else 0
  | 0, _ => by simp [overAt]
  | k + 1, hk => by
    obtain ⟨h1, h2⟩ := edAt_hub rooms m k hk
    rw [show 2 * (k + 1) = 2 * k + 1 + 1 by omega, overAt_succ, overAt_succ, over_hub rooms b m v hv k (by omega), h1, h2]
    unfold gain
    dsimp only
    have q1 : ¬ ((rooms.length : Int) = (v : Int)) := by omega
    by_cases e : v = k
    · subst e; simp [q1]
    · have q2 : ¬ ((k : Int) = (v : Int)) := by omega
      by_cases e2 : v < k
      · have : v < k + 1 := by omega
        simp [q1, q2, e2, this]
      · have : ¬ v < k + 1 := by omega
        simp [q1, q2, e2, this]
theorem cost_hub (rooms : List Int) (b : List Int) (m : Nat) : ∀ k, k ≤ m → flowCost (hubL rooms m) b (2 * k) = 0
  | 0, _ => by simp [flowCost]
  | k + 1, hk => by
    obtain ⟨h1, h2⟩ := edAt_hub rooms m k hk
    rw [show 2 * (k + 1) = 2 * k + 1 + 1 by omega, flowCost_succ, flowCost_succ, cost_hub rooms b m k (by omega), h1, h2]
    simp
/-- The hub's edges of a round. -/
def hubC (rooms : List Int) (c : Bool) : List Ed := if c then [] else hubL rooms rooms.length
theorem edges_hub (rooms : List Int) (l : List Du) (c : Bool) : edgesL rooms l c = (openL l).map dueE ++ hubC rooms c := edges_eq rooms l c
theorem hubC_len (rooms : List Int) (c : Bool) : (hubC rooms c).length = if c then 0 else 2 * rooms.length := by unfold hubC; cases c <;> simp [hub_len]

theorem costs_app (a b : List Ed) : costs (a ++ b) = costs a + costs b := by unfold costs; rw [List.map_append, List.sum_append]
theorem costs_due : ∀ (O : List Du), (∀ d ∈ O, MayD d) → (costs (O.map dueE) : Int) ≤ 1000 * (O.map (·.x)).sum
  | [], _ => by simp [costs]
  | d :: t, h => by
    have ih := costs_due t (fun q hq => h q (List.mem_cons_of_mem _ hq))
    have hd := h d List.mem_cons_self
    have e : costs ((d :: t).map dueE) = costE (dueE d) + costs (t.map dueE) := by simp [costs]
    rw [e, List.map_cons, List.sum_cons]
    have h1 : costE (dueE d) = d.x.toNat * d.w.toNat := by
      unfold costE dueE absI
      dsimp only
      rw [Int.natAbs_neg, show d.w.natAbs = d.w.toNat by have := hd.w0; omega]
    have h2 : d.x.toNat * d.w.toNat ≤ d.x.toNat * 1000 := Nat.mul_le_mul (Nat.le_refl _) (by have := hd.w1; omega)
    have h3 : ((d.x.toNat * 1000 : Nat) : Int) = d.x * 1000 := by rw [Int.natCast_mul, Int.toNat_of_nonneg (by have := hd.x0; omega)]; rfl
    rw [h1]
    omega
theorem costs_hub (rooms : List Int) : ∀ m, costs (hubL rooms m) = 0
  | 0 => rfl
  | m + 1 => by rw [hub_succ, costs_app, costs_hub rooms m]; simp [costs, costE, absI]
theorem hub_edges {rooms : List Int} (hm : mays rooms = true) : ∀ m, m ≤ rooms.length → ∀ e ∈ hubL rooms m, edgeB (rooms.length + 1) e = true
  | 0, _, e, he => by simp [hubL] at he
  | m + 1, h, e, he => by
    rw [hub_succ, List.mem_append] at he
    rcases he with he | he
    · exact hub_edges hm m (by omega) e he
    · have := mays_at hm h
      rw [edgeB_iff]
      simp only [List.mem_cons, List.not_mem_nil, or_false] at he
      rcases he with rfl | rfl <;> (dsimp only; omega)
theorem open_mem {l : List Du} {d : Du} (h : d ∈ openL l) : d ∈ l := (List.mem_filter.1 h).1
/-- A round's net is right. -/
theorem right_net {rooms : List Int} {l : List Du} (h : rightR rooms l = true) (c : Bool) : rightB (rooms.length + 1) (edgesL rooms l c) = true := by
  obtain ⟨h1, h2, h3, h4, h5⟩ := right_parts h
  have ho := open_le l
  rw [edges_hub]
  refine right_ok (by omega) (by omega) ?_ ?_ ?_
  · rw [List.length_append, List.length_map, hubC_len]; cases c <;> simp <;> omega
  · unfold NetP.edges
    rw [List.all_eq_true]
    intro e he
    rw [List.mem_append] at he
    rcases he with he | he
    · obtain ⟨d, hd, rfl⟩ := List.mem_map.1 he
      obtain ⟨m, q1, q2⟩ := h4 d (open_mem hd)
      have := m.f0; have := m.t0; have := m.x0; have := m.x1; have := m.w0; have := m.w1
      rw [edgeB_iff]
      unfold dueE
      dsimp only
      omega
    · unfold hubC at he
      cases c
      · exact hub_edges h3 _ (Nat.le_refl _) e he
      · simp at he
  · rw [costs_app]
    have q1 := costs_due (openL l) (fun d hd => (h4 d (open_mem hd)).1)
    have q2 := open_sum (fun d hd => (h4 d hd).1)
    have q3 : costs (hubC rooms c) = 0 := by unfold hubC; cases c; exact costs_hub rooms _; rfl
    omega
theorem zip_take_len {O : List Du} {ps : List Int} (h : O.length = ps.length) : (O.zip ps).take O.length = O.zip ps := List.take_of_length_le (by rw [List.length_zip]; omega)
theorem take_getD' {a : List Int} {i k : Nat} (h : i < k) : (a.take k).getD i 0 = a.getD i 0 := by
  rw [List.getD_eq_getElem?_getD, List.getD_eq_getElem?_getD, List.getElem?_take, if_pos h]
theorem all_pay {O : List Du} {ps : List Int} (hl : O.length = ps.length) (h : ∀ (i : Nat) (hi : i < O.length), 0 ≤ ps.getD i 0 ∧ ps.getD i 0 ≤ (O[i]).x) : (O.zip ps).all payB = true := by
  rw [List.all_eq_true]
  intro q hq
  obtain ⟨i, hi, rfl⟩ := List.getElem_of_mem hq
  have hi' : i < O.length := by rw [List.length_zip] at hi; omega
  obtain ⟨hz, he⟩ := zip_at hl hi'
  rw [he]
  have := h i hi'
  simp [payB, this, -List.getD_eq_getElem?_getD]
theorem flows_over {n : Nat} {es : List Ed} {fl : List Int} (h : flowsB n es fl = true) : withinB n es fl = true ∧ ∀ v, v < n → overAt es fl v fl.length = 0 := by
  simp only [flowsB, Bool.and_eq_true] at h
  refine ⟨h.1, fun v hv => ?_⟩
  have := h.2
  rw [overV, if_pos h.1, all_zero] at this
  have h2 := this v (by rw [Int.toNat_natCast, over_len]; exact hv)
  rwa [Int.toNat_natCast, over_get _ _ hv] at h2
/-- What flows pays what is permitted. -/
theorem flows_pay {rooms : List Int} {l : List Du} {c : Bool} {fl : List Int} (h : rightR rooms l = true) (hf : flowsB (rooms.length + 1) (edgesL rooms l c) fl = true) :
    permitB rooms l c (fl.take (openL l).length) = true ∧ (openL l).length ≤ fl.length ∧ costV (rooms.length + 1) (edgesL rooms l c) fl = -worthQ ((openL l).zip (fl.take (openL l).length)) := by
  obtain ⟨h1, h2, h3, h4, h5⟩ := right_parts h
  have hf' : flowsB ((rooms.length + 1 : Nat) : Int) (edgesL rooms l c) fl = true := by simpa using hf
  obtain ⟨hw, hz⟩ := flows_over hf'
  obtain ⟨hl, _, _⟩ := within_cap hw
  obtain ⟨O, hO⟩ : ∃ O, O = openL l := ⟨_, rfl⟩
  have hE : edgesL rooms l c = O.map dueE ++ hubC rooms c := by rw [hO]; exact edges_hub rooms l c
  have hlen : fl.length = O.length + (hubC rooms c).length := by rw [hl, hE, List.length_append, List.length_map]
  obtain ⟨a, ha⟩ : ∃ a, a = fl.take O.length := ⟨_, rfl⟩
  obtain ⟨b, hb⟩ : ∃ b, b = fl.drop O.length := ⟨_, rfl⟩
  have hab : fl = a ++ b := by rw [ha, hb, List.take_append_drop]
  have hal : O.length = a.length := by rw [ha, List.length_take]; omega
  have hbl : b.length = (hubC rooms c).length := by rw [hb, List.length_drop]; omega
  have hal' : (O.map dueE).length = a.length := by rw [List.length_map]; exact hal
  have hRQ : RoundQ rooms.length O a := by rw [hO] at hal ⊢; exact roundQ h hal
  have hpay : (O.zip a).all payB = true := all_pay hal fun i hi => by
    have hiE : i < (edgesL rooms l c).length := by rw [hE, List.length_append, List.length_map]; omega
    have := within_at hw hiE
    have e1 : (edgesL rooms l c)[i] = dueE O[i] := by
      rw [← edAt_of hiE, hE, edAt_left (by simpa using hi), edAt_due hi]
    rw [e1] at this
    rw [ha, take_getD' hi]
    exact this
  have hPQ : PayQ O a := ⟨hal, fun q hq => (hRQ.may q hq).1, hpay, hRQ.sum⟩
  have hover : ∀ v, overAt (edgesL rooms l c) fl v fl.length = -(outQ rooms.length (O.zip a)).getD v 0 + overAt (hubC rooms c) b v (hubC rooms c).length := fun v => by
    rw [hE, hlen, show O.length = (O.map dueE).length by simp, hab, over_split hal', List.length_map, over_due hRQ v _ (Nat.le_refl _), zip_take_len hal]
  have hcost : flowCost (edgesL rooms l c) fl fl.length = -worthQ (O.zip a) := by
    rw [hE, hlen, show O.length = (O.map dueE).length by simp, hab, cost_split hal', List.length_map, cost_due hPQ _ (Nat.le_refl _), zip_take_len hal]
    unfold hubC
    cases c
    · simp [hub_len, cost_hub rooms b _ _ (Nat.le_refl _)]
    · simp [flowCost]
  rw [← hO, ← ha]
  refine ⟨?_, by omega, by rw [costV, if_pos (by simpa using hw), hcost]⟩
  unfold permitB permitQ
  rw [h, ← hO, hal, hpay]
  simp only [decide_true, Bool.and_true, Bool.true_and, Bool.and_eq_true]
  rw [List.all_eq_true]
  intro v hv
  have hv := List.mem_range.1 hv
  have q := hover v
  rw [hz v (by omega)] at q
  unfold fitI
  have hr := mays_at h3 hv
  cases c
  · have e : hubC rooms false = hubL rooms rooms.length := rfl
    rw [e, hub_len, over_hub rooms b _ v hv _ (Nat.le_refl _), if_pos hv] at q
    have hb' : b.length = 2 * rooms.length := by rw [hbl, e, hub_len]
    have hiE : ∀ k, k < 2 * rooms.length → O.length + k < (edgesL rooms l false).length := fun k hk => by rw [hE, e, List.length_append, List.length_map, hub_len]; omega
    have w1 := within_at hw (hiE (2 * v) (by omega))
    have w2 := within_at hw (hiE (2 * v + 1) (by omega))
    have e1 : (edgesL rooms l false)[O.length + 2 * v]'(hiE _ (by omega)) = ⟨rooms.length, v, rooms.getD v 0, 0⟩ := by
      rw [← edAt_of (hiE _ (by omega)), hE, e, show O.length = (O.map dueE).length by simp, edAt_right, (edAt_hub rooms _ v hv).1]
    rw [e1, hab, hal, getD_right] at w1
    have w2 := w2.1
    rw [hab, hal, getD_right] at w2
    dsimp only at w1
    simp only [Bool.not_false, Bool.true_or, Bool.and_true, decide_eq_true_eq]
    omega
  · have e : hubC rooms true = [] := rfl
    rw [e] at q
    simp [overAt, -List.getD_eq_getElem?_getD] at q
    simp only [Bool.not_true, Bool.false_or, Bool.and_eq_true, decide_eq_true_eq]
    omega
/-- What goes out of a bank, or comes in. -/
def outY (o : List Int) (n : Nat) : List Int := (List.range n).flatMap fun i => [max (o.getD i 0) 0, max (-(o.getD i 0)) 0]
theorem outY_succ (o : List Int) (n : Nat) : outY o (n + 1) = outY o n ++ [max (o.getD n 0) 0, max (-(o.getD n 0)) 0] := by
  unfold outY
  rw [List.range_succ, List.flatMap_append]
  simp
theorem outY_len (o : List Int) : ∀ n, (outY o n).length = 2 * n
  | 0 => rfl
  | n + 1 => by rw [outY_succ, List.length_append, outY_len o n]; simp; omega
theorem outY_at (o : List Int) : ∀ (m k : Nat), k < m → (outY o m).getD (2 * k) 0 = max (o.getD k 0) 0 ∧ (outY o m).getD (2 * k + 1) 0 = max (-(o.getD k 0)) 0
  | m + 1, k, hk => by
    rw [outY_succ]
    by_cases e : k < m
    · obtain ⟨h1, h2⟩ := outY_at o m k e
      rw [getD_left (by rw [outY_len]; omega), getD_left (by rw [outY_len]; omega)]
      exact ⟨h1, h2⟩
    · obtain rfl : k = m := by omega
      have h1 := getD_right (a := outY o k) (b := [max (o.getD k 0) 0, max (-(o.getD k 0)) 0]) 0
      have h2 := getD_right (a := outY o k) (b := [max (o.getD k 0) 0, max (-(o.getD k 0)) 0]) 1
      rw [outY_len] at h1 h2
      exact ⟨h1, h2⟩
/-- The flow of what is paid. -/
def flowL (rooms : List Int) (l : List Du) (c : Bool) (ps : List Int) : List Int := ps ++ if c then [] else outY (outQ rooms.length ((openL l).zip ps)) rooms.length
theorem sum_last : ∀ (xs : List Int) (n : Nat), xs.length = n + 1 → (∀ v, v < n → xs.getD v 0 = 0) → xs.sum = xs.getD n 0
  | [x], 0, _, _ => by simp
  | x :: y :: t, 0, h, _ => by simp at h
  | [], n, h, _ => by simp at h
  | x :: t, n + 1, h, hz => by
    have h0 := hz 0 (by omega)
    simp at h0
    rw [List.sum_cons, h0, sum_last t n (by simpa using h) (fun v hv => by have := hz (v + 1) (by omega); simpa using this)]
    simp
/-- What is permitted flows. -/
theorem pay_flows {rooms : List Int} {l : List Du} {c : Bool} {ps : List Int} (hp : permitB rooms l c ps = true) :
    flowsB (rooms.length + 1) (edgesL rooms l c) (flowL rooms l c ps) = true ∧ costV (rooms.length + 1) (edgesL rooms l c) (flowL rooms l c ps) = -worthQ ((openL l).zip ps) := by
  simp only [permitB, permitQ, Bool.and_eq_true, decide_eq_true_eq] at hp
  obtain ⟨⟨h, hal⟩, hpay, hfit⟩ := hp
  obtain ⟨h1, h2, h3, h4, h5⟩ := right_parts h
  have hRQ := roundQ h hal
  have hPQ : PayQ (openL l) ps := ⟨hal, fun q hq => (hRQ.may q hq).1, hpay, hRQ.sum⟩
  obtain ⟨O, hO⟩ : ∃ O, O = openL l := ⟨_, rfl⟩
  have hE : edgesL rooms l c = O.map dueE ++ hubC rooms c := by rw [hO]; exact edges_hub rooms l c
  rw [← hO] at hal hpay hfit hRQ hPQ
  obtain ⟨o, ho⟩ : ∃ o, o = outQ rooms.length (O.zip ps) := ⟨_, rfl⟩
  obtain ⟨b, hb⟩ : ∃ b, b = (if c then [] else outY o rooms.length : List Int) := ⟨_, rfl⟩
  have hF : flowL rooms l c ps = ps ++ b := by rw [flowL, ← hO, ← ho, hb]
  have hbl : b.length = (hubC rooms c).length := by rw [hb, hubC_len]; cases c <;> simp [outY_len]
  have hal' : (O.map dueE).length = ps.length := by rw [List.length_map]; exact hal
  have hfl : ∀ v, v < rooms.length → o.getD v 0 ≤ rooms.getD v 0 ∧ (c = true → o.getD v 0 = 0) := fun v hv => by
    have := List.all_eq_true.1 hfit v (List.mem_range.2 hv)
    rw [← ho] at this
    simp only [fitI, Bool.and_eq_true, decide_eq_true_eq, Bool.or_eq_true, Bool.not_eq_true'] at this
    exact ⟨this.1, fun e => by rcases this.2 with q | q; exact absurd (q.symm.trans e) (by decide); exact q⟩
  have hnear : ∀ v, -4503599627370496 ≤ o.getD v 0 ∧ o.getD v 0 ≤ 4503599627370496 := fun v => by
    have := out_near hRQ O.length (by rw [zip_take_len hal]; exact hpay) v
    rw [zip_take_len hal, ← ho] at this
    exact this
  have hlen : (ps ++ b).length = (edgesL rooms l c).length := by rw [hE, List.length_append, List.length_append, List.length_map, hbl, hal]
  have hw : withinB ((rooms.length + 1 : Nat) : Int) (edgesL rooms l c) (ps ++ b) = true := by
    refine within_ok hlen (by simpa using right_net h c) fun j hj => ?_
    have hjE : j < (edgesL rooms l c).length := by omega
    rw [capB_at hjE, ← edAt_of hjE, hE]
    by_cases e : j < O.length
    · rw [edAt_left (by simpa using e), edAt_due e, getD_left (by omega)]
      obtain ⟨hz, he⟩ := zip_at hal e
      have := List.all_eq_true.1 hpay _ (List.getElem_mem hz)
      rw [he] at this
      simpa [payB, dueE] using this
    · obtain ⟨k, rfl⟩ : ∃ k, j = O.length + k := ⟨j - O.length, by omega⟩
      have hk : k < b.length := by rw [List.length_append] at hj; omega
      rw [show edAt (O.map dueE ++ hubC rooms c) (O.length + k) = edAt (hubC rooms c) k by have := edAt_right (A := O.map dueE) (B := hubC rooms c) k; rwa [List.length_map] at this, hal, getD_right]
      cases c
      · have e2 : hubC rooms false = hubL rooms rooms.length := rfl
        have e3 : b = outY o rooms.length := hb
        rw [e3, outY_len] at hk
        rw [e2, e3]
        obtain ⟨v, hv⟩ : ∃ v, k = 2 * v ∨ k = 2 * v + 1 := ⟨k / 2, by omega⟩
        have hvn : v < rooms.length := by omega
        obtain ⟨a1, a2⟩ := edAt_hub rooms _ v hvn
        obtain ⟨b1, b2⟩ := outY_at o _ v hvn
        have c1 := hfl v hvn
        have c2 := hnear v
        have c3 := mays_at h3 hvn
        rcases hv with rfl | rfl
        · rw [a1, b1]; simp only [Bool.and_eq_true, decide_eq_true_eq]; omega
        · rw [a2, b2]; simp only [Bool.and_eq_true, decide_eq_true_eq]; omega
      · rw [hb] at hk; simp at hk
  have hover : ∀ v, overAt (edgesL rooms l c) (ps ++ b) v (ps ++ b).length = -o.getD v 0 + overAt (hubC rooms c) b v (hubC rooms c).length := fun v => by
    rw [hE, List.length_append, ← hal, hbl, show O.length = (O.map dueE).length by simp, over_split hal', List.length_map, over_due hRQ v _ (Nat.le_refl _), zip_take_len hal, ho]
  have hcost : flowCost (edgesL rooms l c) (ps ++ b) (ps ++ b).length = -worthQ (O.zip ps) := by
    rw [hE, List.length_append, ← hal, hbl, show O.length = (O.map dueE).length by simp, cost_split hal', List.length_map, cost_due hPQ _ (Nat.le_refl _), zip_take_len hal]
    unfold hubC
    cases c
    · simp [hub_len, cost_hub rooms b _ _ (Nat.le_refl _)]
    · simp [flowCost]
  have hz : ∀ v, v < rooms.length → overAt (edgesL rooms l c) (ps ++ b) v (ps ++ b).length = 0 := fun v hv => by
    rw [hover]
    cases c
    · have e : hubC rooms false = hubL rooms rooms.length := rfl
      have e3 : b = outY o rooms.length := hb
      obtain ⟨b1, b2⟩ := outY_at o _ v hv
      rw [e, hub_len, over_hub rooms b _ v hv _ (Nat.le_refl _), if_pos hv, e3, b1, b2]
      omega
    · have e : hubC rooms true = [] := rfl
      rw [e, (hfl v hv).2 rfl]
      simp [overAt]
  rw [hF, ← hO]
  refine ⟨?_, by rw [costV, if_pos (by simpa using hw), hcost]⟩
  have hw' : withinB (rooms.length + 1) (edgesL rooms l c) (ps ++ b) = true := by simpa using hw
  rw [flowsB, hw', overV, if_pos hw', Bool.true_and]
  rw [show ((rooms.length : Int) + 1).toNat = rooms.length + 1 by omega]
  have hs := sums_zero hw
  have hzz : ∀ v, v < rooms.length → (overL (rooms.length + 1) (edgesL rooms l c) (ps ++ b)).getD v 0 = 0 := fun v hv => by rw [over_get _ _ (by omega)]; exact hz v hv
  have hlast := sum_last _ rooms.length over_len hzz
  rw [hs] at hlast
  rw [all_zero, over_len]
  intro i hi
  by_cases e : i < rooms.length
  · exact hzz i e
  · obtain rfl : i = rooms.length := by omega
    exact hlast.symm
end Go.BuildP
