/-
  Rings, round by round: plain.
-/
import Derived.Test.YtjijhpflkkicaaaOPlain7
set_option linter.unusedVariables false
set_option linter.unusedSimpArgs false
namespace Go.OffP
open Go Go.Mem Go.MoneyP Go.BuildP
theorem payO_out {P : List Nat} (x : Int) {m : Nat} (hm : m ∉ P) : ∀ (q : List Nat) (Out : List Int), (∀ k ∈ q, k < P.length) → (payO P x q Out).getD m 0 = Out.getD m 0
  | [], _, _ => rfl
  | k :: q, Out, h => by
    unfold payO
    rw [List.foldl_cons]
    have ih := payO_out x hm q (Out.set (P.getD k 0) (Out.getD (P.getD k 0) 0 + x)) (fun j hj => h j (List.mem_cons_of_mem _ hj))
    unfold payO at ih
    rw [ih, List.getD_eq_getElem?_getD, List.getElem?_set, if_neg, ← List.getD_eq_getElem?_getD]
    intro e
    rw [getN (h k List.mem_cons_self)] at e
    exact hm (e ▸ List.getElem_mem _)
theorem payO_at {P : List Nat} (x : Int) (hnd : P.Nodup) {j : Nat} (hj : j < P.length) : ∀ (q : List Nat) (Out : List Int), q.Nodup → (∀ k ∈ q, k < P.length) → (∀ m ∈ P, m < Out.length) → (payO P x q Out).getD P[j] 0 = Out.getD P[j] 0 + if j ∈ q then x else 0
  | [], _, _, _, _ => by simp [payO]
  | k :: q, Out, hq, h, hl => by
    have hk := h k List.mem_cons_self
    have hkl : P[k] < Out.length := hl _ (List.getElem_mem hk)
    rw [List.nodup_cons] at hq
    unfold payO
    rw [List.foldl_cons]
    have ih := payO_at x hnd hj q (Out.set (P.getD k 0) (Out.getD (P.getD k 0) 0 + x)) hq.2 (fun j hj => h j (List.mem_cons_of_mem _ hj)) (fun m hm => by rw [List.length_set]; exact hl m hm)
    unfold payO at ih
    rw [ih, getN hk, set_getD _ _ _ _ hkl]
    by_cases e : k = j
    · subst e
      rw [if_pos rfl, if_neg hq.1, if_pos List.mem_cons_self]; omega
    · have hne : P[k] ≠ P[j] := fun h => e ((List.getElem_inj hnd).1 h)
      rw [if_neg hne]
      congr 1
      simp only [List.mem_cons, show ¬ j = k from fun h => e h.symm, false_or]
/-- At each round. -/
structure RgO (O : List Du) (Out : List Int) (r : Nat) : Prop where
  len : Out.length = O.length
  lo : ∀ m, m < O.length → 0 ≤ Out.getD m 0
  hi : ∀ m, m < O.length → Out.getD m 0 ≤ (O.getD m default).x
  bal : ∀ a, bal O Out a = 0
  cnt : r + (leftP O Out).length ≤ O.length
  zero : r = 0 → Out = List.replicate O.length 0
  first : 0 < r → ¬ Acyc O
theorem bal_zero (O : List Du) (a : Int) : ∀ n, bal O (List.replicate n 0) a = 0 := by
  induction O with
  | nil => intro n; simp [bal]
  | cons d O ih =>
    intro n
    cases n with
    | zero => simp [bal]
    | succ n =>
      have := ih n
      unfold bal flowD at this ⊢
      rw [List.replicate_succ, List.zip_cons_cons, List.map_cons, List.sum_cons, this]
      simp
theorem rep_getD (n m : Nat) : (List.replicate n (0 : Int)).getD m 0 = 0 := by
  rw [List.getD_eq_getElem?_getD, List.getElem?_replicate]
  split <;> rfl
theorem restD_zero (O : List Du) (n : Nat) {m : Nat} (hm : m < O.length) : restD O (List.replicate n 0) m = O[m] := by
  unfold restD payD
  rw [rep_getD, getDu hm]
  simp
theorem leftP_start {O : List Du} (h : ∀ d ∈ O, 1 ≤ d.x) : leftP O (List.replicate O.length 0) = List.range O.length := by
  unfold leftP
  rw [List.filter_eq_self]
  intro m hm
  rw [List.mem_range] at hm
  unfold posP
  rw [restD_zero O _ hm]
  have := h _ (List.getElem_mem hm)
  exact decide_eq_true (by omega)
theorem leftS_start {O : List Du} (h : ∀ d ∈ O, 1 ≤ d.x) : leftS O (List.replicate O.length 0) = O := by
  unfold leftS
  rw [leftP_start h]
  refine List.ext_getElem (by simp) fun j h1 h2 => ?_
  rw [List.getElem_map, List.getElem_range, restD_zero O _ h2]
theorem RgO.start {O : List Du} (h : ∀ d ∈ O, 1 ≤ d.x) : RgO O (List.replicate O.length 0) 0 :=
  ⟨by simp, fun m _ => by rw [rep_getD]; exact Int.le_refl _, fun m hm => by
    rw [rep_getD, getDu hm]
    have := h _ (List.getElem_mem hm)
    omega, fun a => bal_zero O a _, by rw [leftP_start h]; simp, fun _ => rfl, fun h => absurd h (Nat.lt_irrefl 0)⟩
theorem leftS_at {O : List Du} {Out : List Int} {k : Nat} (hk : k < (leftP O Out).length) : (leftS O Out).getD k default = restD O Out (leftP O Out)[k] := by
  unfold leftS
  rw [List.getD_eq_getElem?_getD, List.getElem?_map, List.getElem?_eq_getElem hk]; rfl
theorem leftS_len (O : List Du) (Out : List Int) : (leftS O Out).length = (leftP O Out).length := by unfold leftS; rw [List.length_map]
theorem leftS_may {O : List Du} {Out : List Int} (hO : ∀ d ∈ O, MayD d) (hlen : Out.length = O.length) (hlo : ∀ m, m < O.length → 0 ≤ Out.getD m 0) : ∀ d ∈ leftS O Out, MayD d := by
  intro d hd
  unfold leftS at hd
  obtain ⟨m, hm, rfl⟩ := List.mem_map.1 hd
  have hml := leftP_lt hm
  have h0 := hO _ (List.getElem_mem hml)
  unfold leftP at hm
  rw [List.mem_filter] at hm
  have hp := hm.2
  unfold posP at hp
  have hp := of_decide_eq_true hp
  have h1 := hlo m hml
  unfold restD payD at hp ⊢
  rw [getDu hml] at hp ⊢
  dsimp only at hp
  have hx1 := h0.x1
  exact ⟨h0.f0, h0.f1, h0.t0, h0.t1, h0.ne, by dsimp only; omega, by dsimp only; omega, h0.w0, h0.w1, h0.u0⟩
/-- The same ways in what is left as at first. -/
theorem leftS_way {O : List Du} {Out : List Int} : ∀ {p : List Nat} {a b : Int}, Way (leftS O Out) a p b → Way O a (p.map fun k => (leftP O Out).getD k 0) b
  | [], _, _, h => h
  | k :: ks, a, b, ⟨c, e, h⟩ => by
    have hk : k < (leftP O Out).length := by rw [← leftS_len]; exact e.lt
    refine ⟨c, ?_, leftS_way h⟩
    have hml := leftP_lt (List.getElem_mem hk)
    have hg : (leftS O Out)[k]'e.lt = restD O Out (leftP O Out)[k] := by
      rw [← getDu e.lt, leftS_at hk]
    have h1 := e.opn
    have h2 := e.fr
    have h3 := e.to
    rw [hg] at h1 h2 h3
    unfold restD payD at h1 h2 h3
    rw [getDu hml] at h1 h2 h3
    dsimp only at h1 h2 h3
    refine ⟨show (leftP O Out).getD k 0 < _ by rw [getN hk]; exact hml, ?_, ?_, ?_⟩
    · simp only [getN hk]; exact h1
    · simp only [getN hk]; exact h2
    · simp only [getN hk]; exact h3
theorem RgO.step {O : List Du} {Out : List Int} {r : Nat} (h : RgO O Out r) (hO : ∀ d ∈ O, MayD d) {q : List Nat} (hq : RingD (leftS O Out) q) :
    RgO O (payO (leftP O Out) (leastR (leftS O Out) q) q Out) (r + 1) ∧ (leftP O (payO (leftP O Out) (leastR (leftS O Out) q) q Out)).length < (leftP O Out).length ∧
    (∀ m, m < O.length → Out.getD m 0 ≤ (payO (leftP O Out) (leastR (leftS O Out) q) q Out).getD m 0) := by
  have hmay := leftS_may hO h.len h.lo
  have hx := leastI_may hmay hq (Nat.le_refl q.length)
  have hmem : ∀ k ∈ q, k < (leftP O Out).length := fun k hk => by rw [← leftS_len]; exact hq.mem k hk
  have hqn : q.Nodup := (List.pairwise_map.1 hq.nd).imp fun h e => h (congrArg _ e)
  have hPl : ∀ m ∈ leftP O Out, m < Out.length := fun m hm => by rw [h.len]; exact leftP_lt hm
  have hbound : ∀ k (hk : k ∈ q), leastR (leftS O Out) q ≤ (O.getD ((leftP O Out)[k]'(hmem k hk)) default).x - Out.getD ((leftP O Out)[k]'(hmem k hk)) 0 := fun k hk => by
    obtain ⟨i, hi, rfl⟩ := List.mem_iff_getElem.1 hk
    have h1 := RingD.le (l := leftS O Out) i hi
    unfold xK at h1
    rw [leftS_at (hmem _ hk)] at h1
    exact h1
  obtain ⟨i, hi, hxi⟩ := hq.is
  have hki := hmem _ (List.getElem_mem hi)
  unfold xK at hxi
  rw [leftS_at hki] at hxi
  unfold leastR at hx hbound hxi ⊢
  generalize leastI (leftS O Out) q q.length = x at hx hbound hxi ⊢
  have hle : ∀ m, m < O.length → Out.getD m 0 ≤ (payO (leftP O Out) x q Out).getD m 0 := fun m hm => by
    by_cases hp : m ∈ leftP O Out
    · obtain ⟨j, hj, rfl⟩ := List.mem_iff_getElem.1 hp
      rw [payO_at x (leftP_nodup O Out) hj q Out hqn hmem hPl]
      split <;> omega
    · rw [payO_out x hp q Out hmem]; exact Int.le_refl _
  have hlt : (leftP O (payO (leftP O Out) x q Out)).length < (leftP O Out).length := by
    rw [← left_next hle]
    refine List.length_filter_lt_length_iff_exists.2 ⟨(leftP O Out)[q[i]], List.getElem_mem _, ?_⟩
    have h1 := payO_at x (leftP_nodup O Out) hki q Out hqn hmem hPl
    rw [if_pos (List.getElem_mem hi)] at h1
    unfold posP restD payD
    rw [h1]
    unfold restD payD at hxi
    dsimp only at hxi ⊢
    simp only [decide_eq_true_eq]
    omega
  refine ⟨⟨by rw [payO_len]; exact h.len, fun m hm => Int.le_trans (h.lo m hm) (hle m hm), fun m hm => ?_, fun a => ?_, by have := h.cnt; omega, fun e => by omega, fun _ ha => ?_⟩, hlt, hle⟩
  · by_cases hp : m ∈ leftP O Out
    · obtain ⟨j, hj, rfl⟩ := List.mem_iff_getElem.1 hp
      rw [payO_at x (leftP_nodup O Out) hj q Out hqn hmem hPl]
      have h1 := h.hi _ hm
      split
      next hjq =>
        have := hbound j hjq
        omega
      · omega
    · rw [payO_out x hp q Out hmem]; exact h.hi m hm
  · rw [bal_pay (fun m hm => leftP_lt hm) a x (leftS O Out) (fun k hk => ⟨_, by rw [leftS_at hk, getN hk]; rfl⟩) q Out h.len hmem, ring_flow hq, h.bal]; rfl
  · obtain ⟨b, hw⟩ := hq.way
    exact ha b _ (fun e => hq.ne (List.map_eq_nil_iff.1 e)) (leftS_way hw)
/-- What Rings pays. -/
structure RingsR (O : List Du) (ps : List Int) (r : Nat) : Prop where
  len : ps.length = O.length
  lo : ∀ m, m < O.length → 0 ≤ ps.getD m 0
  hi : ∀ m, m < O.length → ps.getD m 0 ≤ (O.getD m default).x
  bal : ∀ a, bal O ps a = 0
  cnt : r ≤ O.length
  none : Acyc (leftS O ps)
  zero : r = 0 ↔ Acyc O
theorem RgO.fin {O : List Du} {Out : List Int} {r : Nat} (h : RgO O Out r) (hO : ∀ d ∈ O, 1 ≤ d.x) (hn : Acyc (leftS O Out)) : RingsR O Out r :=
  ⟨h.len, h.lo, h.hi, h.bal, by have := h.cnt; omega, hn, ⟨fun e => by
    rw [h.zero e, leftS_start hO] at hn
    exact hn, fun ha => by
    rcases Nat.eq_zero_or_pos r with e | e
    · exact e
    · exact absurd ha (h.first e)⟩⟩
end Go.OffP
