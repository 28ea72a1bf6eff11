/-
  What is left behind pays, what is paid between each two, nets: plain.
-/
import Derived.Test.YtjijhpflkkicaaaOE
set_option linter.unusedVariables false
set_option linter.unusedSimpArgs false
namespace Go.OffP
open Go Go.Mem Go.MoneyP Go.BuildP
theorem snocInd {α : Type} {P : List α → Prop} (h0 : P []) (h1 : ∀ l d, P l → P (l ++ [d])) (l : List α) : P l := by
  have : ∀ n, ∀ l : List α, l.length = n → P l := by
    intro n
    induction n with
    | zero => intro l hl; rw [List.length_eq_zero_iff] at hl; subst hl; exact h0
    | succ n ih =>
      intro l hl
      have hn : l ≠ [] := fun e => by subst e; simp at hl
      rw [← List.dropLast_concat_getLast hn]
      exact h1 _ _ (ih _ (by rw [List.length_dropLast]; omega))
  exact this _ l rfl
theorem open_snoc (l : List Du) (d : Du) : openL (l ++ [d]) = openL l ++ if d.h = true then [] else [d] := by
  unfold openL
  rw [List.filter_append]
  cases h : d.h <;> simp [h]
theorem open_app (a b : List Du) : openL (a ++ b) = openL a ++ openL b := by
  unfold openL
  rw [List.filter_append]
theorem getD_snoc (l : List Du) (d : Du) {k : Nat} (h : k < l.length) : (l ++ [d]).getD k default = l.getD k default := by
  rw [List.getD_eq_getElem?_getD, List.getD_eq_getElem?_getD, List.getElem?_append_left h]
theorem getD_last (l : List Du) (d : Du) : (l ++ [d]).getD l.length default = d := by
  simp [List.getD_eq_getElem?_getD]
theorem posO_snoc (l : List Du) (d : Du) {k : Nat} (h : k ≤ l.length) : posO (l ++ [d]) k = posO l k := by
  unfold posO
  rw [List.take_append_of_le_length h]
theorem posO_end (l : List Du) : posO l l.length = (openL l).length := by
  unfold posO; rw [List.take_length]
theorem leftO_snoc (l : List Du) (d : Du) (ps : List Int) : ∀ k, k ≤ l.length → leftO (l ++ [d]) ps k = leftO l ps k
  | 0, _ => rfl
  | k + 1, h => by
    rw [leftO_succ, leftO_succ, leftO_snoc l d ps k (by omega), getD_snoc l d (by omega), posO_snoc l d (by omega)]
theorem leftL_nil (ps : List Int) : leftL [] ps = [] := rfl
theorem leftL_snoc (l : List Du) (d : Du) (ps : List Int) : leftL (l ++ [d]) ps = leftL l ps ++ leftD d (ps.getD (openL l).length 0) := by
  unfold leftL
  rw [List.length_append, List.length_singleton, leftO_succ, leftO_snoc l d ps _ (Nat.le_refl _), getD_last, posO_snoc l d (Nat.le_refl _), posO_end]
theorem okO_snoc (l : List Du) (d : Du) (ps : List Int) : ∀ k, k ≤ l.length → okO (l ++ [d]) ps k = okO l ps k
  | 0, _ => rfl
  | k + 1, h => by
    rw [okO_succ, okO_succ, okO_snoc l d ps k (by omega), getD_snoc l d (by omega), posO_snoc l d (by omega)]
def okL (l : List Du) (ps : List Int) : Bool := okO l ps l.length
theorem okL_snoc (l : List Du) (d : Du) (ps : List Int) : okL (l ++ [d]) ps = (okL l ps && okD d (ps.getD (openL l).length 0)) := by
  unfold okL
  rw [List.length_append, List.length_singleton, okO_succ, okO_snoc l d ps _ (Nat.le_refl _), getD_last, posO_snoc l d (Nat.le_refl _), posO_end]
theorem okL_of {ps : List Int} (l : List Du) : (∀ k, k < (openL l).length → ps.getD k 0 ≤ ((openL l).getD k default).x) → okL l ps = true := by
  refine snocInd (P := fun l => (∀ k, k < (openL l).length → ps.getD k 0 ≤ ((openL l).getD k default).x) → okL l ps = true) (fun _ => rfl) (fun l d ih h => ?_) l
  rw [okL_snoc, ih fun k hk => ?_, Bool.true_and]
  · cases hd : d.h
    · rw [open_snoc, hd] at h
      have := h (openL l).length (by simp)
      rw [if_neg (by decide), getD_last] at this
      unfold okD
      rw [hd]
      exact decide_eq_true this
    · unfold okD; rw [hd]; rfl
  · rw [open_snoc] at h
    have := h k (by rw [List.length_append]; omega)
    cases hd : d.h
    · rw [hd, if_neg (by decide), getD_snoc _ _ hk] at this
      exact this
    · rw [hd, if_pos rfl, List.append_nil] at this
      exact this
/-- Pays that may be paid. -/
structure PayOk (O : List Du) (ps : List Int) : Prop where
  len : ps.length = O.length
  lo : ∀ k, k < O.length → 0 ≤ ps.getD k 0
  hi : ∀ k, k < O.length → ps.getD k 0 ≤ (O.getD k default).x
theorem PayOk.leftE {l : List Du} {ps : List Int} (h : PayOk (openL l) ps) : leftE l ps = 0 := by
  unfold OffP.leftE
  rw [if_neg (by rw [h.len]; simp), if_neg, if_pos (show okO l ps l.length = true from okL_of l h.hi)]
  rw [List.any_eq_true]
  rintro ⟨p, hp, h2⟩
  obtain ⟨k, hk, rfl⟩ := List.mem_iff_getElem.1 hp
  have := h.lo k (by rw [← h.len]; exact hk)
  rw [getI hk] at this
  exact absurd (of_decide_eq_true h2) (by omega)
theorem cutD_h (d : Du) (p : Int) : (cutD d p).h = d.h := rfl
theorem leftS_snoc (O : List Du) (d : Du) (ps : List Int) : leftS (O ++ [d]) ps = leftS O ps ++ if 0 < d.x - ps.getD O.length 0 then [cutD d (ps.getD O.length 0)] else [] := by
  have h1 : ∀ m, m < O.length → restD (O ++ [d]) ps m = restD O ps m := fun m hm => by
    unfold restD; rw [getD_snoc _ _ hm]
  have h2 : restD (O ++ [d]) ps O.length = cutD d (ps.getD O.length 0) := by
    unfold restD; rw [getD_last]; rfl
  have h3 : (List.range O.length).filter (posP (O ++ [d]) ps) = leftP O ps := by
    unfold leftP
    refine List.filter_congr fun m hm => ?_
    unfold posP
    rw [h1 m (List.mem_range.1 hm)]
  unfold leftS
  have h4 : leftP (O ++ [d]) ps = leftP O ps ++ [O.length].filter (posP (O ++ [d]) ps) := by
    rw [← h3]
    unfold leftP
    rw [List.length_append, List.length_singleton, List.range_succ, List.filter_append]
  rw [h4, List.map_append]
  congr 1
  · exact List.map_congr_left fun m hm => h1 m (leftP_lt hm)
  · by_cases e : 0 < d.x - ps.getD O.length 0
    · have hp : posP (O ++ [d]) ps O.length = true := by
        unfold posP; rw [h2]; exact decide_eq_true e
      rw [if_pos e, List.filter_cons_of_pos hp, List.filter_nil, List.map_singleton, h2]
    · have hp : posP (O ++ [d]) ps O.length = false := by
        unfold posP; rw [h2]; exact decide_eq_false e
      rw [if_neg e, List.filter_cons_of_neg (by rw [hp]; decide), List.filter_nil, List.map_nil]
/-- The open ones that are left. -/
theorem open_left (ps : List Int) (l : List Du) : openL (leftL l ps) = leftS (openL l) ps := by
  refine snocInd (P := fun l => openL (leftL l ps) = leftS (openL l) ps) rfl (fun l d ih => ?_) l
  rw [leftL_snoc, open_app, ih, open_snoc]
  cases hd : d.h
  · rw [if_neg (by decide), leftS_snoc]
    congr 1
    unfold leftD
    rw [if_neg (by rw [hd]; decide)]
    split
    · unfold openL; simp [cutD_h, hd]
    · rfl
  · rw [if_pos rfl, List.append_nil]
    unfold leftD
    rw [if_pos hd]
    unfold openL
    simp [hd]
theorem leftL_len (l : List Du) (ps : List Int) : (leftL l ps).length ≤ l.length := leftO_len l ps _
theorem leftL_mem (ps : List Int) (l : List Du) : ∀ d ∈ leftL l ps, (d ∈ l ∧ d.h = true) ∨ (d ∈ leftS (openL l) ps) := by
  intro d hd
  rw [← open_left]
  cases h : d.h
  · right
    unfold openL
    rw [List.mem_filter]
    exact ⟨hd, by rw [h]; rfl⟩
  · left
    revert hd
    refine snocInd (P := fun l => d ∈ leftL l ps → d ∈ l ∧ true = true) (fun h => by simp [leftL_nil] at h) (fun l e ih he => ?_) l
    rw [leftL_snoc, List.mem_append] at he
    rcases he with he | he
    · exact ⟨List.mem_append_left _ (ih he).1, rfl⟩
    · unfold leftD at he
      split at he
      · exact ⟨List.mem_append_right _ he, rfl⟩
      next hh =>
        split at he
        · rw [List.mem_singleton] at he
          subst he
          rw [cutD_h] at h
          exact absurd h hh
        · cases he
theorem sumX_app (a b : List Du) : sumX (a ++ b) = sumX a + sumX b := by
  unfold sumX; rw [List.map_append, List.sum_append]
theorem leftL_sum {ps : List Int} (l : List Du) : (∀ d ∈ l, 1 ≤ d.x) → (∀ k, k < (openL l).length → 0 ≤ ps.getD k 0) → sumX (leftL l ps) ≤ sumX l := by
  refine snocInd (P := fun l => (∀ d ∈ l, 1 ≤ d.x) → (∀ k, k < (openL l).length → 0 ≤ ps.getD k 0) → sumX (leftL l ps) ≤ sumX l) (fun _ _ => Int.le_refl _) (fun l d ih h0 h1 => ?_) l
  rw [open_snoc, List.length_append] at h1
  have ih := ih (fun e he => h0 e (List.mem_append_left _ he)) (fun k hk => h1 k (by omega))
  have hd := h0 d (by simp)
  rw [leftL_snoc, sumX_app, sumX_app]
  have : sumX (leftD d (ps.getD (openL l).length 0)) ≤ sumX [d] := by
    unfold leftD
    cases hh : d.h
    · rw [hh] at h1
      have := h1 (openL l).length (by simp)
      rw [if_neg (by decide)]
      split
      · show ([cutD d (ps.getD (openL l).length 0)].map (·.x)).sum ≤ ([d].map (·.x)).sum
        simp only [List.map_cons, List.map_nil, List.sum_cons, List.sum_nil, cutD]; omega
      · unfold sumX; simp; omega
    · rw [if_pos rfl]; exact Int.le_refl _
  omega
theorem leftL_good {n : Nat} {l : List Du} {ps : List Int} (h : GoodN n l) (hp : PayOk (openL l) ps) : GoodN n (leftL l ps) := by
  have hO : ∀ d ∈ openL l, MayD d := fun d hd => h.may d (open_mem hd)
  have hm := leftS_may hO hp.len hp.lo
  refine ⟨h.n16, Nat.le_trans (leftL_len l ps) h.len, fun d hd => ?_, fun d hd => ?_, Int.le_trans (leftL_sum l (fun d hd => (h.may d hd).x0) hp.lo) h.sum⟩
  · rcases leftL_mem ps l d hd with ⟨h1, _⟩ | h1
    · exact h.may d h1
    · exact hm d h1
  · rcases leftL_mem ps l d hd with ⟨h1, _⟩ | h1
    · exact h.inn d h1
    · unfold leftS at h1
      obtain ⟨m, hm, rfl⟩ := List.mem_map.1 h1
      have hml := leftP_lt hm
      have := h.inn _ (open_mem (List.getElem_mem hml))
      unfold restD payD
      rw [getDu hml]
      exact this
end Go.OffP
namespace Go.OffP
open Go Go.Mem Go.MoneyP Go.BuildP
def sameP (d : Du) (a b : Nat) : Bool := decide (d.f = (a : Int)) && decide (d.t = (b : Int))
theorem sameP_iff {d : Du} {a b : Nat} : sameP d a b = true ↔ d.f = (a : Int) ∧ d.t = (b : Int) := by
  unfold sameP; rw [Bool.and_eq_true, decide_eq_true_eq, decide_eq_true_eq]
/-- What the first i dues pay from a to b. -/
def paidI (O : List Du) (ps : List Int) (a b : Nat) : Nat → Int
  | 0 => 0
  | i + 1 => paidI O ps a b i + if sameP (O.getD i default) a b = true then ps.getD i 0 else 0
theorem paidI_succ (O : List Du) (ps : List Int) (a b i : Nat) : paidI O ps a b (i + 1) = paidI O ps a b i + if sameP (O.getD i default) a b = true then ps.getD i 0 else 0 := rfl
theorem owes_snoc (O : List Du) (d : Du) (a b : Nat) : owesS (O ++ [d]) a b = owesS O a b + if sameP d a b = true then d.x else 0 := by
  unfold owesS
  rw [List.filter_append, List.map_append, List.sum_append]
  congr 1
  by_cases q : d.f = (a : Int) ∧ d.t = (b : Int)
  · rw [List.filter_cons, if_pos (decide_eq_true q), if_pos (sameP_iff.2 q)]; simp
  · rw [List.filter_cons, if_neg (by simpa using q), if_neg (fun e => q (sameP_iff.1 e))]; simp
theorem owes_take {O : List Du} {i : Nat} (h : i < O.length) (a b : Nat) : owesS (O.take (i + 1)) a b = owesS (O.take i) a b + if sameP (O.getD i default) a b = true then (O.getD i default).x else 0 := by
  rw [List.take_succ_eq_append_getElem h, owes_snoc, getDu h]
theorem both_comm (O : List Du) (a b : Nat) : both O a b = both O b a := by unfold both; rw [Int.min_comm]
section
variable {n : Nat} {O : List Du} (hO : ∀ d ∈ O, MayD d ∧ d.f < n ∧ d.t < n)
include hO
theorem pays_inv {a b : Nat} (ha : a < n) (hb : b < n) (hn : n ≤ 16) : ∀ i, i ≤ O.length →
    (leftZ n O i).getD (a * 16 + b) 0 = max 0 (both O a b - owesS (O.take i) a b) ∧ paidI O (paysL n O) a b i = both O a b - (leftZ n O i).getD (a * 16 + b) 0
  | 0, _ => by
    rw [left_first ha hb hn]
    have := (both_bound (fun d hd => (hO d hd).1.x0) a b).1
    refine ⟨?_, by simp [paidI]⟩
    rw [List.take_zero, show owesS [] a b = 0 from rfl]
    omega
  | i + 1, hi => by
    obtain ⟨i1, i2⟩ := pays_inv ha hb hn i (by omega)
    have hx := (hO _ (List.getElem_mem (show i < O.length by omega))).1.x0
    have hb0 := (both_bound (fun d hd => (hO d hd).1.x0) a b).1
    rw [owes_take hi, paidI_succ]
    by_cases q : (O[i]).f = (a : Int) ∧ (O[i]).t = (b : Int)
    · obtain ⟨h1, h2⟩ := left_put hO hn hi q.1 q.2
      have e : sameP (O.getD i default) a b = true := by rw [getDu hi]; exact sameP_iff.2 q
      rw [if_pos e, if_pos e, h2, getDu hi]
      omega
    · have e : ¬ sameP (O.getD i default) a b = true := by rw [getDu hi]; exact fun e => q (sameP_iff.1 e)
      rw [if_neg e, if_neg e, left_skip hO hb hn hi q]
      omega
/-- In all as much as each owes the other one. -/
theorem paid_is {a b : Nat} (ha : a < n) (hb : b < n) (hn : n ≤ 16) : paidI O (paysL n O) a b O.length = both O a b := by
  obtain ⟨h1, h2⟩ := pays_inv hO ha hb hn O.length (Nat.le_refl _)
  rw [List.take_length] at h1
  have : both O a b ≤ owesS O a b := by unfold both; omega
  omega
theorem pays_ok : PayOk O (paysL n O) := by
  have hx := fun d hd => (hO d hd).1.x0
  refine ⟨paysL_len n O, fun k hk => ?_, fun k hk => ?_⟩
  · rw [paysL_at hk]
    have h1 := (leftZ_bound hx k (by omega) ((O[k]).f.toNat * 16 + (O[k]).t.toNat) (n := n)).1
    have h2 := hx _ (List.getElem_mem hk)
    unfold payX
    omega
  · rw [paysL_at hk, getDu hk]
    unfold payX
    omega
end
/-- What is left between two. -/
theorem left_owes {ps : List Int} (a b : Nat) (O : List Du) : (∀ k, k < O.length → ps.getD k 0 ≤ (O.getD k default).x) → owesS (leftS O ps) a b = owesS O a b - paidI O ps a b O.length := by
  refine snocInd (P := fun O => (∀ k, k < O.length → ps.getD k 0 ≤ (O.getD k default).x) → owesS (leftS O ps) a b = owesS O a b - paidI O ps a b O.length) (fun _ => rfl) (fun O d ih h => ?_) O
  have ih := ih fun k hk => by
    have := h k (by rw [List.length_append]; omega)
    rwa [getD_snoc _ _ hk] at this
  have hd := h O.length (by simp)
  rw [getD_last] at hd
  have hp : ∀ i, i ≤ O.length → paidI (O ++ [d]) ps a b i = paidI O ps a b i := by
    intro i
    induction i with
    | zero => intro _; rfl
    | succ i ih =>
      intro hi
      rw [paidI_succ, paidI_succ, ih (by omega), getD_snoc _ _ (by omega)]
  rw [List.length_append, List.length_singleton, paidI_succ, hp _ (Nat.le_refl _), getD_last, owes_snoc, leftS_snoc]
  by_cases e : 0 < d.x - ps.getD O.length 0
  · rw [if_pos e, owes_snoc, ih]
    by_cases q : sameP d a b = true
    · have q2 : sameP (cutD d (ps.getD O.length 0)) a b = true := q
      rw [if_pos q, if_pos q, if_pos q2]
      show _ + (d.x - ps.getD O.length 0) = _
      omega
    · have q2 : ¬ sameP (cutD d (ps.getD O.length 0)) a b = true := q
      rw [if_neg q, if_neg q, if_neg q2]
      omega
  · rw [if_neg e, List.append_nil, ih]
    split <;> omega
/-- Behind Pays of no two banks each owes the other one. -/
theorem left_both {n : Nat} {l : List Du} (h : GoodN n l) {a b : Nat} (ha : a < n) (hb : b < n) : both (openL (leftL l (paysL n (openL l)))) a b = 0 := by
  have hO : ∀ d ∈ openL l, MayD d ∧ d.f < n ∧ d.t < n := fun d hd => ⟨h.may d (open_mem hd), h.inn d (open_mem hd)⟩
  have ok := pays_ok hO
  rw [open_left]
  have e1 := left_owes a b (openL l) ok.hi
  have e2 := left_owes b a (openL l) ok.hi
  rw [paid_is hO ha hb h.n16] at e1
  rw [paid_is hO hb ha h.n16] at e2
  have e3 := both_comm (openL l) a b
  have e4 : both (openL l) a b = min (owesS (openL l) a b) (owesS (openL l) b a) := rfl
  unfold both
  rw [e1, e2]
  unfold both at e3 e4 ⊢
  omega
/-- A due turned round. -/
def turnD (d : Du) : Du := { d with f := d.t, t := d.f }
def turnL (l : List Du) : List Du := l.map turnD
end Go.OffP
namespace Go.OffP
open Go Go.Mem Go.MoneyP Go.BuildP
def balI (O : List Du) (ps : List Int) (a : Int) : Nat → Int
  | 0 => 0
  | i + 1 => balI O ps a i + flowD a (O.getD i default) (ps.getD i 0)
theorem balI_succ (O : List Du) (ps : List Int) (a : Int) (i : Nat) : balI O ps a (i + 1) = balI O ps a i + flowD a (O.getD i default) (ps.getD i 0) := rfl
theorem zip_take_sum (f : Du → Int → Int) {O : List Du} {ps : List Int} (hl : ps.length = O.length) {i : Nat} (hi : i < O.length) :
    (((O.zip ps).take (i + 1)).map fun q => f q.1 q.2).sum = (((O.zip ps).take i).map fun q => f q.1 q.2).sum + f (O.getD i default) (ps.getD i 0) := by
  have h1 : i < (O.zip ps).length := by rw [List.length_zip]; omega
  have h2 : (O.zip ps)[i] = (O[i], ps[i]'(by omega)) := List.getElem_zip
  rw [List.take_succ_eq_append_getElem h1, List.map_append, List.sum_append, List.map_singleton, List.sum_singleton, h2, getDu hi, getI (show i < ps.length by omega)]
theorem balI_is {O : List Du} {ps : List Int} (hl : ps.length = O.length) (a : Int) : balI O ps a O.length = bal O ps a := by
  have : ∀ i, i ≤ O.length → balI O ps a i = (((O.zip ps).take i).map fun q => flowD a q.1 q.2).sum := by
    intro i
    induction i with
    | zero => intro _; simp [balI]
    | succ i ih =>
      intro hi
      rw [balI_succ, zip_take_sum (flowD a) hl (by omega), ih (by omega)]
  rw [this _ (Nat.le_refl _), List.take_of_length_le (by rw [List.length_zip]; omega)]
  rfl
theorem sum_ind {n : Nat} {t : Int} (h0 : 0 ≤ t) (h1 : t < n) (f : Nat → Int) (x : Int) (hf : ∀ b, f b = if t = (b : Int) then x else 0) : ((List.range n).map f).sum = x := by
  have : ∀ m : Nat, ((List.range m).map f).sum = if t < m then x else 0 := by
    intro m
    induction m with
    | zero => rw [if_neg (by omega)]; rfl
    | succ m ih =>
      rw [List.range_succ, List.map_append, List.sum_append, ih, List.map_singleton, List.sum_singleton, hf]
      by_cases e : t = (m : Int)
      · rw [if_pos e, if_neg (by omega), if_pos (by omega)]; omega
      · by_cases q : t < m
        · rw [if_neg e, if_pos q, if_pos (by omega)]; omega
        · rw [if_neg e, if_neg q, if_neg (by omega)]; omega
  rw [this, if_pos h1]
theorem sum_zero (n : Nat) (f : Nat → Int) (hf : ∀ b, b < n → f b = 0) : ((List.range n).map f).sum = 0 := by
  induction n with
  | zero => rfl
  | succ m ih => rw [List.range_succ, List.map_append, List.sum_append, ih fun b hb => hf b (by omega), List.map_singleton, List.sum_singleton, hf m (by omega)]; rfl
theorem sum_sub (n : Nat) (f g : Nat → Int) : ((List.range n).map fun b => f b - g b).sum = ((List.range n).map f).sum - ((List.range n).map g).sum := by
  induction n with
  | zero => rfl
  | succ m ih =>
    rw [List.range_succ, List.map_append, List.map_append, List.map_append, List.sum_append, List.sum_append, List.sum_append, ih]
    simp only [List.map_singleton, List.sum_singleton]
    omega
theorem sum_add (n : Nat) (f g : Nat → Int) : ((List.range n).map fun b => f b + g b).sum = ((List.range n).map f).sum + ((List.range n).map g).sum := by
  induction n with
  | zero => rfl
  | succ m ih =>
    rw [List.range_succ, List.map_append, List.map_append, List.map_append, List.sum_append, List.sum_append, List.sum_append, ih]
    simp only [List.map_singleton, List.sum_singleton]
    omega
section
variable {n : Nat} {O : List Du} (hO : ∀ d ∈ O, MayD d ∧ d.f < n ∧ d.t < n)
include hO
theorem bal_pairs (ps : List Int) (a : Nat) : ∀ i, i ≤ O.length → balI O ps a i = ((List.range n).map fun b => paidI O ps a b i - paidI O ps b a i).sum
  | 0, _ => by rw [sum_zero n _ fun b _ => by simp [paidI]]; rfl
  | i + 1, hi => by
    have ih := bal_pairs ps a i (by omega)
    obtain ⟨h1, h2, h3⟩ := hO _ (List.getElem_mem (show i < O.length by omega))
    have f0 := h1.f0
    have t0 := h1.t0
    have e : (fun b => paidI O ps a b (i + 1) - paidI O ps b a (i + 1)) = fun b => (paidI O ps a b i - paidI O ps b a i) + ((if sameP (O.getD i default) a b = true then ps.getD i 0 else 0) - (if sameP (O.getD i default) b a = true then ps.getD i 0 else 0)) := by
      funext b
      rw [paidI_succ, paidI_succ]
      omega
    rw [balI_succ, ih, e, sum_add, sum_sub n (fun b => if sameP (O.getD i default) a b = true then ps.getD i 0 else 0)]
    congr 1
    rw [getDu (show i < O.length by omega)]
    unfold flowD
    congr 1
    · by_cases q : (O[i]).f = (a : Int)
      · rw [if_pos q, sum_ind t0 h3 _ (ps.getD i 0) fun b => ?_]
        by_cases r : (O[i]).t = (b : Int)
        · rw [if_pos r, if_pos (sameP_iff.2 ⟨q, r⟩)]
        · rw [if_neg r, if_neg fun e => r (sameP_iff.1 e).2]
      · rw [if_neg q, sum_zero _ _ fun b _ => if_neg fun e => q (sameP_iff.1 e).1]
    · by_cases q : (O[i]).t = (a : Int)
      · rw [if_pos q, sum_ind f0 h2 _ (ps.getD i 0) fun b => ?_]
        by_cases r : (O[i]).f = (b : Int)
        · rw [if_pos r, if_pos (sameP_iff.2 ⟨r, q⟩)]
        · rw [if_neg r, if_neg fun e => r (sameP_iff.1 e).1]
      · rw [if_neg q, sum_zero _ _ fun b _ => if_neg fun e => q (sameP_iff.1 e).2]
/-- What Pays pays leaves all as they were. -/
theorem pays_bal (hn : n ≤ 16) (a : Int) : bal O (paysL n O) a = 0 := by
  by_cases h : 0 ≤ a ∧ a < n
  · obtain ⟨A, rfl⟩ : ∃ A : Nat, a = A := ⟨a.toNat, by omega⟩
    rw [← balI_is (paysL_len n O), bal_pairs hO _ A _ (Nat.le_refl _)]
    refine sum_zero _ _ fun b hb => ?_
    rw [paid_is hO (show A < n by omega) hb hn, paid_is hO hb (show A < n by omega) hn, both_comm]
    omega
  · rw [← balI_is (paysL_len n O)]
    have : ∀ i, i ≤ O.length → balI O (paysL n O) a i = 0 := by
      intro i
      induction i with
      | zero => intro _; rfl
      | succ i ih =>
        intro hi
        obtain ⟨h1, h2, h3⟩ := hO _ (List.getElem_mem (show i < O.length by omega))
        have f0 := h1.f0
        have t0 := h1.t0
        rw [balI_succ, ih (by omega), getDu (show i < O.length by omega)]
        unfold flowD
        rw [if_neg (by omega), if_neg (by omega)]
        rfl
    exact this _ (Nat.le_refl _)
end
theorem delta_snoc (l : List Du) (d : Du) (j : Nat) : deltaS (l ++ [d]) j = deltaS l j + deltaN d j := by
  unfold deltaS
  rw [List.map_append, List.sum_append, List.map_singleton, List.sum_singleton]
/-- What is left, bank by bank. -/
theorem left_delta {ps : List Int} (j : Nat) (l : List Du) : (∀ k, k < (openL l).length → ps.getD k 0 ≤ ((openL l).getD k default).x) → deltaS (leftL l ps) j = deltaS l j + balI (openL l) ps j (openL l).length := by
  refine snocInd (P := fun l => (∀ k, k < (openL l).length → ps.getD k 0 ≤ ((openL l).getD k default).x) → deltaS (leftL l ps) j = deltaS l j + balI (openL l) ps j (openL l).length) (fun _ => rfl) (fun l d ih h => ?_) l
  rw [leftL_snoc, delta_snoc]
  cases hd : d.h
  · rw [open_snoc, hd, if_neg (by decide)] at h ⊢
    have ih := ih fun k hk => by
      have := h k (by rw [List.length_append]; omega)
      rwa [getD_snoc _ _ hk] at this
    have hx := h (openL l).length (by simp)
    rw [getD_last] at hx
    have hp : ∀ i, i ≤ (openL l).length → balI (openL l ++ [d]) ps j i = balI (openL l) ps j i := by
      intro i
      induction i with
      | zero => intro _; rfl
      | succ i ih =>
        intro hi
        rw [balI_succ, balI_succ, ih (by omega), getD_snoc _ _ (by omega)]
    rw [List.length_append, List.length_singleton, balI_succ, hp _ (Nat.le_refl _), getD_last]
    have hdn : deltaN d j = (if d.t = j then d.x else 0) - (if d.f = j then d.x else 0) := by unfold deltaN; rw [if_neg (by rw [hd]; decide)]
    unfold leftD
    rw [if_neg (by rw [hd]; decide)]
    by_cases e : 0 < d.x - ps.getD (openL l).length 0
    · rw [if_pos e, delta_snoc, ih, hdn]
      have hdc : deltaN (cutD d (ps.getD (openL l).length 0)) j = (if d.t = j then d.x - ps.getD (openL l).length 0 else 0) - (if d.f = j then d.x - ps.getD (openL l).length 0 else 0) := by unfold deltaN; rw [if_neg (by rw [cutD_h, hd]; decide)]; rfl
      rw [hdc]
      unfold flowD
      split <;> split <;> omega
    · rw [if_neg e, List.append_nil, ih, hdn]
      unfold flowD
      split <;> split <;> omega
  · rw [open_snoc, hd, if_pos rfl, List.append_nil] at h ⊢
    have hl : leftD d (ps.getD (openL l).length 0) = [d] := by unfold leftD; rw [if_pos hd]
    have hdn : deltaN d j = 0 := by unfold deltaN; rw [if_pos hd]
    rw [hl, delta_snoc, ih h, hdn]
    omega
theorem left_nets {n : Nat} {l : List Du} {ps : List Int} (h : GoodN n l) (hp : PayOk (openL l) ps) (hb : ∀ a, bal (openL l) ps a = 0) : netsF n (leftL l ps) = netsF n l := by
  have h2 := leftL_good h hp
  refine list_getD (by rw [netsF_len, netsF_len]) fun k hk => ?_
  rw [netsF_at (fun d hd => ⟨h2.may d hd, h2.inn d hd⟩), netsF_at (fun d hd => ⟨h.may d hd, h.inn d hd⟩), left_delta k l hp.hi, balI_is hp.len, hb]
  omega
theorem posO_at {l : List Du} {k : Nat} (hk : k < l.length) (hh : (l[k]).h = false) : (openL l).getD (posO l k) default = l[k] := by
  have h1 : openL l = openL (l.take k) ++ openL (l.drop k) := by rw [← open_app, List.take_append_drop]
  have h2 : openL (l.drop k) = l[k] :: openL (l.drop (k + 1)) := by
    rw [List.drop_eq_getElem_cons hk]
    unfold openL
    rw [List.filter_cons_of_pos (by rw [hh]; rfl)]
  unfold posO
  rw [h1, h2, List.getD_eq_getElem?_getD, List.getElem?_append_right (Nat.le_refl _), Nat.sub_self]
  rfl
theorem open_way {l : List Du} : ∀ {p : List Nat} {a b : Int}, Way l a p b → Way (openL l) a (p.map (posO l)) b
  | [], _, _, h => h
  | k :: ks, a, b, ⟨c, e, h⟩ => by
    have hlt := posO_lt e.lt e.opn
    have hat := posO_at e.lt e.opn
    rw [getDu hlt] at hat
    exact ⟨c, ⟨hlt, by rw [hat]; exact e.opn, by rw [hat]; exact e.fr, by rw [hat]; exact e.to⟩, open_way h⟩
theorem open_acyc {l : List Du} (h : Acyc (openL l)) : Acyc l := fun a p hp hw => h a (p.map (posO l)) (by simpa using hp) (open_way hw)
theorem rings_ok {O : List Du} {ps : List Int} {r : Nat} (h : RingsR O ps r) : PayOk O ps := ⟨h.len, h.lo, h.hi⟩
end Go.OffP
