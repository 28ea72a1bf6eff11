/-
  What is paid leaves all nets; rings among the open dues: plain.
-/
import Derived.Test.YtjijhpflkkicaaaOPlain11
set_option linter.unusedVariables false
set_option linter.unusedSimpArgs false
namespace Go.OffP
open Go Go.Mem Go.MoneyP Go.BuildP
def balI (O : List Du) (ps : List Int) (a : Int) : Nat → Int
  | 0 => 0
  | i + 1 => balI O ps a i + flowD a (O.getD i default) (ps.getD i 0)
theorem balI_succ (O : List Du) (ps : List Int) (a : Int) (i : Nat) : balI O ps a (i + 1) = balI O ps a i + flowD a (O.getD i default) (ps.getD i 0) := rfl
theorem zip_take_sum (f : Du → Int → Int) {O : List Du} {ps : List Int} (hl : ps.length = O.length) {i : Nat} (hi : i < O.length) :
    (((O.zip ps).take (i + 1)).map fun q => f q.1 q.2).sum = (((O.zip ps).take i).map fun q => f q.1 q.2).sum + f (O.getD i default) (ps.getD i 0) := by
  have h1 : i < (O.zip ps).length := by rw [List.length_zip]; omega
  have h2 : (O.zip ps)[i] = (O[i], ps[i]'(by omega)) := List.getElem_zip
  rw [List.take_succ_eq_append_getElem h1, List.map_append, List.sum_append, List.map_singleton, List.sum_singleton, h2, getDu hi, getI (show i < ps.length by omega)]
theorem balI_is {O : List Du} {ps : List Int} (hl : ps.length = O.length) (a : Int) : balI O ps a O.length = bal O ps a := by
  have : ∀ i, i ≤ O.length → balI O ps a i = (((O.zip ps).take i).map fun q => flowD a q.1 q.2).sum := by
    intro i
    induction i with
    | zero => intro _; simp [balI]
    | succ i ih =>
      intro hi
      rw [balI_succ, zip_take_sum (flowD a) hl (by omega), ih (by omega)]
  rw [this _ (Nat.le_refl _), List.take_of_length_le (by rw [List.length_zip]; omega)]
  rfl
theorem sum_ind {n : Nat} {t : Int} (h0 : 0 ≤ t) (h1 : t < n) (f : Nat → Int) (x : Int) (hf : ∀ b, f b = if t = (b : Int) then x else 0) : ((List.range n).map f).sum = x := by
  have : ∀ m : Nat, ((List.range m).map f).sum = if t < m then x else 0 := by
    intro m
    induction m with
    | zero => rw [if_neg (by omega)]; rfl
    | succ m ih =>
      rw [List.range_succ, List.map_append, List.sum_append, ih, List.map_singleton, List.sum_singleton, hf]
      by_cases e : t = (m : Int)
      · rw [if_pos e, if_neg (by omega), if_pos (by omega)]; omega
      · by_cases q : t < m
        · rw [if_neg e, if_pos q, if_pos (by omega)]; omega
        · rw [if_neg e, if_neg q, if_neg (by omega)]; omega
  rw [this, if_pos h1]
theorem sum_zero (n : Nat) (f : Nat → Int) (hf : ∀ b, b < n → f b = 0) : ((List.range n).map f).sum = 0 := by
  induction n with
  | zero => rfl
  | succ m ih => rw [List.range_succ, List.map_append, List.sum_append, ih fun b hb => hf b (by omega), List.map_singleton, List.sum_singleton, hf m (by omega)]; rfl
theorem sum_sub (n : Nat) (f g : Nat → Int) : ((List.range n).map fun b => f b - g b).sum = ((List.range n).map f).sum - ((List.range n).map g).sum := by
  induction n with
  | zero => rfl
  | succ m ih =>
    rw [List.range_succ, List.map_append, List.map_append, List.map_append, List.sum_append, List.sum_append, List.sum_append, ih]
    simp only [List.map_singleton, List.sum_singleton]
    omega
theorem sum_add (n : Nat) (f g : Nat → Int) : ((List.range n).map fun b => f b + g b).sum = ((List.range n).map f).sum + ((List.range n).map g).sum := by
  induction n with
  | zero => rfl
  | succ m ih =>
    rw [List.range_succ, List.map_append, List.map_append, List.map_append, List.sum_append, List.sum_append, List.sum_append, ih]
    simp only [List.map_singleton, List.sum_singleton]
    omega
section
variable {n : Nat} {O : List Du} (hO : ∀ d ∈ O, MayD d ∧ d.f < n ∧ d.t < n)
include hO
theorem bal_pairs (ps : List Int) (a : Nat) : ∀ i, i ≤ O.length → balI O ps a i = ((List.range n).map fun b => paidI O ps a b i - paidI O ps b a i).sum
  | 0, _ => by rw [sum_zero n _ fun b _ => by simp [paidI]]; rfl
  | i + 1, hi => by
    have ih := bal_pairs ps a i (by omega)
    obtain ⟨h1, h2, h3⟩ := hO _ (List.getElem_mem (show i < O.length by omega))
    have f0 := h1.f0
    have t0 := h1.t0
    have e : (fun b => paidI O ps a b (i + 1) - paidI O ps b a (i + 1)) = fun b => (paidI O ps a b i - paidI O ps b a i) + ((if sameP (O.getD i default) a b = true then ps.getD i 0 else 0) - (if sameP (O.getD i default) b a = true then ps.getD i 0 else 0)) := by
      funext b
      rw [paidI_succ, paidI_succ]
      omega
    rw [balI_succ, ih, e, sum_add, sum_sub n (fun b => if sameP (O.getD i default) a b = true then ps.getD i 0 else 0)]
    congr 1
    rw [getDu (show i < O.length by omega)]
    unfold flowD
    congr 1
    · by_cases q : (O[i]).f = (a : Int)
      · rw [if_pos q, sum_ind t0 h3 _ (ps.getD i 0) fun b => ?_]
        by_cases r : (O[i]).t = (b : Int)
        · rw [if_pos r, if_pos (sameP_iff.2 ⟨q, r⟩)]
        · rw [if_neg r, if_neg fun e => r (sameP_iff.1 e).2]
      · rw [if_neg q, sum_zero _ _ fun b _ => if_neg fun e => q (sameP_iff.1 e).1]
    · by_cases q : (O[i]).t = (a : Int)
      · rw [if_pos q, sum_ind f0 h2 _ (ps.getD i 0) fun b => ?_]
        by_cases r : (O[i]).f = (b : Int)
        · rw [if_pos r, if_pos (sameP_iff.2 ⟨r, q⟩)]
        · rw [if_neg r, if_neg fun e => r (sameP_iff.1 e).1]
      · rw [if_neg q, sum_zero _ _ fun b _ => if_neg fun e => q (sameP_iff.1 e).2]
/-- What Pays pays leaves all as they were. -/
theorem pays_bal (hn : n ≤ 16) (a : Int) : bal O (paysL n O) a = 0 := by
  by_cases h : 0 ≤ a ∧ a < n
  · obtain ⟨A, rfl⟩ : ∃ A : Nat, a = A := ⟨a.toNat, by omega⟩
    rw [← balI_is (paysL_len n O), bal_pairs hO _ A _ (Nat.le_refl _)]
    refine sum_zero _ _ fun b hb => ?_
    rw [paid_is hO (show A < n by omega) hb hn, paid_is hO hb (show A < n by omega) hn, both_comm]
    omega
  · rw [← balI_is (paysL_len n O)]
    have : ∀ i, i ≤ O.length → balI O (paysL n O) a i = 0 := by
      intro i
      induction i with
      | zero => intro _; rfl
      | succ i ih =>
        intro hi
        obtain ⟨h1, h2, h3⟩ := hO _ (List.getElem_mem (show i < O.length by omega))
        have f0 := h1.f0
        have t0 := h1.t0
        rw [balI_succ, ih (by omega), getDu (show i < O.length by omega)]
        unfold flowD
        rw [if_neg (by omega), if_neg (by omega)]
        rfl
    exact this _ (Nat.le_refl _)
end
theorem delta_snoc (l : List Du) (d : Du) (j : Nat) : deltaS (l ++ [d]) j = deltaS l j + deltaN d j := by
  unfold deltaS
  rw [List.map_append, List.sum_append, List.map_singleton, List.sum_singleton]
/-- What is left, bank by bank. -/
theorem left_delta {ps : List Int} (j : Nat) (l : List Du) : (∀ k, k < (openL l).length → ps.getD k 0 ≤ ((openL l).getD k default).x) → deltaS (leftL l ps) j = deltaS l j + balI (openL l) ps j (openL l).length := by
  refine snocInd (P := fun l => (∀ k, k < (openL l).length → ps.getD k 0 ≤ ((openL l).getD k default).x) → deltaS (leftL l ps) j = deltaS l j + balI (openL l) ps j (openL l).length) (fun _ => rfl) (fun l d ih h => ?_) l
  rw [leftL_snoc, delta_snoc]
  cases hd : d.h
  · rw [open_snoc, hd, if_neg (by decide)] at h ⊢
    have ih := ih fun k hk => by
      have := h k (by rw [List.length_append]; omega)
      rwa [getD_snoc _ _ hk] at this
    have hx := h (openL l).length (by simp)
    rw [getD_last] at hx
    have hp : ∀ i, i ≤ (openL l).length → balI (openL l ++ [d]) ps j i = balI (openL l) ps j i := by
      intro i
      induction i with
      | zero => intro _; rfl
      | succ i ih =>
        intro hi
        rw [balI_succ, balI_succ, ih (by omega), getD_snoc _ _ (by omega)]
    rw [List.length_append, List.length_singleton, balI_succ, hp _ (Nat.le_refl _), getD_last]
    have hdn : deltaN d j = (if d.t = j then d.x else 0) - (if d.f = j then d.x else 0) := by unfold deltaN; rw [if_neg (by rw [hd]; decide)]
    unfold leftD
    rw [if_neg (by rw [hd]; decide)]
    by_cases e : 0 < d.x - ps.getD (openL l).length 0
    · rw [if_pos e, delta_snoc, ih, hdn]
      have hdc : deltaN (cutD d (ps.getD (openL l).length 0)) j = (if d.t = j then d.x - ps.getD (openL l).length 0 else 0) - (if d.f = j then d.x - ps.getD (openL l).length 0 else 0) := by unfold deltaN; rw [if_neg (by rw [cutD_h, hd]; decide)]; rfl
      rw [hdc]
      unfold flowD
      split <;> split <;> omega
    · rw [if_neg e, List.append_nil, ih, hdn]
      unfold flowD
      split <;> split <;> omega
  · rw [open_snoc, hd, if_pos rfl, List.append_nil] at h ⊢
    have hl : leftD d (ps.getD (openL l).length 0) = [d] := by unfold leftD; rw [if_pos hd]
    have hdn : deltaN d j = 0 := by unfold deltaN; rw [if_pos hd]
    rw [hl, delta_snoc, ih h, hdn]
    omega
theorem left_nets {n : Nat} {l : List Du} {ps : List Int} (h : GoodN n l) (hp : PayOk (openL l) ps) (hb : ∀ a, bal (openL l) ps a = 0) : netsF n (leftL l ps) = netsF n l := by
  have h2 := leftL_good h hp
  refine list_getD (by rw [netsF_len, netsF_len]) fun k hk => ?_
  rw [netsF_at (fun d hd => ⟨h2.may d hd, h2.inn d hd⟩), netsF_at (fun d hd => ⟨h.may d hd, h.inn d hd⟩), left_delta k l hp.hi, balI_is hp.len, hb]
  omega
theorem posO_at {l : List Du} {k : Nat} (hk : k < l.length) (hh : (l[k]).h = false) : (openL l).getD (posO l k) default = l[k] := by
  have h1 : openL l = openL (l.take k) ++ openL (l.drop k) := by rw [← open_app, List.take_append_drop]
  have h2 : openL (l.drop k) = l[k] :: openL (l.drop (k + 1)) := by
    rw [List.drop_eq_getElem_cons hk]
    unfold openL
    rw [List.filter_cons_of_pos (by rw [hh]; rfl)]
  unfold posO
  rw [h1, h2, List.getD_eq_getElem?_getD, List.getElem?_append_right (Nat.le_refl _), Nat.sub_self]
  rfl
theorem open_way {l : List Du} : ∀ {p : List Nat} {a b : Int}, Way l a p b → Way (openL l) a (p.map (posO l)) b
  | [], _, _, h => h
  | k :: ks, a, b, ⟨c, e, h⟩ => by
    have hlt := posO_lt e.lt e.opn
    have hat := posO_at e.lt e.opn
    rw [getDu hlt] at hat
    exact ⟨c, ⟨hlt, by rw [hat]; exact e.opn, by rw [hat]; exact e.fr, by rw [hat]; exact e.to⟩, open_way h⟩
theorem open_acyc {l : List Du} (h : Acyc (openL l)) : Acyc l := fun a p hp hw => h a (p.map (posO l)) (by simpa using hp) (open_way hw)
theorem rings_ok {O : List Du} {ps : List Int} {r : Nat} (h : RingsR O ps r) : PayOk O ps := ⟨h.len, h.lo, h.hi⟩
end Go.OffP
