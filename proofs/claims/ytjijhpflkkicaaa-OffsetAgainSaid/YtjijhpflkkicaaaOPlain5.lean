/-
  Ways of dues, rings, and the banks that are done: plain.
-/
import Derived.Test.YtjijhpflkkicaaaOPlain4
set_option linter.unusedVariables false
set_option linter.unusedSimpArgs false
namespace Go.OffP
open Go Go.Mem Go.MoneyP Go.BuildP
def fK (l : List Du) (k : Nat) : Int := (l.getD k default).f
/-- An open due from one bank to another. -/
structure EdgeD (l : List Du) (k : Nat) (a b : Int) : Prop where
  lt : k < l.length
  opn : (l[k]).h = false
  fr : (l[k]).f = a
  to : (l[k]).t = b
theorem EdgeD.fK {l : List Du} {k : Nat} {a b : Int} (h : EdgeD l k a b) : fK l k = a := by
  unfold OffP.fK
  rw [List.getD_eq_getElem?_getD, List.getElem?_eq_getElem h.lt]
  exact h.fr
/-- A way of open dues. -/
def Way (l : List Du) : Int → List Nat → Int → Prop
  | a, [], b => a = b
  | a, k :: ks, b => ∃ c, EdgeD l k a c ∧ Way l c ks b
theorem Way.cat {l : List Du} : ∀ {a : Int} {p : List Nat} {b : Int} {q : List Nat} {c : Int}, Way l a p b → Way l b q c → Way l a (p ++ q) c
  | _, [], _, _, _, h, k => by cases h; exact k
  | _, _ :: _, _, _, _, ⟨m, e, h⟩, k => ⟨m, e, h.cat k⟩
theorem Way.one {l : List Du} {a : Int} {k : Nat} {b : Int} (h : EdgeD l k a b) : Way l a [k] b := ⟨b, h, rfl⟩
theorem Way.from {l : List Du} : ∀ {p : List Nat} {a b : Int} (i : Nat) (hi : i < p.length), Way l a p b → Way l (OffP.fK l p[i]) (p.drop i) b
  | _ :: _, _, _, 0, _, ⟨m, e, h⟩ => ⟨m, by rw [List.getElem_cons_zero, e.fK]; exact e, h⟩
  | _ :: _, _, _, i + 1, hi, ⟨m, e, h⟩ => by
    rw [List.getElem_cons_succ, List.drop_succ_cons]
    exact Way.from i (by simpa using hi) h
theorem Way.mem {l : List Du} : ∀ {p : List Nat} {a b : Int}, Way l a p b → ∀ k ∈ p, ∃ c d, EdgeD l k c d
  | [], _, _, _, k, hk => by simp at hk
  | _ :: _, _, _, ⟨m, e, h⟩, k, hk => by
    rcases List.mem_cons.1 hk with rfl | hk
    · exact ⟨_, _, e⟩
    · exact h.mem k hk
theorem Way.last {l : List Du} : ∀ {p : List Nat} {a b : Int}, Way l a p b → ∀ (hp : p ≠ []), ∃ c, EdgeD l (p.getLast hp) c b
  | [k], _, _, ⟨m, e, h⟩, _ => by cases h; exact ⟨_, e⟩
  | _ :: k :: ks, _, _, ⟨m, _, h⟩, hp => by
    obtain ⟨c, hc⟩ := h.last (p := k :: ks) (by simp)
    exact ⟨c, by rw [List.getLast_cons (by simp)]; exact hc⟩
/-- A ring. -/
structure RingD (l : List Du) (p : List Nat) : Prop where
  ne : p ≠ []
  way : ∃ a, Way l a p a
  nd : (p.map (fK l)).Nodup
/-- No way goes round through these banks. -/
def NoRing (l : List Du) (D : List Bool) : Prop := ∀ (a : Int) (p : List Nat), 0 ≤ a → a < 16 → D.getD a.toNat false = true → p ≠ [] → ¬ Way l a p a
theorem NoRing.start (l : List Du) : NoRing l (List.replicate 16 false) := by
  intro a p h0 h1 h2
  rw [List.getD_eq_getElem?_getD, List.getElem?_replicate] at h2
  split at h2 <;> simp at h2
/-- One more bank is done. -/
theorem NoRing.more {l : List Du} {D : List Bool} {b : Nat} (h : NoRing l D) (hl : ∀ d ∈ l, MayD d) (hD : D.length = 16) (hb : b < 16) (hs : ∀ (k : Nat) (c : Int), EdgeD l k b c → D.getD c.toNat false = true) : NoRing l (D.set b true) := by
  intro a p h0 h1 h2 hp hw
  by_cases hab : a.toNat = b
  · obtain rfl : a = (b : Int) := by omega
    cases p with
    | nil => exact hp rfl
    | cons k ks =>
      obtain ⟨c, e, hw⟩ := hw
      have hm := hl _ (List.getElem_mem e.lt)
      have ht := e.to
      exact h c (ks ++ [k]) (by rw [← ht]; exact hm.t0) (by rw [← ht]; exact hm.t1) (hs k c e) (by simp) (hw.cat (Way.one e))
  · refine h a p h0 h1 ?_ hp hw
    rw [List.getD_eq_getElem?_getD, List.getElem?_set, if_neg (fun e => hab e.symm), ← List.getD_eq_getElem?_getD] at h2
    exact h2
/-- No way goes round. -/
def Acyc (l : List Du) : Prop := ∀ (a : Int) (p : List Nat), p ≠ [] → ¬ Way l a p a
theorem NoRing.all {l : List Du} {D : List Bool} (h : NoRing l D) (hl : ∀ d ∈ l, MayD d) (hD : ∀ b, b < 16 → D.getD b false = true) : Acyc l := by
  intro a p hp hw
  obtain ⟨k, ks, rfl⟩ : ∃ k ks, p = k :: ks := by
    cases p with
    | nil => exact absurd rfl hp
    | cons k ks => exact ⟨k, ks, rfl⟩
  have h2 := hw
  obtain ⟨c, e, _⟩ := h2
  have hm := hl _ (List.getElem_mem e.lt)
  have hf := e.fr
  exact h a (k :: ks) (by rw [← hf]; exact hm.f0) (by rw [← hf]; exact hm.f1) (hD _ (by have := hm.f0; have := hm.f1; omega)) hp hw
theorem Acyc.noRing {l : List Du} (h : Acyc l) (p : List Nat) : ¬ RingD l p := fun hp => by
  obtain ⟨a, hw⟩ := hp.way
  exact h a p hp.ne hw
theorem nodup_lt : ∀ (n : Nat) (P : List Int), P.Nodup → (∀ w ∈ P, 0 ≤ w ∧ w < n) → P.length ≤ n
  | 0, [], _, _ => Nat.le_refl _
  | 0, w :: P, _, h => by have := h w (by simp); omega
  | n + 1, P, hd, h => by
    by_cases hm : (n : Int) ∈ P
    · have h1 := nodup_lt n (P.erase (n : Int)) (hd.erase _) fun w hw => by
        have h2 := h w (List.mem_of_mem_erase hw)
        have h3 : w ≠ n := fun e => by subst e; exact (List.Nodup.not_mem_erase hd) hw
        omega
      rw [List.length_erase_of_mem hm] at h1
      omega
    · have := nodup_lt n P hd fun w hw => by
        have h2 := h w hw
        have h3 : w ≠ n := fun e => hm (e ▸ hw)
        omega
      omega
/-- A way on which no bank comes twice, with its end. -/
structure GoD (l : List Du) (p : List Nat) (b : Nat) : Prop where
  b16 : b < 16
  way : ∃ a, Way l a p b
  nd : (p.map (fK l) ++ [(b : Int)]).Nodup
theorem GoD.start (l : List Du) {b : Nat} (hb : b < 16) : GoD l [] b := ⟨hb, ⟨b, rfl⟩, by simp⟩
theorem GoD.len {l : List Du} {p : List Nat} {b : Nat} (h : GoD l p b) (hl : ∀ d ∈ l, MayD d) : p.length < 16 := by
  have h1 := nodup_lt 16 _ h.nd fun w hw => by
    rcases List.mem_append.1 hw with hw | hw
    · obtain ⟨k, hk, rfl⟩ := List.mem_map.1 hw
      obtain ⟨a, hw⟩ := h.way
      obtain ⟨c, d, e⟩ := hw.mem k hk
      have hm := hl _ (List.getElem_mem e.lt)
      rw [e.fK, ← e.fr]
      exact ⟨hm.f0, hm.f1⟩
    · rw [List.mem_singleton.1 hw]; have := h.b16; omega
  rw [List.length_append, List.length_map, List.length_singleton] at h1
  omega
theorem GoD.mem {l : List Du} {p : List Nat} {b : Nat} (h : GoD l p b) : ∀ k ∈ p, k < l.length := fun k hk => by
  obtain ⟨a, hw⟩ := h.way
  obtain ⟨c, d, e⟩ := hw.mem k hk
  exact e.lt
/-- On to the next bank .. -/
theorem GoD.next {l : List Du} {p : List Nat} {b c k : Nat} (h : GoD l p b) (e : EdgeD l k b c) (hc : c < 16) (hn : ∀ j ∈ p ++ [k], fK l j ≠ c) : GoD l (p ++ [k]) c := by
  obtain ⟨a, hw⟩ := h.way
  refine ⟨hc, ⟨a, hw.cat (Way.one e)⟩, ?_⟩
  rw [List.map_append, List.map_singleton, e.fK, List.nodup_append]
  refine ⟨h.nd, by simp, fun x hx y hy => ?_⟩
  rw [List.mem_singleton] at hy
  subst hy
  rcases List.mem_append.1 hx with hx | hx
  · obtain ⟨j, hj, rfl⟩ := List.mem_map.1 hx
    exact hn j (List.mem_append_left _ hj)
  · rw [List.mem_singleton.1 hx]
    have := hn k (by simp)
    rw [e.fK] at this
    exact this
/-- .. or round. -/
theorem GoD.ring {l : List Du} {p : List Nat} {b k : Nat} {c : Int} (h : GoD l p b) (e : EdgeD l k b c) (i : Nat) (hi : i < (p ++ [k]).length) (hc : fK l (p ++ [k])[i] = c) : RingD l ((p ++ [k]).drop i) := by
  obtain ⟨a, hw⟩ := h.way
  refine ⟨fun e => ?_, ⟨c, ?_⟩, ?_⟩
  · have := congrArg List.length e
    rw [List.length_drop, List.length_nil] at this
    omega
  · have := Way.from i hi (hw.cat (Way.one e))
    rw [hc] at this
    exact this
  · rw [List.map_drop]
    refine List.Nodup.sublist (List.drop_sublist _ _) ?_
    rw [List.map_append, List.map_singleton, e.fK]
    exact h.nd
theorem RingD.mem {l : List Du} {p : List Nat} (h : RingD l p) : ∀ k ∈ p, k < l.length := fun k hk => by
  obtain ⟨a, hw⟩ := h.way
  obtain ⟨c, d, e⟩ := hw.mem k hk
  exact e.lt
theorem RingD.len {l : List Du} {p : List Nat} (h : RingD l p) (hl : ∀ d ∈ l, MayD d) : p.length ≤ 16 := by
  have h1 := nodup_lt 16 _ h.nd fun w hw => by
    obtain ⟨k, hk, rfl⟩ := List.mem_map.1 hw
    obtain ⟨a, hw⟩ := h.way
    obtain ⟨c, d, e⟩ := hw.mem k hk
    have hm := hl _ (List.getElem_mem e.lt)
    rw [e.fK, ← e.fr]
    exact ⟨hm.f0, hm.f1⟩
  rwa [List.length_map] at h1
end Go.OffP
