/-
  pdqsort: what its loop keeps. Plain.
-/
import Derived.Test.YthcmkljdhhepgaaUsPart
set_option linter.unusedVariables false
set_option linter.unusedSimpArgs false
namespace Go.Proofs.Ythcmkljdhhepgaa
open Go Go.RowKit Go.Mem Go.Sort
/-- What pdqsort's loop keeps: [a, b) is left to be sorted. -/
structure PQ (d : Array Int) (A B a b : Nat) (e : Array Int) : Prop where
  size : e.size = d.size
  perm : PermIn A B d e
  hAa : A ≤ a
  hab : a ≤ b
  hbB : b ≤ B
  below : Below ltInt a b e
  clos : ∀ f, PermIn a b e f → SortedIn ltInt a b f → SortedIn ltInt A B f
theorem PQ.start {d : Array Int} {A B : Nat} (h : A ≤ B) (hb : Below ltInt A B d) : PQ d A B A B d :=
  ⟨rfl, permIn_refl d A B, Nat.le_refl _, h, Nat.le_refl _, hb, fun _ _ h => h⟩
theorem below_perm {e f : Array Int} {a b : Nat} (hb : b ≤ e.size) (h : Below ltInt a b e) (hp : PermIn a b e f) : Below ltInt a b f := by
  rcases h with h | h
  · exact .inl h
  · by_cases ha : a = 0
    · exact .inl ha
    · refine .inr ?_
      have h2 := permIn_all e f a b (fun x => ltInt x e[a - 1]! = false) hb hp h
      intro i h3 h4
      rw [hp.2.1 (a - 1) (.inl (by omega))]
      exact h2 i h3 h4
theorem PQ.step {d : Array Int} {A B a b : Nat} {e f : Array Int} (h : PQ d A B a b e) (hB : B ≤ d.size) (hp : PermIn a b e f) : PQ d A B a b f :=
  { h with
    size := by rw [hp.1]; exact h.size
    perm := permIn_trans d e f A B h.perm (permIn_mono e f a b A B h.hAa h.hbB (by rw [h.size]; exact hB) hp)
    below := below_perm (by rw [h.size]; have := h.hbB; omega) h.below hp
    clos := fun g hg hs => h.clos g (permIn_trans e f g a b hp hg) hs }
theorem PQ.done {d : Array Int} {A B a b : Nat} {e : Array Int} (h : PQ d A B a b e) (hs : SortedIn ltInt a b e) : PermIn A B d e ∧ SortedIn ltInt A B e := ⟨h.perm, h.clos e (permIn_refl e a b) hs⟩
theorem lt_false {x y : Int} : ltInt x y = false ↔ y ≤ x := by unfold ltInt; rw [decide_eq_false_iff_not]; omega
theorem three {h : Array Int} {a b mid : Nat} {M : Int} (hM : h[mid]! = M) (hl : ∀ i, a ≤ i → i < mid → h[i]! ≤ M) (hr : ∀ i, mid < i → i < b → M ≤ h[i]!) (s1 : SortedIn ltInt a mid h) (s2 : SortedIn ltInt (mid + 1) b h) : SortedIn ltInt a b h := by
  intro i j h1 h2 h3
  rw [lt_false]
  rcases Nat.lt_trichotomy i mid with hi | hi | hi
  · rcases Nat.lt_trichotomy j mid with hj | hj | hj
    · exact lt_false.1 (s1 i j h1 h2 hj)
    · rw [hj, hM]; exact hl i h1 hi
    · exact Int.le_trans (hl i h1 hi) (hr j hj h3)
  · rw [hi, hM]; exact hr j (by omega) h3
  · exact lt_false.1 (s2 i j (by omega) h2 h3)
theorem PQ.left {d : Array Int} {A B a b mid : Nat} {e f g : Array Int} (h : PQ d A B a b e) (hB : B ≤ d.size) (hP : PartD e a b mid f) (hp : PermIn a mid f g) (hs : SortedIn ltInt a mid g) : PQ d A B (mid + 1) b g := by
  obtain ⟨h1, h2, h3, h4, h5⟩ := hP
  have hbB := h.hbB
  have hAa := h.hAa
  have hz : e.size = d.size := h.size
  have hfz : f.size = d.size := by rw [h3.1]; exact hz
  have hgz : g.size = d.size := by rw [hp.1]; exact hfz
  have hpab : PermIn a b f g := permIn_mono f g a mid a b (Nat.le_refl _) (by omega) (by omega) hp
  have hgm : ∀ i, mid ≤ i → g[i]! = f[i]! := fun i hi => hp.2.1 i (.inr hi)
  have hlow : ∀ i, a ≤ i → i < mid → g[i]! < f[mid]! := permIn_all f g a mid (fun x => x < f[mid]!) (by omega) hp h4
  refine ⟨hgz, permIn_trans d f g A B (h.step hB h3).perm (permIn_mono f g a mid A B hAa (by omega) (by omega) hp), by omega, by omega, hbB, ?_, ?_⟩
  · refine .inr fun i h6 h7 => ?_
    rw [Nat.add_sub_cancel, hgm i (by omega), hgm mid (Nat.le_refl _), lt_false]
    exact h5 i (by omega) h7
  · intro k hk hks
    have kl : ∀ i, i ≤ mid → k[i]! = g[i]! := fun i hi => hk.2.1 i (.inl (by omega))
    have kr : ∀ i, mid + 1 ≤ i → i < b → f[mid]! ≤ k[i]! := permIn_all g k (mid + 1) b (fun x => f[mid]! ≤ x) (by omega) hk (fun i h6 h7 => by rw [hgm i (by omega)]; exact h5 i (by omega) h7)
    refine h.clos k (permIn_trans e f k a b h3 (permIn_trans f g k a b hpab (permIn_mono g k (mid + 1) b a b (by omega) (Nat.le_refl _) (by omega) hk))) ?_
    refine three (M := f[mid]!) (mid := mid) (by rw [kl mid (Nat.le_refl _), hgm mid (Nat.le_refl _)]) (fun i h6 h7 => by rw [kl i (by omega)]; exact Int.le_of_lt (hlow i h6 h7)) (fun i h6 h7 => kr i h6 h7) (fun i j h6 h7 h8 => by rw [kl i (by omega), kl j (by omega)]; exact hs i j h6 h7 h8) hks
theorem PQ.right {d : Array Int} {A B a b mid : Nat} {e f g : Array Int} (h : PQ d A B a b e) (hB : B ≤ d.size) (hP : PartD e a b mid f) (hp : PermIn (mid + 1) b f g) (hs : SortedIn ltInt (mid + 1) b g) : PQ d A B a mid g := by
  have hst := h.step hB hP.2.2.1
  obtain ⟨h1, h2, h3, h4, h5⟩ := hP
  have hbB := h.hbB
  have hAa := h.hAa
  have hz : e.size = d.size := h.size
  have hfz : f.size = d.size := by rw [h3.1]; exact hz
  have hgz : g.size = d.size := by rw [hp.1]; exact hfz
  have hpab : PermIn a b f g := permIn_mono f g (mid + 1) b a b (by omega) (Nat.le_refl _) (by omega) hp
  have hgm : ∀ i, i ≤ mid → g[i]! = f[i]! := fun i hi => hp.2.1 i (.inl (by omega))
  have hhigh : ∀ i, mid + 1 ≤ i → i < b → f[mid]! ≤ g[i]! := permIn_all f g (mid + 1) b (fun x => f[mid]! ≤ x) (by omega) hp (fun i h6 h7 => h5 i (by omega) h7)
  refine ⟨hgz, permIn_trans d f g A B hst.perm (permIn_mono f g (mid + 1) b A B (by omega) (by omega) (by omega) hp), hAa, h1, by omega, ?_, ?_⟩
  · rcases hst.below with h6 | h6
    · exact .inl h6
    · by_cases ha : a = 0
      · exact .inl ha
      · refine .inr fun i h7 h8 => ?_
        rw [hgm i (by omega), hgm (a - 1) (by omega)]
        exact h6 i h7 (by omega)
  · intro k hk hks
    have kr : ∀ i, mid ≤ i → k[i]! = g[i]! := fun i hi => hk.2.1 i (.inr hi)
    have kl : ∀ i, a ≤ i → i < mid → k[i]! < f[mid]! := permIn_all g k a mid (fun x => x < f[mid]!) (by omega) hk (fun i h6 h7 => by rw [hgm i (by omega)]; exact h4 i h6 h7)
    refine h.clos k (permIn_trans e f k a b h3 (permIn_trans f g k a b hpab (permIn_mono g k a mid a b (Nat.le_refl _) (by omega) (by omega) hk))) ?_
    refine three (M := f[mid]!) (mid := mid) (by rw [kr mid (Nat.le_refl _), hgm mid (Nat.le_refl _)]) (fun i h6 h7 => Int.le_of_lt (kl i h6 h7)) (fun i h6 h7 => by rw [kr i (by omega)]; exact hhigh i h6 h7) hks (fun i j h6 h7 h8 => by rw [kr i (by omega), kr j (by omega)]; exact hs i j h6 h7 h8)
theorem below_left {f : Array Int} {a b mid : Nat} (h : Below ltInt a b f) (hm : mid ≤ b) : Below ltInt a mid f := by
  rcases h with h | h
  · exact .inl h
  · exact .inr fun i h1 h2 => h i h1 (by omega)
theorem below_right {e f : Array Int} {a b mid : Nat} (hP : PartD e a b mid f) : Below ltInt (mid + 1) b f := .inr fun i h1 h2 => by
  rw [Nat.add_sub_cancel, lt_false]
  exact hP.2.2.2.2 i (by omega) h2
theorem permIn_list {d e : Array Int} {a b : Nat} (ha : a ≤ b) (hb : b ≤ d.size) (h : PermIn a b d e) : e.toList.Perm d.toList := by
  have h1 := (permIn_mono d e a b 0 d.size (Nat.zero_le _) hb (Nat.le_refl _) h).2.2
  rw [Array.extract_size] at h1
  have h2 : e.extract 0 d.size = e := by rw [← h.1, Array.extract_size]
  rwa [h2] at h1
theorem nodup_ne {e : Array Int} (h : e.toList.Nodup) {i j : Nat} (hi : i < e.size) (hj : j < e.size) (hij : i ≠ j) : e[i]! ≠ e[j]! := by
  rw [getElem!_pos e i hi, getElem!_pos e j hj]
  have h1 := List.pairwise_iff_getElem.1 h
  rcases Nat.lt_or_gt_of_ne hij with h2 | h2
  · exact h1 i j (by simpa using hi) (by simpa using hj) h2
  · exact fun heq => h1 j i (by simpa using hj) (by simpa using hi) h2 heq.symm
theorem PQ.strict {d : Array Int} {A B a b : Nat} {e : Array Int} (h : PQ d A B a b e) (hB : B ≤ d.size) (hn : d.toList.Nodup) (ha : 0 < a) {p : Nat} (h1 : a ≤ p) (h2 : p < b) : ltInt e[a - 1]! e[p]! = true := by
  have hbB := h.hbB
  have hAa := h.hAa
  have hab := h.hab
  have hz := h.size
  have hne := nodup_ne ((permIn_list (by omega) hB h.perm).nodup_iff.2 hn) (i := a - 1) (j := p) (by omega) (by omega) (by omega)
  rcases h.below with h3 | h3
  · omega
  · have h4 := lt_false.1 (h3 p h1 h2)
    exact decide_eq_true (by omega)
theorem swo_int : SWO ltInt := by
  refine ⟨fun x => ?_, fun x y z => ?_, fun x y z => ?_⟩ <;> unfold ltInt
  · simp
  · simp only [decide_eq_true_eq]; omega
  · simp only [decide_eq_false_iff_not]; omega
end Go.Proofs.Ythcmkljdhhepgaa
