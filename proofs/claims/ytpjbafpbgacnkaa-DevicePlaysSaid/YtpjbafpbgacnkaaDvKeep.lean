/-
  What a block may have behind On. Plain.
-/
import Derived.Test.YtpjbafpbgacnkaaDvGood
import Derived.Test.YtpjbafpbgacnkaaDvW4
import Derived.Test.YtpjbafpbgacnkaaDvW8
set_option linter.unusedVariables false
set_option linter.unusedSimpArgs false
namespace Go.DevP
open Go Go.Mem
abbrev ful (c : Int) : List Int := filled c c
theorem counted_free {d : Dv} (h : d.left = -1) : d.counted = d := by
  obtain ⟨B, left, off⟩ := d
  subst h
  rfl
theorem write_free {d : Dv} (hl : d.left = -1) (ho : d.off = false) {k : Nat} (hk : k < d.B.length) {x : List Int} (hx : x.length = 512) : d.writeE k x.length = 0 ∧ d.writeD k x = d.put k x := by
  have hm : d.mayW k x.length = true := by simp [Dv.mayW, hasB, hx, hk]
  have h1 : ¬ d.off = true := by rw [ho]; decide
  refine ⟨by unfold Dv.writeE; rw [if_neg h1, if_pos hm, hl]; rfl, ?_⟩
  unfold Dv.writeD
  rw [if_neg h1, if_pos hm, if_neg (by omega), counted_free hl]; rfl
theorem flush_free {d : Dv} (hl : d.left = -1) (ho : d.off = false) : d.flushE = 0 ∧ d.flushD = { d with B := d.B.map Blk.flush } := by
  have h1 : ¬ d.off = true := by rw [ho]; decide
  refine ⟨by unfold Dv.flushE; rw [if_neg h1, hl]; rfl, ?_⟩
  unfold Dv.flushD
  rw [if_neg h1, if_neg (by omega), counted_free hl]
theorem add_stands (b : Blk) (x : List Int) : (b.add x).stands = x := by
  unfold Blk.stands Blk.add
  rw [List.getLastD_eq_getLast?]; simp
theorem getD_map {α β : Type} [Inhabited α] [Inhabited β] (f : α → β) {l : List α} {k : Nat} (h : k < l.length) : (l.map f).getD k default = f (l.getD k default) := by
  rw [List.getD_eq_getElem?_getD, List.getD_eq_getElem?_getD, List.getElem?_map, List.getElem?_eq_getElem h]; rfl
structure Free (n : Nat) (d : Dv) : Prop where
  good : d.Good
  n : d.B.length = n
  on : d.off = false
  left : d.left = -1
structure KeA (zs : List Int) (i : Nat) (d : Dv) : Prop where
  free : Free zs.length d
  big : d.Big i
  st : ∀ k, k < i → (d.B.getD k default).stands = ful (zs.getD k 0)
structure KeB (zs : List Int) (ys : List (Int × Int)) (j : Nat) (d : Dv) : Prop where
  free : Free zs.length d
  big : d.Big j
  at_ : ∀ k : Nat, k < zs.length → (d.B.getD k default).sure = ful (zs.getD k 0) ∧ ∀ x ∈ (d.B.getD k default).loose, ∃ y ∈ ys, y.1 % zs.length = k ∧ x = ful y.2
structure KeC (zs : List Int) (ys : List (Int × Int)) (some? : Bool) (d : Dv) : Prop where
  free : Free zs.length d
  at_ : ∀ k : Nat, k < zs.length → d.readE k = 0 ∧ (d.readB k = ful (zs.getD k 0) ∨ some? = true ∧ ∃ y ∈ ys, y.1 % zs.length = k ∧ d.readB k = ful y.2)
theorem KeA.start {zs : List Int} (h0 : zs.length ≠ 0) (h30 : zs.length ≤ 30) : KeA zs 0 (Dv.new zs.length) :=
  ⟨⟨new_good (by omega) (by omega), by simp [Dv.new], rfl, rfl⟩, big_new _, fun k h => by omega⟩
theorem put_free {n : Nat} {d : Dv} (h : Free n d) {k : Nat} (hk : k < n) {x : List Int} (hx : x.length = 512) : Free n (d.put k x) :=
  ⟨h.good.put hx (by rw [h.n]; exact hk), by rw [put_len]; exact h.n, h.on, h.left⟩
theorem KeA.step {zs : List Int} {i : Nat} {d : Dv} (h : KeA zs i d) (hi : i < zs.length) : d.writeE i (ful (zs.getD i 0)).length = 0 ∧ KeA zs (i + 1) (d.writeD i (ful (zs.getD i 0))) := by
  have hk : i < d.B.length := by rw [h.free.n]; exact hi
  obtain ⟨e, eD⟩ := write_free h.free.left h.free.on hk (filled_len (zs.getD i 0) (zs.getD i 0))
  have hB := h.big.write i (ful (zs.getD i 0))
  refine ⟨e, ?_⟩
  rw [eD] at hB ⊢
  refine ⟨put_free h.free hi (filled_len _ _), hB, fun k hk2 => ?_⟩
  rw [put_at hk (by rw [h.free.n]; omega)]
  split
  · next e => subst e; exact add_stands _ _
  · exact h.st k (by omega)
theorem KeA.flush {zs : List Int} {ys : List (Int × Int)} {d : Dv} (h : KeA zs zs.length d) : d.flushE = 0 ∧ KeB zs ys 0 d.flushD := by
  obtain ⟨e, eD⟩ := flush_free h.free.left h.free.on
  have hg := h.free.good.flush
  rw [eD] at hg ⊢
  refine ⟨e, ⟨hg, by simpa using h.free.n, h.free.on, h.free.left⟩, fun b hb => ?_, fun k hk => ?_⟩
  · obtain ⟨c, _, rfl⟩ := List.mem_map.1 hb
    exact Nat.le_refl _
  · have hk2 : k < d.B.length := by rw [h.free.n]; exact hk
    dsimp only
    rw [getD_map _ hk2]
    exact ⟨h.st k hk, fun x hx => by cases hx⟩
theorem KeB.step {zs : List Int} {ys : List (Int × Int)} {j : Nat} {d : Dv} (h : KeB zs ys j d) (hj : j < ys.length) {k : Nat} (hk : (ys[j]).1 % zs.length = k) (hkn : k < zs.length) : d.writeE k (ful (ys[j]).2).length = 0 ∧ KeB zs ys (j + 1) (d.writeD k (ful (ys[j]).2)) := by
  have hk2 : k < d.B.length := by rw [h.free.n]; exact hkn
  obtain ⟨e, eD⟩ := write_free h.free.left h.free.on hk2 (filled_len (ys[j]).2 (ys[j]).2)
  have hB := h.big.write k (ful (ys[j]).2)
  refine ⟨e, ?_⟩
  rw [eD] at hB ⊢
  refine ⟨put_free h.free hkn (filled_len _ _), hB, fun m hm => ?_⟩
  obtain ⟨g1, g2⟩ := h.at_ m hm
  rw [put_at hk2 (by rw [h.free.n]; exact hm)]
  split
  · next e =>
    subst e
    refine ⟨g1, fun x hx => ?_⟩
    simp only [Blk.add, List.mem_append, List.mem_singleton] at hx
    rcases hx with hx | rfl
    · exact g2 x hx
    · exact ⟨ys[j], List.getElem_mem hj, hk, rfl⟩
  · exact ⟨g1, g2⟩
theorem KeB.comes {zs : List Int} {ys : List (Int × Int)} {j : Nat} {d : Dv} (h : KeB zs ys j d) (ps : List Int) (q : Bool) (hq : q = false → ps = []) : onE d.off = 0 ∧ d.offD.comesE = 0 ∧ KeC zs ys q (d.offD.comesD ps) := by
  refine ⟨by rw [h.free.on]; rfl, rfl, ⟨h.free.good.offD.comes ps, ?_, rfl, rfl⟩, fun k hk => ?_⟩
  · show (comesB d.B ps).length = _
    simpa [comesB] using h.free.n
  · have hk2 : k < d.B.length := by rw [h.free.n]; exact hk
    have hl : (comesB d.B ps).length = d.B.length := by simp [comesB]
    have hat : (comesB d.B ps).getD k default = (d.B.getD k default).comes (pickV ps (rankB d.B k) (d.B.getD k default).loose.length) := by
      unfold comesB
      rw [List.getD_eq_getElem?_getD, List.getElem?_map, List.getElem?_range hk2]; rfl
    have hh : hasB (comesB d.B ps).length k = true := by simp [hasB, hl, hk2]
    have h1 : d.offD.comesD ps = ⟨comesB d.B ps, -1, false⟩ := rfl
    rw [h1]
    refine ⟨by simp [Dv.readE, hh], ?_⟩
    have h2 : Dv.readB ⟨comesB d.B ps, -1, false⟩ k = ((comesB d.B ps).getD k default).stands := by simp [Dv.readB, hh]
    rw [h2, hat]
    obtain ⟨g1, g2⟩ := h.at_ k hk
    have hp := pick_le ps (rankB d.B k) (d.B.getD k default).loose.length
    have hp0 : q = false → pickV ps (rankB d.B k) (d.B.getD k default).loose.length = 0 := fun e => by
      rw [hq e]; exact pick_neg (.inr (Nat.zero_le _))
    generalize pickV ps (rankB d.B k) (d.B.getD k default).loose.length = p at hp hp0
    by_cases e : p = 0
    · subst e; exact .inl g1
    · have h3 : p - 1 < (d.B.getD k default).loose.length := by omega
      obtain ⟨y, hy, hy1, hy2⟩ := g2 _ (List.getElem_mem h3)
      refine .inr ⟨by cases q; exact absurd (hp0 rfl) e; rfl, y, hy, hy1, ?_⟩
      show (if p = 0 then _ else (d.B.getD k default).loose.getD (p - 1) []) = _
      rw [if_neg e, List.getD_eq_getElem?_getD, List.getElem?_eq_getElem h3]
      exact hy2
/-- Is it what was sure, or one of the first of what was written? -/
def isV (d : Dv) (k n : Nat) (z : Int) (ys : List (Int × Int)) (i : Nat) : Bool := d.standsB k (ful z) || (ys.take i).any fun y => decide (y.1 % n = k) && d.standsB k (ful y.2)
theorem isV_zero {d : Dv} {k n : Nat} {z : Int} {ys : List (Int × Int)} : isV d k n z ys 0 = d.standsB k (ful z) := by simp [isV]
theorem isV_step {d : Dv} {k n : Nat} {z : Int} {ys : List (Int × Int)} {i : Nat} (hi : i < ys.length) : isV d k n z ys (i + 1) = (isV d k n z ys i || (decide ((ys[i]).1 % n = k) && d.standsB k (ful (ys[i]).2))) := by
  unfold isV
  rw [List.take_add_one, List.getElem?_eq_getElem hi, List.any_append]
  simp [Bool.or_assoc]
theorem isV_stay {d : Dv} {k n : Nat} {z : Int} {ys : List (Int × Int)} {i : Nat} (hi : i < ys.length) (h : isV d k n z ys i = true) : isV d k n z ys (i + 1) = true := by
  rw [isV_step hi, h]; rfl
theorem isV_no {d : Dv} {k n : Nat} {z : Int} {ys : List (Int × Int)} {i : Nat} (hi : i < ys.length) (h : isV d k n z ys i = false) (hn : ¬ (ys[i]).1 % n = k) : isV d k n z ys (i + 1) = false := by
  rw [isV_step hi, h]; simp [hn]
theorem isV_yes {d : Dv} {k n : Nat} {z : Int} {ys : List (Int × Int)} {i : Nat} (hi : i < ys.length) (h : isV d k n z ys i = false) (hn : (ys[i]).1 % n = k) : isV d k n z ys (i + 1) = d.standsB k (ful (ys[i]).2) := by
  rw [isV_step hi, h]; simp [hn]
theorem KeC.yes {zs : List Int} {ys : List (Int × Int)} {d : Dv} (h : KeC zs ys true d) {k : Nat} (hk : k < zs.length) : isV d k zs.length (zs.getD k 0) ys ys.length = true := by
  obtain ⟨g1, g2⟩ := h.at_ k hk
  unfold isV
  rw [List.take_length, Bool.or_eq_true]
  rcases g2 with g | ⟨_, y, hy, hy1, hy2⟩
  · exact .inl (stands_yes g1 g)
  · exact .inr (List.any_eq_true.2 ⟨y, hy, by rw [stands_yes g1 hy2]; simp [hy1]⟩)
theorem KeC.only {zs : List Int} {ys : List (Int × Int)} {d : Dv} (h : KeC zs ys false d) {k : Nat} (hk : k < zs.length) : d.standsB k (ful (zs.getD k 0)) = true := by
  obtain ⟨g1, g2⟩ := h.at_ k hk
  rcases g2 with g | ⟨e, _⟩
  · exact stands_yes g1 g
  · cases e
end Go.DevP
