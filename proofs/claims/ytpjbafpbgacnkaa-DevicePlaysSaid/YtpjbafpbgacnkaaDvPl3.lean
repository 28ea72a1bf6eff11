/-
  What comes of loose blocks when the power comes: plain.
-/
import Derived.Test.YtpjbafpbgacnkaaDvPl2
set_option linter.unusedVariables false
set_option linter.unusedSimpArgs false
namespace Go.DevP
open Go Go.Mem
def comesF (ps : List Int) (r : Nat) (e : Ent) : Option (Sl × List Int) := if pickV ps r e.c.length = 0 then none else e.c[pickV ps r e.c.length - 1]?
def fullB (B : List Blk) (k : Nat) : Bool := !(B.getD k default).loose.isEmpty
theorem rank_range (B : List Blk) : ∀ k, k ≤ B.length → rankB B k = ((List.range k).filter (fullB B)).length
  | 0, _ => rfl
  | k + 1, h => by
    have ih := rank_range B k (by omega)
    unfold rankB at ih ⊢
    have hk : k < B.length := by omega
    rw [List.range_succ, List.filter_append, List.length_append, List.take_succ_eq_append_getElem hk, List.filter_append, List.length_append, ih]
    congr 1
    have e : fullB B k = !(B[k]).loose.isEmpty := by unfold fullB; rw [List.getD_eq_getElem?_getD, List.getElem?_eq_getElem hk]; rfl
    cases q : (B[k]).loose.isEmpty
    · rw [List.filter_cons_of_pos (by rw [q]; rfl), List.filter_cons_of_pos (by rw [e, q]; rfl)]; rfl
    · rw [List.filter_cons_of_neg (by rw [q]; decide), List.filter_cons_of_neg (by rw [e, q]; decide)]; rfl
theorem keys_range {l : Lay} {d : Dv} (ok : Ok l d) : (sortE l.es).map (·.k) = (List.range d.B.length).filter (fullB d.B) := by
  have hfull : ∀ k, k < d.B.length → (fullB d.B k = true ↔ ∃ e ∈ l.es, e.k = k) := fun k hk => by
    unfold fullB
    constructor
    · intro h
      rcases Classical.em (∃ e ∈ l.es, e.k = k) with q | q
      · exact q
      · rw [ok.no k hk fun e he e2 => q ⟨e, he, e2⟩] at h
        cases h
    · rintro ⟨e, he, rfl⟩
      obtain ⟨_, h2, h3, _⟩ := ok.es e he
      rw [h2]
      cases hc : e.c with
      | nil => exact absurd hc h3
      | cons a t => rfl
  refine List.Perm.eq_of_pairwise (le := fun a b : Nat => a ≤ b) (fun a b _ _ h1 h2 => Nat.le_antisymm h1 h2) ?_ ?_ ?_
  · rw [List.pairwise_map]; exact sortE_pw l.es
  · refine List.Pairwise.filter _ ?_
    exact List.pairwise_lt_range.imp fun h => Nat.le_of_lt h
  · have hn1 : ((sortE l.es).map (·.k)).Nodup := (((sortE_perm l.es).map (·.k)).nodup_iff).2 ok.nd
    have hn2 : ((List.range d.B.length).filter (fullB d.B)).Nodup := List.nodup_range.filter _
    refine (List.perm_ext_iff_of_nodup hn1 hn2).2 fun k => ?_
    rw [List.mem_map, List.mem_filter, List.mem_range]
    constructor
    · rintro ⟨e, he, rfl⟩
      have he := (sortE_perm l.es).mem_iff.1 he
      have hk := (ok.es e he).1
      exact ⟨hk, (hfull _ hk).2 ⟨e, he, rfl⟩⟩
    · rintro ⟨hk, hf⟩
      obtain ⟨e, he, rfl⟩ := (hfull k hk).1 hf
      exact ⟨e, (sortE_perm l.es).mem_iff.2 he, rfl⟩
theorem rank_at {l : Lay} {d : Dv} (ok : Ok l d) {r : Nat} (hr : r < (sortE l.es).length) : rankB d.B ((sortE l.es)[r]).k = r := by
  have hk := (ok.es _ ((sortE_perm l.es).mem_iff.1 (List.getElem_mem hr))).1
  have hkr := keys_range ok
  obtain ⟨k, hk0⟩ : ∃ k, k = ((sortE l.es)[r]).k := ⟨_, rfl⟩
  rw [← hk0] at hk ⊢
  rw [rank_range d.B k (by omega)]
  have hsplit : (List.range d.B.length).filter (fullB d.B) = (List.range k).filter (fullB d.B) ++ ((List.range' k (d.B.length - k)).filter (fullB d.B)) := by
    rw [← List.filter_append]
    congr 1
    rw [List.range_eq_range', List.range_eq_range', show d.B.length = k + (d.B.length - k) by omega, ← List.range'_append_1]
    simp
  have hm : k ∈ (List.range d.B.length).filter (fullB d.B) := by
    rw [← hkr, hk0]
    exact List.mem_map.2 ⟨_, List.getElem_mem hr, rfl⟩
  have hf : fullB d.B k = true := (List.mem_filter.1 hm).2
  have hrest : (List.range' k (d.B.length - k)).filter (fullB d.B) = k :: (List.range' (k + 1) (d.B.length - k - 1)).filter (fullB d.B) := by
    obtain ⟨m, hmm⟩ : ∃ m, d.B.length - k = m + 1 := ⟨d.B.length - k - 1, by omega⟩
    rw [hmm, List.range'_succ, List.filter_cons_of_pos hf]
    rfl
  rw [hrest] at hsplit
  rw [hsplit] at hkr
  have hnd : ((sortE l.es).map (·.k)).Nodup := (((sortE_perm l.es).map (·.k)).nodup_iff).2 ok.nd
  have hlen : ((List.range k).filter (fullB d.B)).length < ((sortE l.es).map (·.k)).length := by
    rw [hkr, List.length_append, List.length_cons]; omega
  have h1 : ((sortE l.es).map (·.k))[((List.range k).filter (fullB d.B)).length] = k := by
    have : ((sortE l.es).map (·.k))[((List.range k).filter (fullB d.B)).length]? = some k := by
      rw [hkr, List.getElem?_append_right (Nat.le_refl _), Nat.sub_self]; rfl
    rw [List.getElem?_eq_getElem hlen] at this
    exact Option.some.inj this
  have hr2 : r < ((sortE l.es).map (·.k)).length := by rw [List.length_map]; exact hr
  have h2 : ((sortE l.es).map (·.k))[r] = k := by rw [List.getElem_map, ← hk0]
  exact (List.getElem_inj hnd (h₀ := hlen) (h₁ := hr2)).1 (h1.trans h2.symm)
theorem pick_le (ps : List Int) (r w : Nat) : pickV ps r w ≤ w := by
  have := Nat.mod_lt (max (ps.getD r 0) 0).toNat (show 0 < w + 1 by omega)
  unfold pickV; omega
theorem comes_ok {l : Lay} {d : Dv} (ok : Ok l d) (ps : List Int) (left : Int) (off : Bool) : Ok { l with S := stepS (comesF ps) (sortE l.es) 0 l.S, es := [] } ⟨comesB d.B ps, left, off⟩ := by
  have hat : ∀ k, k < d.B.length → (comesB d.B ps).getD k default = (d.B.getD k default).comes (pickV ps (rankB d.B k) (d.B.getD k default).loose.length) := fun k hk => by
    unfold comesB
    rw [List.getD_eq_getElem?_getD, List.getElem?_map, List.getElem?_range hk]; rfl
  refine ok.stepped (sortE_perm _) (comesF ps) (fun r e p he hp => ?_) (by simp [comesB]) (fun k hk => by rw [hat k hk]; rfl) (fun k hk hn => ?_) (fun r hr => ?_)
  · unfold comesF at hp
    split at hp
    · cases hp
    · exact (ok.es e he).2.2.2 p (List.mem_of_getElem? hp)
  · rw [hat k hk, ok.no k hk hn]
    unfold Blk.comes
    rw [if_pos]
    have := pick_le ps (rankB d.B k) ([] : List (List Int)).length
    rw [List.length_nil] at this ⊢
    omega
  · obtain ⟨g1, g2, g3, g4⟩ := ok.es _ ((sortE_perm _).mem_iff.1 (List.getElem_mem hr))
    rw [hat _ g1, rank_at ok hr, g2, List.length_map]
    unfold Blk.comes comesF
    dsimp only
    by_cases e : pickV ps r ((sortE l.es)[r]).c.length = 0
    · rw [if_pos e, if_pos e]; rfl
    · have hl := pick_le ps r ((sortE l.es)[r]).c.length
      have hlt : pickV ps r ((sortE l.es)[r]).c.length - 1 < ((sortE l.es)[r]).c.length := by omega
      rw [if_neg e, if_neg e, List.getElem?_eq_getElem hlt, g2, List.getD_eq_getElem?_getD, List.getElem?_map, List.getElem?_eq_getElem hlt]
      rfl
/-- What of the picks is left. -/
def pk (a : Option Addr) (n c r : Nat) : Value :=
  match a with
  | some ⟨b, o, none⟩ => .slice (some ⟨b, o + min (min r n) (c - 1), none⟩) (n - r) (c - min r n)
  | x => .slice x (n - r) (c - min r n)
theorem pk_zero (a : Option Addr) (n c : Nat) : pk a n c 0 = .slice a n c := by
  unfold pk
  split <;> simp
theorem pk_stay {a : Option Addr} {n c r : Nat} (h : n ≤ r) : pk a n c (r + 1) = pk a n c r := by
  unfold pk
  have e1 : min (r + 1) n = n := by omega
  have e2 : min r n = n := by omega
  have e3 : n - (r + 1) = n - r := by omega
  split <;> simp only [e1, e2, e3]
end Go.DevP
namespace Go.DevP
open Go Go.Mem
theorem pk_at {b o n c r : Nat} (hr : r < n) (hc : n ≤ c) : pk (some ⟨b, o, none⟩) n c r = .slice (some ⟨b, o + r, none⟩) (n - r) (c - r) := by
  unfold pk
  have e1 : min r n = r := by omega
  have e2 : min r (c - 1) = r := by omega
  simp only [e1, e2]
theorem pk_one {b o n c r : Nat} (hr : r < n) (hc : n ≤ c) (h1 : c - r = 1) : pk (some ⟨b, o, none⟩) n c (r + 1) = .slice (some ⟨b, o + r, none⟩) (n - r - 1) (1 - 1) := by
  unfold pk
  have e1 : min (r + 1) n = r + 1 := by omega
  have e2 : min (r + 1) (c - 1) = r := by omega
  have e3 : n - (r + 1) = n - r - 1 := by omega
  have e4 : c - (r + 1) = 1 - 1 := by omega
  simp only [e1, e2, e3, e4]
theorem pk_more {b o n c r : Nat} (hr : r < n) (hc : n ≤ c) (h1 : c - r ≠ 1) : pk (some ⟨b, o, none⟩) n c (r + 1) = .slice (some ⟨b, o + r + 1, none⟩) (n - r - 1) (c - r - 1) := by
  unfold pk
  have e1 : min (r + 1) n = r + 1 := by omega
  have e2 : min (r + 1) (c - 1) = r + 1 := by omega
  have e3 : n - (r + 1) = n - r - 1 := by omega
  have e4 : c - (r + 1) = c - r - 1 := by omega
  simp only [e1, e2, e3, e4, Nat.add_assoc]
theorem pk_none {a : Option Addr} {n c r : Nat} (h : n ≤ r) : ∃ a' c', pk a n c r = .slice a' 0 c' := by
  unfold pk
  have e3 : n - r = 0 := by omega
  split
  · exact ⟨_, _, by rw [e3]⟩
  · exact ⟨_, _, by rw [e3]⟩
theorem pick_neg {ps : List Int} {r w : Nat} (h : ps.getD r 0 < 0 ∨ ps.length ≤ r) : pickV ps r w = 0 := by
  have h0 : max (ps.getD r 0) 0 = 0 := by
    rcases h with h | h
    · omega
    · rw [List.getD_eq_getElem?_getD, List.getElem?_eq_none h]; rfl
  unfold pickV
  rw [h0]
  simp
theorem pick_eq (ps : List Int) (r w : Nat) : max (ps.getD r 0) 0 % ((w : Int) + 1) = (pickV ps r w : Int) := by
  unfold pickV
  rw [Int.natCast_emod, Int.toNat_of_nonneg (by omega)]
  rfl
end Go.DevP
