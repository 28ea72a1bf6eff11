/-
  What is done to a good device leaves it good. Plain.
-/
import Derived.Test.YtpjbafpbgacnkaaDvPl3
import Derived.Test.YtpjbafpbgacnkaaDvW5
set_option linter.unusedVariables false
set_option linter.unusedSimpArgs false
namespace Go.DevP
open Go Go.Mem
theorem Dv.Good.counted {d : Dv} (hg : d.Good) : d.counted.Good := by
  refine ⟨hg.n0, hg.n1, ?_, hg.sure, hg.loose⟩
  have := hg.left
  unfold Dv.counted cntL
  dsimp only
  split
  · omega
  · split <;> omega
theorem Dv.Good.flush {d : Dv} (hg : d.Good) : d.flushD.Good := by
  unfold Dv.flushD
  split
  · exact hg
  · split
    · exact hg.counted
    · refine ⟨by simpa using hg.n0, by simpa using hg.n1, hg.counted.left, fun b hb => ?_, fun b hb x hx => ?_⟩
      · obtain ⟨c, hc, rfl⟩ := List.mem_map.1 hb
        exact Blk.stands_len (hg.sure _ hc) (hg.loose _ hc)
      · obtain ⟨c, hc, rfl⟩ := List.mem_map.1 hb
        cases hx
theorem Dv.Good.put {d : Dv} (hg : d.Good) {k : Nat} {x : List Int} (hx : x.length = 512) (hk : k < d.B.length) : (d.put k x).Good := by
  have hm : d.B.getD k default ∈ d.B := by rw [List.getD_eq_getElem?_getD, List.getElem?_eq_getElem hk]; exact List.getElem_mem hk
  refine ⟨by simpa [Dv.put] using hg.n0, by simpa [Dv.put] using hg.n1, hg.left, fun b hb => ?_, fun b hb y hy => ?_⟩
  · rcases List.mem_or_eq_of_mem_set hb with h | rfl
    · exact hg.sure _ h
    · exact (show (d.B.getD k default).sure.length = 512 from hg.sure _ hm)
  · rcases List.mem_or_eq_of_mem_set hb with h | rfl
    · exact hg.loose _ h _ hy
    · simp only [Blk.add, List.mem_append, List.mem_singleton] at hy
      rcases hy with h | rfl
      · exact hg.loose _ hm _ h
      · exact hx
theorem mayW_k {d : Dv} {k : Int} {n : Nat} (h : d.mayW k n = true) : k.toNat < d.B.length ∧ 0 ≤ k ∧ n = 512 := by
  simp only [Dv.mayW, hasB, Bool.and_eq_true, decide_eq_true_eq] at h
  omega
theorem Dv.Good.write {d : Dv} (hg : d.Good) (k : Int) (x : List Int) : (d.writeD k x).Good := by
  unfold Dv.writeD
  split
  · exact hg
  · split
    · next hm =>
      have := mayW_k hm
      split
      · exact hg.counted
      · exact hg.counted.put this.2.2 this.1
    · exact hg
theorem Dv.Good.arm {d : Dv} (hg : d.Good) {n : Int} (hn : n ≤ 9223372036854775807) : (d.armD n).Good := by
  unfold Dv.armD
  split
  · exact hg
  · exact ⟨hg.n0, hg.n1, by dsimp only; omega, hg.sure, hg.loose⟩
theorem Dv.Good.offD {d : Dv} (hg : d.Good) : d.offD.Good := ⟨hg.n0, hg.n1, hg.left, hg.sure, hg.loose⟩
theorem Dv.Good.comes {d : Dv} (hg : d.Good) (ps : List Int) : (d.comesD ps).Good := by
  unfold Dv.comesD
  split
  · have hm : ∀ k, k ∈ List.range d.B.length → d.B.getD k default ∈ d.B := fun k hk => by
      have := List.mem_range.1 hk
      rw [List.getD_eq_getElem?_getD, List.getElem?_eq_getElem this]; exact List.getElem_mem this
    refine ⟨by simpa [comesB] using hg.n0, by simpa [comesB] using hg.n1, by simp, fun b hb => ?_, fun b hb x hx => ?_⟩
    · obtain ⟨k, hk, rfl⟩ := List.mem_map.1 hb
      have h1 := hm k hk
      generalize d.B.getD k default = c at h1
      unfold Blk.comes
      dsimp only
      split
      · exact hg.sure _ h1
      · next hp =>
        have h2 := pick_le ps (rankB d.B k) c.loose.length
        generalize pickV ps (rankB d.B k) c.loose.length = p at h2 hp
        have h3 : p - 1 < c.loose.length := by omega
        rw [List.getD_eq_getElem?_getD, List.getElem?_eq_getElem h3]
        exact hg.loose _ h1 _ (List.getElem_mem h3)
    · obtain ⟨k, hk, rfl⟩ := List.mem_map.1 hb
      cases hx
  · exact hg
/-- No block has more loose things than so many. -/
def Dv.Big (d : Dv) (m : Nat) : Prop := ∀ b ∈ d.B, b.loose.length ≤ m
theorem Dv.Big.le {d : Dv} {m n : Nat} (h : d.Big m) (hmn : m ≤ n) : d.Big n := fun b hb => Nat.le_trans (h b hb) hmn
theorem big_new (n : Nat) : (Dv.new n).Big 0 := by
  intro b hb
  simp only [Dv.new] at hb
  rw [(List.mem_replicate.1 hb).2]; exact Nat.le_refl _
theorem Dv.Big.flush {d : Dv} {m : Nat} (h : d.Big m) : d.flushD.Big m := by
  unfold Dv.flushD
  split
  · exact h
  · split
    · exact h
    · intro b hb
      obtain ⟨c, hc, rfl⟩ := List.mem_map.1 hb
      exact Nat.zero_le _
theorem Dv.Big.write {d : Dv} {m : Nat} (h : d.Big m) (k : Int) (x : List Int) : (d.writeD k x).Big (m + 1) := by
  have h' := h.le (Nat.le_succ m)
  unfold Dv.writeD
  split
  · exact h'
  · split
    · next hm =>
      have hk := (mayW_k hm).1
      split
      · exact h'
      · intro b hb
        rcases List.mem_or_eq_of_mem_set hb with hb | rfl
        · exact h' _ hb
        · simp only [Blk.add, List.length_append, List.length_singleton]
          have : d.counted.B.getD k.toNat default ∈ d.B := by
            show d.B.getD k.toNat default ∈ d.B
            rw [List.getD_eq_getElem?_getD, List.getElem?_eq_getElem hk]; exact List.getElem_mem hk
          exact Nat.succ_le_succ (h _ this)
    · exact h'
theorem Dv.Big.arm {d : Dv} {m : Nat} (h : d.Big m) (n : Int) : (d.armD n).Big m := by
  unfold Dv.armD; split <;> exact h
theorem Dv.Big.offD {d : Dv} {m : Nat} (h : d.Big m) : d.offD.Big m := h
theorem Dv.Big.comes {d : Dv} {m : Nat} (h : d.Big m) (ps : List Int) : (d.comesD ps).Big m := by
  unfold Dv.comesD
  split
  · intro b hb
    obtain ⟨k, hk, rfl⟩ := List.mem_map.1 hb
    exact Nat.zero_le _
  · exact h
/-- A device of three blocks that was armed, behind so many writes and flushes. -/
structure ArmI (N i : Nat) (d : Dv) : Prop where
  good : d.Good
  n3 : d.B.length = 3
  big : d.Big i
  off : d.off = decide (N < i)
  le : i ≤ N → d.left = (N : Int) - i
  gt : N < i → d.left = 0
theorem ArmI.start {N : Nat} (hN : N ≤ 255) : ArmI N 0 ((Dv.new 3).armD N) := by
  refine ⟨(new_good (by omega) (by omega)).arm (by omega), rfl, (big_new 3).arm _, ?_, fun _ => ?_, fun h => by omega⟩
  · simp [Dv.armD, Dv.new]
  · simp [Dv.armD, Dv.new]; omega
theorem ArmI.counted {N i : Nat} {d : Dv} (h : ArmI N i d) (hi : i ≤ N) : cntE d.left = (if i < N then 0 else 8) ∧ cntO d.left d.off = decide (N < i + 1) ∧ (i + 1 ≤ N → cntL d.left = (N : Int) - (i + 1 : Nat)) ∧ (N < i + 1 → cntL d.left = 0) := by
  have h1 := h.le hi
  have h2 : d.off = false := by rw [h.off]; exact decide_eq_false (by omega)
  by_cases hlt : i < N
  · have hl0 : d.left ≠ 0 := by omega
    have hl1 : d.left ≠ -1 := by omega
    refine ⟨by simp [cntE, hl0, hlt], ?_, fun _ => ?_, fun _ => by omega⟩
    · simp [cntO, hl0, h2]; omega
    · simp only [cntL, if_neg hl0, if_neg hl1]; omega
  · obtain rfl : i = N := by omega
    have hl0 : d.left = 0 := by omega
    refine ⟨by simp [cntE, hl0], by simp [cntO, hl0], fun _ => by omega, fun _ => by simp [cntL, hl0]⟩
theorem ArmI.past {N i : Nat} {d : Dv} (h : ArmI N i d) (hi : N < i) : ArmI N (i + 1) d :=
  ⟨h.good, h.n3, h.big.le (Nat.le_succ _), by rw [h.off, decide_eq_true hi, decide_eq_true (by omega)], fun _ => by omega, fun _ => h.gt hi⟩
theorem ArmI.flush {N i : Nat} {d : Dv} (h : ArmI N i d) : d.flushE = (if i < N then 0 else 8) ∧ ArmI N (i + 1) d.flushD := by
  have hG := h.good.flush
  have hB := h.big.flush
  by_cases hi : N < i
  · have h1 : d.off = true := by rw [h.off]; exact decide_eq_true hi
    have h2 : d.flushD = d := by unfold Dv.flushD; rw [if_pos h1]
    refine ⟨by unfold Dv.flushE; rw [if_pos h1, if_neg (by omega)], by rw [h2]; exact h.past hi⟩
  · have hc := h.counted (by omega)
    have h1 : ¬ d.off = true := by rw [h.off]; simp; omega
    have h3 : d.flushD.left = cntL d.left := by unfold Dv.flushD; rw [if_neg h1]; split <;> rfl
    have h4 : d.flushD.off = cntO d.left d.off := by unfold Dv.flushD; rw [if_neg h1]; split <;> rfl
    have h5 : d.flushD.B.length = d.B.length := by unfold Dv.flushD; rw [if_neg h1]; split <;> simp [Dv.counted]
    refine ⟨by unfold Dv.flushE; rw [if_neg h1]; exact hc.1, hG, by rw [h5]; exact h.n3, hB.le (Nat.le_succ _), by rw [h4]; exact hc.2.1, by rw [h3]; exact hc.2.2.1, by rw [h3]; exact hc.2.2.2⟩
theorem ArmI.write {N i : Nat} {d : Dv} (h : ArmI N i d) {k : Int} (hk : 0 ≤ k ∧ k < 3) {x : List Int} (hx : x.length = 512) : d.writeE k x.length = (if i < N then 0 else 8) ∧ ArmI N (i + 1) (d.writeD k x) := by
  have hG := h.good.write k x
  have hB := h.big.write k x
  by_cases hi : N < i
  · have h1 : d.off = true := by rw [h.off]; exact decide_eq_true hi
    have h2 : d.writeD k x = d := by unfold Dv.writeD; rw [if_pos h1]
    refine ⟨by unfold Dv.writeE; rw [if_pos h1, if_neg (by omega)], by rw [h2]; exact h.past hi⟩
  · have hc := h.counted (by omega)
    have h1 : ¬ d.off = true := by rw [h.off]; simp; omega
    have hm : d.mayW k x.length = true := by simp [Dv.mayW, hasB, hx, h.n3, hk]
    have h3 : (d.writeD k x).left = cntL d.left := by unfold Dv.writeD; rw [if_neg h1, if_pos hm]; split <;> rfl
    have h4 : (d.writeD k x).off = cntO d.left d.off := by unfold Dv.writeD; rw [if_neg h1, if_pos hm]; split <;> rfl
    have h5 : (d.writeD k x).B.length = d.B.length := by unfold Dv.writeD; rw [if_neg h1, if_pos hm]; split <;> simp [Dv.counted, Dv.put]
    refine ⟨by unfold Dv.writeE; rw [if_neg h1, if_pos hm]; exact hc.1, hG, by rw [h5]; exact h.n3, hB, by rw [h4]; exact hc.2.1, by rw [h3]; exact hc.2.2.1, by rw [h3]; exact hc.2.2.2⟩
theorem ArmI.not {N i : Nat} {d : Dv} (h : ArmI N i d) (hi : i ≤ N) (x : List Int) : d.writeE 3 x.length = 1 ∧ d.writeD 3 x = d := by
  have h1 : ¬ d.off = true := by rw [h.off]; simp; omega
  have hm : ¬ d.mayW 3 x.length = true := by simp [Dv.mayW, hasB, h.n3]
  exact ⟨by unfold Dv.writeE; rw [if_neg h1, if_neg hm], by unfold Dv.writeD; rw [if_neg h1, if_neg hm]⟩
theorem ArmI.read {N i : Nat} {d : Dv} (h : ArmI N i d) : d.readE 0 = if i ≤ N then 0 else 8 := by
  have hh : hasB d.B.length 0 = true := by simp [hasB, h.n3]
  by_cases hi : i ≤ N
  · have h1 : ¬ d.off = true := by rw [h.off]; simp; omega
    unfold Dv.readE; rw [if_neg h1, if_pos hh, if_pos hi]
  · have h1 : d.off = true := by rw [h.off]; simp; omega
    unfold Dv.readE; rw [if_pos h1, if_neg hi]
end Go.DevP
