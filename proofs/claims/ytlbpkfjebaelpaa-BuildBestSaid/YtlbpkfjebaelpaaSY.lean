/-
  Package solve: bits; what a region of makes leaves.
-/
import Derived.Test.YtlbpkfjebaelpaaSW6
import Derived.Test.YtlbpkfjebaelpaaSPl
import Derived.Test.YtlbpkfjebaelpaaLE
import Derived.Shelf.Small.Bits
set_option linter.unusedVariables false
set_option linter.unusedSimpArgs false
namespace Go.Proofs.Ytlbpkfjebaelpaa
open Go Go.Shelf
def lays129s_ren : Go.Shelf.Ren := ⟨fun | 129 => 36 | n => n, fun | 53 => 34 | 3 => 3 | 4 => 4 | 46 => 81 | 5 => 5 | 9 => 9 | n => n, fun | n => n⟩
theorem lays129s : Go.Proofs.Lays.n129 Try.prog lays129s_ren := {
  mixed := by kernel_rfl
  f129 := Try.func36.trans (congrArg some (by kernel_rfl))
  t3 := Try.underlying3
  a3 := Try.isAgg3
  z3 := Try.sizeOf3
  v3 := Try.zeroValue3
  t4 := Try.underlying4
  a4 := Try.isAgg4
  z4 := Try.sizeOf4
  v4 := Try.zeroValue4
  t5 := Try.underlying5
  a5 := Try.isAgg5
  z5 := Try.sizeOf5
  v5 := Try.zeroValue5
  t9 := Try.underlying9
  a9 := Try.isAgg9
  z9 := Try.sizeOf9
  v9 := Try.zeroValue9
  t46 := Try.underlying81
  a46 := Try.isAgg81
  z46 := Try.sizeOf81
  v46 := Try.zeroValue81
  t53 := Try.underlying34
  a53 := Try.isAgg34
  z53 := Try.sizeOf34
  v53 := Try.zeroValue34 }
theorem bits64_any (x : Int) (w : World) (h0 : 0 ≤ x) (h1 : x ≤ 18446744073709551615) :
    Calls Try.prog 36 #[.int .u64 x] w fun e w' => e = .returned (.int .i64 (Lib.bitLen x.toNat)) ∧ w' = w := Any.bits_Len64 lays129s x w h0 h1
end Go.Proofs.Ytlbpkfjebaelpaa
namespace Go.Proofs.Ytlbpkfjebaelpaa
open Go Go.RowKit Go.Mem Go.NetP Go.RestP Go.CertP Go.PathP Go.SolveP Go.Shelf
attribute [local go_sem] Oper.semAt_some
theorem Try.infoI64b : (Try.prog.info? 2).map (fun i => (i.zero, i.size, i.bytes)) = some (some (.int .i64 0), 1, 8) := by kernel_rfl
theorem Try.infoEdgb : (Try.prog.info? 52).map (fun i => (i.zero, i.size, i.bytes)) = some (some (.agg #[.int .i64 0, .int .i64 0, .int .i64 0, .int .i64 0]), 4, 32) := by kernel_rfl
/-- What the first values are. -/
def FB (B1 N l c : Nat) (a : Option Addr) (v : Nat → Value) : Nat → Prop
  | 0 => v 0 = .pointer (some ⟨B1, 0, none⟩)
  | 1 => v 1 = .int .i64 N
  | 2 => ∃ g, v 2 = .slice (some ⟨g, 0, none⟩) 0 0
  | 3 => v 3 = .pointer (some ⟨B1, 1, none⟩)
  | 4 => v 4 = .slice a l c
  | 5 => ∃ g c', v 5 = .slice (some ⟨g, 0, none⟩) l c'
  | 6 => v 6 = .agg #[.int .i64 N, v 5]
  | 7 => v 7 = .pointer (some ⟨B1, 1, none⟩)
  | 8 => v 8 = .slice a l c
  | 9 => v 9 = .int .i64 l
  | 10 => ∃ g, v 10 = .slice (some ⟨g, 0, none⟩) l l
  | 11 => v 11 = .pointer (some ⟨B1, 0, none⟩)
  | 12 => v 12 = .int .i64 N
  | 13 => ∃ g, v 13 = .slice (some ⟨g, 0, none⟩) N N
  | 14 => v 14 = .pointer (some ⟨B1, 0, none⟩)
  | 15 => v 15 = .int .i64 N
  | 16 => ∃ g, v 16 = .slice (some ⟨g, 0, none⟩) N N
  | 17 => v 17 = .agg #[.int .i64 N, v 5, v 10, v 13, v 16, .int .i64 0]
  | 18 => ∃ g, v 18 = .pointer (some ⟨g, 0, none⟩)
  | _ => True
def p5 (es : List Ed) (dn : Nat → Bool) (v : Nat → Value) : List Thing := if dn 5 = true then [recT edR 52 (v 5) es] else if dn 2 = true then [recT edR 52 (v 2) []] else []
def pM (i n : Nat) (dn : Nat → Bool) (v : Nat → Value) : List Thing := if dn i = true then [intsT .i64 2 (v i) (List.replicate n 0)] else []
def p18 (N : Nat) (dn : Nat → Bool) (v : Nat → Value) : List Thing := if dn 18 = true then [cellsT (ptrBlk (v 18)) #[.int .i64 N, v 5, v 10, v 13, v 16, .int .i64 0] 66] else []
def lsB (N : Nat) (es : List Ed) (L0 : List Thing) (dn : Nat → Bool) (v : Nat → Value) : List Thing :=
  p5 es dn v ++ (pM 10 es.length dn v ++ (pM 13 N dn v ++ (pM 16 N dn v ++ (p18 N dn v ++ L0))))
/-- Those that an operation's value stands on. -/
def useB : Nat → List Nat
  | 6 => [5]
  | 17 => [5, 10, 13, 16]
  | _ => []
theorem FB.same {B1 N l c : Nat} {a : Option Addr} {v : Nat → Value} {k i : Nat} {x : Value} (h : FB B1 N l c a v k) (hi : i ≠ k) (hu : ∀ j ∈ useB k, i ≠ j) : FB B1 N l c a (Mix3.updV v i x) k := by
  have hv : ∀ j, i ≠ j → Mix3.updV v i x j = v j := fun j hj => Mix3.updV_ne v x hj
  rcases k with _ | _ | _ | _ | _ | _ | _ | _ | _ | _ | _ | _ | _ | _ | _ | _ | _ | _ | _ | k
  all_goals first
    | (simp only [FB, useB, List.mem_cons, List.not_mem_nil, or_false, forall_eq_or_imp, forall_eq, Nat.zero_add, Nat.reduceAdd] at h hi hu ⊢; rw [hv _ hi]; simp only [hv _ hu]; exact h)
    | (simp only [FB, useB, List.mem_cons, List.not_mem_nil, or_false, forall_eq_or_imp, forall_eq, Nat.zero_add, Nat.reduceAdd] at h hi hu ⊢; obtain ⟨u1, u2, u3, u4⟩ := hu; rw [hv _ hi, hv _ u1, hv _ u2, hv _ u3, hv _ u4]; exact h)
    | (simp only [FB, Nat.zero_add, Nat.reduceAdd] at h hi ⊢; simp only [hv _ hi]; exact h)
    | trivial
structure BJ (B1 N c : Nat) (a : Option Addr) (es : List Ed) (w : World) (L0 : List Thing) (dn : Nat → Bool) (v : Nat → Value) (W : World) : Prop where
  sep : Sep w W (lsB N es L0 dn v)
  fact : ∀ k, dn k = true → FB B1 N es.length c a v k
  use_ : ∀ k, dn k = true → ∀ j ∈ useB k, dn j = true
  u18 : dn 18 = true → dn 17 = true
theorem BJ.facts {B1 N c : Nat} {a : Option Addr} {es : List Ed} {w : World} {L0 : List Thing} {dn : Nat → Bool} {v : Nat → Value} {W : World} (h : BJ B1 N c a es w L0 dn v W) {i : Nat} (hi : dn i = false) (x : Value) (hx : FB B1 N es.length c a (Mix3.updV v i x) i) : ∀ k, Mix3.more dn i k = true → FB B1 N es.length c a (Mix3.updV v i x) k := by
  intro k hk
  by_cases e : k = i
  · subst e; exact hx
  · have hk' : dn k = true := by simpa [Mix3.more, e] using hk
    exact (h.fact k hk').same (fun q => e q.symm) (fun j hj q => by have := h.use_ k hk' j hj; rw [← q, hi] at this; cases this)
theorem BJ.uses {B1 N c : Nat} {a : Option Addr} {es : List Ed} {w : World} {L0 : List Thing} {dn : Nat → Bool} {v : Nat → Value} {W : World} (h : BJ B1 N c a es w L0 dn v W) {i : Nat} (hu : ∀ j ∈ useB i, dn j = true) : ∀ k, Mix3.more dn i k = true → ∀ j ∈ useB k, Mix3.more dn i j = true := by
  intro k hk j hj
  by_cases e : k = i
  · subst e; simp [Mix3.more, hu j hj]
  · have hk' : dn k = true := by simpa [Mix3.more, e] using hk
    simp [Mix3.more, h.use_ k hk' j hj]
section
variable {B1 N c : Nat} {a : Option Addr} {es : List Ed} {w W : World} {L0 : List Thing} {dn : Nat → Bool} {v : Nat → Value}
theorem BJ.no18 (h : BJ B1 N c a es w L0 dn v W) {i : Nat} (hi : dn i = false) (hm : i ∈ [5, 10, 13, 16, 17]) : dn 18 = false := by
  cases hq : dn 18
  · rfl
  · have h17 := h.u18 hq
    have hu := h.use_ 17 h17
    simp only [List.mem_cons, List.not_mem_nil, or_false] at hm
    rcases hm with rfl | rfl | rfl | rfl | rfl
    · have := hu 5 (by decide); rw [hi] at this; cases this
    · have := hu 10 (by decide); rw [hi] at this; cases this
    · have := hu 13 (by decide); rw [hi] at this; cases this
    · have := hu 16 (by decide); rw [hi] at this; cases this
    · rw [hi] at h17; cases h17
theorem BJ.u18' (h : BJ B1 N c a es w L0 dn v W) {i : Nat} (h17 : i = 18 → dn 17 = true) : Mix3.more dn i 18 = true → Mix3.more dn i 17 = true := by
  intro q
  by_cases e : i = 18
  · simp [Mix3.more, h17 e]
  · have : dn 18 = true := by simpa [Mix3.more, show ¬ (18 = i) from fun q => e q.symm] using q
    simp [Mix3.more, h.u18 this]
theorem BJ.pure (h : BJ B1 N c a es w L0 dn v W) {i : Nat} (hi : dn i = false) (hn : i ∉ [2, 5, 10, 13, 16, 18]) (hu : ∀ j ∈ useB i, dn j = true) (x : Value) (hx : FB B1 N es.length c a (Mix3.updV v i x) i) : BJ B1 N c a es w L0 (Mix3.more dn i) (Mix3.updV v i x) W := by
  simp only [List.mem_cons, List.not_mem_nil, or_false, not_or] at hn
  obtain ⟨n2, n5, n10, n13, n16, n18⟩ := hn
  refine ⟨?_, h.facts hi x hx, h.uses hu, h.u18' (fun e => absurd e n18)⟩
  have e : lsB N es L0 (Mix3.more dn i) (Mix3.updV v i x) = lsB N es L0 dn v := by
    unfold lsB p5 pM p18 Mix3.more Mix3.updV
    simp [n2, n5, n10, n13, n16, n18, Ne.symm n2, Ne.symm n5, Ne.symm n10, Ne.symm n13, Ne.symm n16, Ne.symm n18]
  rw [e]; exact h.sep
theorem BJ.lit (h : BJ B1 N c a es w L0 dn v W) (hi : dn 2 = false) (h5 : dn 5 = false) : BJ B1 N c a es w L0 (Mix3.more dn 2) (Mix3.updV v 2 (.slice (some ⟨W.heap.size, 0, none⟩) 0 0)) (W.alloc (.cells #[] 52)) := by
  refine ⟨?_, h.facts hi _ ⟨_, by rw [Mix3.updV_same]⟩, h.uses (by intro j hj; cases hj), h.u18' (fun e => by cases e)⟩
  have h2 := h.sep.litRecs edR 52 [] (by simp [maxLen])
  have e : lsB N es L0 (Mix3.more dn 2) (Mix3.updV v 2 (.slice (some ⟨W.heap.size, 0, none⟩) 0 0)) = recT edR 52 (.slice (some ⟨W.heap.size, 0, none⟩) 0 0) [] :: lsB N es L0 dn v := by
    unfold lsB p5 pM p18 Mix3.more Mix3.updV
    simp [hi, h5]
  rw [e]; exact h2
theorem BJ.at5 (d2 : dn 2 = true) (d5 : dn 5 = false) {g : Nat} (hg : v 2 = .slice (some ⟨g, 0, none⟩) 0 0) : (lsB N es L0 dn v)[0]? = some (recT edR 52 (.slice (some ⟨g, 0, none⟩) 0 0) []) := by
  unfold lsB p5
  simp [d2, d5, hg]
theorem BJ.app (h : BJ B1 N c a es w L0 dn v W) (d2 : dn 2 = true) (d5 : dn 5 = false) {W' : World} {g c' : Nat} (hs : Sep w W' ((lsB N es L0 dn v).set 0 (recT edR 52 (.slice (some ⟨g, 0, none⟩) es.length c') es))) :
    BJ B1 N c a es w L0 (Mix3.more dn 5) (Mix3.updV v 5 (.slice (some ⟨g, 0, none⟩) es.length c')) W' := by
  have d18 := h.no18 d5 (by decide)
  refine ⟨?_, h.facts d5 _ ⟨_, _, by rw [Mix3.updV_same]⟩, h.uses (by intro j hj; cases hj), h.u18' (fun e => by cases e)⟩
  have e : lsB N es L0 (Mix3.more dn 5) (Mix3.updV v 5 (.slice (some ⟨g, 0, none⟩) es.length c')) = (lsB N es L0 dn v).set 0 (recT edR 52 (.slice (some ⟨g, 0, none⟩) es.length c') es) := by
    unfold lsB p5 pM p18 Mix3.more Mix3.updV
    simp [d2, d5, d18]
  rw [e]; exact hs
theorem perm_mid2 (X : Thing) (A B R : List Thing) : (X :: (A ++ (B ++ R))).Perm (A ++ (B ++ (X :: R))) := by
  refine (List.perm_middle (l₁ := A)).symm.trans ?_
  exact List.Perm.append_left A (List.perm_middle (l₁ := B)).symm
theorem perm_mid3 (X : Thing) (A B C R : List Thing) : (X :: (A ++ (B ++ (C ++ R)))).Perm (A ++ (B ++ (C ++ (X :: R)))) :=
  (perm_mid2 X A B (C ++ R)).trans (List.Perm.append_left A (List.Perm.append_left B (List.perm_middle (l₁ := C)).symm))
theorem perm_mid4 (X : Thing) (A B C D R : List Thing) : (X :: (A ++ (B ++ (C ++ (D ++ R))))).Perm (A ++ (B ++ (C ++ (D ++ (X :: R))))) :=
  (perm_mid3 X A B C (D ++ R)).trans (List.Perm.append_left A (List.Perm.append_left B (List.Perm.append_left C (List.perm_middle (l₁ := D)).symm)))
theorem BJ.mk10 (h : BJ B1 N c a es w L0 dn v W) (d : dn 10 = false) {W' : World} {g : Nat} (hs : Sep w W' (intsT .i64 2 (.slice (some ⟨g, 0, none⟩) es.length es.length) (List.replicate es.length 0) :: lsB N es L0 dn v)) :
    BJ B1 N c a es w L0 (Mix3.more dn 10) (Mix3.updV v 10 (.slice (some ⟨g, 0, none⟩) es.length es.length)) W' := by
  have d18 := h.no18 d (by decide)
  refine ⟨hs.perm ?_, h.facts d _ ⟨_, by rw [Mix3.updV_same]⟩, h.uses (by intro j hj; cases hj), h.u18' (fun e => by cases e)⟩
  have e : lsB N es L0 (Mix3.more dn 10) (Mix3.updV v 10 (.slice (some ⟨g, 0, none⟩) es.length es.length)) = p5 es dn v ++ (intsT .i64 2 (.slice (some ⟨g, 0, none⟩) es.length es.length) (List.replicate es.length 0) :: (pM 13 N dn v ++ (pM 16 N dn v ++ (p18 N dn v ++ L0)))) := by
    unfold lsB p5 pM p18 Mix3.more Mix3.updV
    simp [d, d18]
  have e2 : lsB N es L0 dn v = p5 es dn v ++ (pM 13 N dn v ++ (pM 16 N dn v ++ (p18 N dn v ++ L0))) := by
    unfold lsB pM; simp [d]
  rw [e, e2]
  exact List.perm_middle.symm
theorem BJ.mk13 (h : BJ B1 N c a es w L0 dn v W) (d : dn 13 = false) {W' : World} {g : Nat} (hs : Sep w W' (intsT .i64 2 (.slice (some ⟨g, 0, none⟩) N N) (List.replicate N 0) :: lsB N es L0 dn v)) :
    BJ B1 N c a es w L0 (Mix3.more dn 13) (Mix3.updV v 13 (.slice (some ⟨g, 0, none⟩) N N)) W' := by
  have d18 := h.no18 d (by decide)
  refine ⟨hs.perm ?_, h.facts d _ ⟨_, by rw [Mix3.updV_same]⟩, h.uses (by intro j hj; cases hj), h.u18' (fun e => by cases e)⟩
  have e : lsB N es L0 (Mix3.more dn 13) (Mix3.updV v 13 (.slice (some ⟨g, 0, none⟩) N N)) = p5 es dn v ++ (pM 10 es.length dn v ++ (intsT .i64 2 (.slice (some ⟨g, 0, none⟩) N N) (List.replicate N 0) :: (pM 16 N dn v ++ (p18 N dn v ++ L0)))) := by
    unfold lsB p5 pM p18 Mix3.more Mix3.updV
    simp [d, d18]
  have e2 : lsB N es L0 dn v = p5 es dn v ++ (pM 10 es.length dn v ++ (pM 16 N dn v ++ (p18 N dn v ++ L0))) := by
    unfold lsB pM; simp [d]
  rw [e, e2]
  exact perm_mid2 _ _ _ _
theorem BJ.mk16 (h : BJ B1 N c a es w L0 dn v W) (d : dn 16 = false) {W' : World} {g : Nat} (hs : Sep w W' (intsT .i64 2 (.slice (some ⟨g, 0, none⟩) N N) (List.replicate N 0) :: lsB N es L0 dn v)) :
    BJ B1 N c a es w L0 (Mix3.more dn 16) (Mix3.updV v 16 (.slice (some ⟨g, 0, none⟩) N N)) W' := by
  have d18 := h.no18 d (by decide)
  refine ⟨hs.perm ?_, h.facts d _ ⟨_, by rw [Mix3.updV_same]⟩, h.uses (by intro j hj; cases hj), h.u18' (fun e => by cases e)⟩
  have e : lsB N es L0 (Mix3.more dn 16) (Mix3.updV v 16 (.slice (some ⟨g, 0, none⟩) N N)) = p5 es dn v ++ (pM 10 es.length dn v ++ (pM 13 N dn v ++ (intsT .i64 2 (.slice (some ⟨g, 0, none⟩) N N) (List.replicate N 0) :: (p18 N dn v ++ L0)))) := by
    unfold lsB p5 pM p18 Mix3.more Mix3.updV
    simp [d, d18]
  have e2 : lsB N es L0 dn v = p5 es dn v ++ (pM 10 es.length dn v ++ (pM 13 N dn v ++ (p18 N dn v ++ L0))) := by
    unfold lsB pM; simp [d]
  rw [e, e2]
  exact perm_mid3 _ _ _ _ _
theorem BJ.box (h : BJ B1 N c a es w L0 dn v W) (d : dn 18 = false) (d17 : dn 17 = true) :
    BJ B1 N c a es w L0 (Mix3.more dn 18) (Mix3.updV v 18 (.pointer (some ⟨W.heap.size, 0, none⟩))) (W.alloc (.cells #[.int .i64 N, v 5, v 10, v 13, v 16, .int .i64 0] 66)) := by
  have hs := h.sep.newCells #[.int .i64 N, v 5, v 10, v 13, v 16, .int .i64 0] 66
  refine ⟨hs.perm ?_, h.facts d _ ⟨_, by rw [Mix3.updV_same]⟩, h.uses (by intro j hj; cases hj), h.u18' (fun _ => d17)⟩
  have e : lsB N es L0 (Mix3.more dn 18) (Mix3.updV v 18 (.pointer (some ⟨W.heap.size, 0, none⟩))) = p5 es dn v ++ (pM 10 es.length dn v ++ (pM 13 N dn v ++ (pM 16 N dn v ++ (cellsT W.heap.size #[.int .i64 N, v 5, v 10, v 13, v 16, .int .i64 0] 66 :: L0)))) := by
    unfold lsB p5 pM p18 Mix3.more Mix3.updV
    simp [d, ptrBlk]
  have e2 : lsB N es L0 dn v = p5 es dn v ++ (pM 10 es.length dn v ++ (pM 13 N dn v ++ (pM 16 N dn v ++ L0))) := by
    unfold lsB p18; simp [d]
  rw [e, e2]
  exact perm_mid4 _ _ _ _ _ _
end
end Go.Proofs.Ytlbpkfjebaelpaa
