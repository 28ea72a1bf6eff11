/-
  A region in two stages, each with a class of its own.
-/
import Derived.Test.YtpjbafpbgacnkaaLB
set_option linter.unusedVariables false
set_option linter.unusedSimpArgs false
namespace Go.Mix
open Go
section
variable {P : Program} {ops : Array Oper} {C C2 : World → Prop} {Q : Act → World → Prop}
theorem two_of_wpR2 {kd : Nat → Nat} {Q' : Exit → Act → World → Prop} (hQ : ∀ a w, C2 w → Q a w → Q' .normal a w) (hsel : ∀ (j : Nat) (o : Oper) cs b, ops[j]? = some o → o.op ≠ .select cs b)
    (hfine : ∀ i o, ops[i]? = some o → Fine ops kd i o) (T : List Nat) (n1 : Nat) (hcross : ∀ i ∈ T, ∀ o, ops[i]? = some o → ∀ m, m < n1 → Before ops m o) :
    ∀ (n : Nat) (R : List Nat) (listed : Array Bool) (a : Act) (w : World), (R ++ T).length = n → listed.size = ops.size → (R ++ T).Pairwise (· < ·) → (∀ j ∈ R, j < n1) →
    (∀ j, j < ops.size → (listed.getD j false = false ↔ j ∈ R ++ T)) → (∀ j ∈ R ++ T, j < ops.size) → Closed ops listed → C w → wpR P ops C (fun a w => C2 w ∧ wpR P ops C2 Q (items ops kd T) a w) (items ops kd R) a w → wpAny P .any ops Q' n listed a w := by
  intro n
  induction n with
  | zero =>
    intro R listed a w hR hsz hord _ hun hlt hcl hC h
    have hz : R ++ T = [] := List.eq_nil_of_length_eq_zero hR
    obtain ⟨rfl, rfl⟩ := List.append_eq_nil_iff.1 hz
    exact any_of_wpR hQ hsel hfine 0 [] listed a w rfl hsz hord hun hlt hcl (show C2 w ∧ wpR P ops C2 Q (items ops kd []) a w by simpa [items, wpR] using h).1 (show C2 w ∧ wpR P ops C2 Q (items ops kd []) a w by simpa [items, wpR] using h).2
  | succ n ih =>
    intro R listed a w hR hsz hord hn1 hun hlt hcl hC h
    match R, hR, hord, hn1, hun, hlt, h with
    | [], hR, hord, _, hun, hlt, h => exact any_of_wpR hQ hsel hfine (n + 1) T listed a w hR hsz hord hun hlt hcl (show C2 w ∧ wpR P ops C2 Q (items ops kd T) a w by simpa [items, wpR] using h).1 (show C2 w ∧ wpR P ops C2 Q (items ops kd T) a w by simpa [items, wpR] using h).2
    | r0 :: R', hR, hord, hn1, hun, hlt, h =>
      have hr0 : r0 ∈ (r0 :: R') ++ T := by simp
      have ready0 : r0 ∈ Region.ready .any ops listed := by
        have hb := hlt r0 hr0
        refine mem_ready.2 ⟨?_, ops[r0], by simp [hb], fun e he hbe => ?_⟩
        · have := (hun r0 hb).2 hr0
          have hb' : r0 < listed.size := by omega
          simpa [hb'] using this
        · have hel := (hfine r0 ops[r0] (by simp [hb])).low e he hbe
          cases hq : listed.getD e.on false with
          | true => rfl
          | false =>
            have := (hun e.on (by omega)).1 hq
            rw [List.cons_append] at this hord
            rcases List.mem_cons.1 this with h1 | h1
            · omega
            · have := (List.pairwise_cons.1 hord).1 e.on h1
              omega
      refine ⟨fun h0 => (by rw [h0] at ready0; cases ready0), fun i hi => ?_⟩
      obtain ⟨hl, oi, hoi, hdeps⟩ := mem_ready.1 hi
      have hisz := (Array.getElem?_eq_some_iff.1 hoi).1
      have hl' : listed.getD i false = false := by
        have : i < listed.size := by omega
        simpa [this] using hl
      have hiRT := (hun i hisz).1 hl'
      have hiR : i ∈ r0 :: R' := by
        rcases List.mem_append.1 hiRT with h1 | h1
        · exact h1
        · exfalso
          have hb := hcross i h1 oi hoi r0 (hn1 r0 List.mem_cons_self) listed hcl hdeps
          have := (hun r0 (hlt r0 hr0)).2 hr0
          rw [hb] at this; cases this
      obtain ⟨R1, R2, hRR⟩ := List.append_of_mem hiR
      rw [hRR] at hR hord hn1 hun hlt h
      clear hRR hiR hr0 ready0
      rw [List.append_assoc, List.cons_append] at hord
      have hord' := List.pairwise_append.1 hord
      have hnot : i ∉ R1 ++ (R2 ++ T) := by
        intro hmem
        rcases List.mem_append.1 hmem with h1 | h1
        · have := hord'.2.2 i h1 i List.mem_cons_self; omega
        · have := (List.pairwise_cons.1 hord'.2.1).1 i h1; omega
      have hb := bubble (P := P) (Q := fun a w => C2 w ∧ wpR P ops C2 Q (items ops kd T) a w) hsel hoi R2 R1 a w hC (fun m hm => by
        have hmlt : m < i := hord'.2.2 m hm i List.mem_cons_self
        have hms := hlt m (List.mem_append_left _ (List.mem_append_left _ hm))
        refine ⟨ops[m], by simp [hms], ?_⟩
        rcases (hfine i oi hoi).pair m ops[m] hmlt (by simp [hms]) with hbef | h2
        · have h1 := hbef listed hcl hdeps
          have h2 := (hun m hms).2 (List.mem_append_left _ (List.mem_append_left _ hm))
          rw [h1] at h2; cases h2
        · exact h2) h
      refine wpOp_of_opM hoi hC (fun a' w' hC' hk => ih (R1 ++ R2) _ a' w' ?_ ?_ ?_ ?_ ?_ ?_ ?_ hC' hk) hb
      · simp at hR ⊢; omega
      · simp [hsz]
      · rw [List.append_assoc]; exact List.pairwise_append.2 ⟨hord'.1, (List.pairwise_cons.1 hord'.2.1).2, fun x hx y hy => hord'.2.2 x hx y (List.mem_cons_of_mem _ hy)⟩
      · intro j hj
        refine hn1 j ?_
        rcases List.mem_append.1 hj with h1 | h1
        · exact List.mem_append_left _ h1
        · exact List.mem_append_right _ (List.mem_cons_of_mem _ h1)
      · intro j hj
        by_cases hji : i = j
        · subst hji
          have : i < listed.size := by omega
          simp only [Array.getD_eq_getD_getElem?, Array.getElem?_setIfInBounds_self_of_lt this, Option.getD_some]
          rw [List.append_assoc]
          simpa using hnot
        · rw [getD_set_ne false hji, hun j hj]
          simp only [List.mem_append, List.mem_cons]
          constructor
          · rintro ((h | h | h) | h)
            · exact .inl (.inl h)
            · exact absurd h.symm hji
            · exact .inl (.inr h)
            · exact .inr h
          · rintro ((h | h) | h)
            · exact .inl (.inl h)
            · exact .inl (.inr (.inr h))
            · exact .inr h
      · intro j hj
        refine hlt j ?_
        simp only [List.mem_append, List.mem_cons] at hj ⊢
        rcases hj with (h1 | h1) | h1
        · exact .inl (.inl h1)
        · exact .inl (.inr (.inr h1))
        · exact .inr h1
      · intro j oj hoj hl2 e he hbe
        by_cases hij : i = j
        · subst hij
          have : oj = oi := Option.some.inj (hoj.symm.trans hoi)
          subst this
          exact getD_set_true (hdeps e he hbe)
        · rw [getD_set_ne false hij] at hl2
          exact getD_set_true (hcl j oj hoj hl2 e he hbe)

theorem region3 {id : Nat} {l : List Oper} {Q' : Exit → Act → World → Prop} {a : Act} {w : World} (n1 : Nat) (ks : List Nat) (C C2 : World → Prop) (hm : P.follows .mixedOrders = true) (hB : (okB l ks && crossL l.toArray n1 l 0 [] && Nat.ble n1 l.length) = true)
    (hC : C w.drew) (h : wpR P l.toArray C (fun a w => C2 w ∧ wpR P l.toArray C2 (fun a' w' => Q' .normal a' w') ((l.zip ks).drop n1) a w) ((l.zip ks).take n1) a w.drew) : (Code.region id l.toArray true).wp P Q' a w := by
  simp only [okB, Bool.and_eq_true] at hB
  obtain ⟨⟨⟨⟨hsel, hlen⟩, hok⟩, hcr⟩, hn⟩ := hB
  have hn1 : n1 ≤ l.length := by simpa using hn
  have hlen' : ks.length = l.length := Nat.eq_of_beq_eq_true hlen
  have hz : ∀ i, (l.zip ks)[i]? = (l.toArray[0 + i]?).map fun o => (o, (fun i => ks.getD i 0) (0 + i)) := by
    intro i
    rw [Nat.zero_add]
    rcases Nat.lt_or_ge i l.length with hi | hi
    · have hi' : i < ks.length := by omega
      simp [List.getElem?_zip_eq_some, hi, hi', List.getD]
    · have hi' : ks.length ≤ i := by omega
      have hzl : (l.zip ks).length ≤ i := by simp; omega
      simp [List.getElem?_eq_none hzl, hi]
  have hfine := okL_spec (ops := l.toArray) (kd := fun i => ks.getD i 0) (l.zip ks) 0 [] [] hz rfl (fun m hm => by omega) (fun m _ hm => by omega) hok
  have hfine' : ∀ i o, l.toArray[i]? = some o → Fine l.toArray (fun i => ks.getD i 0) i o := fun i o ho => hfine i o (Nat.zero_le _) ho
  have hcross := crossL_spec (ops := l.toArray) (n1 := n1) l 0 [] (fun i => by simp) (fun m _ hm => by omega) (fun i o ho => (hfine' i o ho).low) hcr
  have e : items l.toArray (fun i => ks.getD i 0) (List.range l.length) = l.zip ks := by
    apply List.ext_getElem?
    intro i
    rw [hz i, Nat.zero_add]
    rcases Nat.lt_or_ge i l.length with hi | hi
    · simp [items, hi, List.getD]
    · simp [items, hi]
  have e1 : items l.toArray (fun i => ks.getD i 0) (List.range n1) = (l.zip ks).take n1 := by
    rw [← e]; unfold items
    rw [← List.map_take]
    congr 1
    rw [List.take_range, Nat.min_eq_left hn1]
  have e2 : items l.toArray (fun i => ks.getD i 0) ((List.range l.length).drop n1) = (l.zip ks).drop n1 := by
    rw [← e]; unfold items
    rw [← List.map_drop]
  have hall : List.range n1 ++ (List.range l.length).drop n1 = List.range l.length := by
    have h3 : List.range n1 = (List.range l.length).take n1 := by rw [List.take_range, Nat.min_eq_left hn1]
    rw [h3]; exact List.take_append_drop _ _
  refine wp_region_any hm ?_
  refine two_of_wpR2 (C := C) (C2 := C2) (Q := fun a' w' => Q' .normal a' w') (kd := fun i => ks.getD i 0) (fun _ _ _ h => h) (Region.noSelect_spec hsel) hfine' ((List.range l.length).drop n1) n1
    (fun i hi o ho m hm => hcross i o (Nat.zero_le _) (by
      obtain ⟨q, hq, rfl⟩ := List.getElem_of_mem hi
      simp at hq ⊢) ho m hm) _ (List.range n1) _ a _ (by rw [hall]; simp) (by simp) (by rw [hall]; exact List.pairwise_lt_range) (fun j hj => List.mem_range.1 hj) ?_ (by rw [hall]; simp) ?_ hC (by rw [e1, e2]; exact h)
  · intro j hj
    rw [hall]
    simp only [List.size_toArray] at hj
    simp [hj]
  · intro j oj _ hl
    exfalso
    rcases Nat.lt_or_ge j l.length with h' | h' <;> simp [h'] at hl
end
end Go.Mix
