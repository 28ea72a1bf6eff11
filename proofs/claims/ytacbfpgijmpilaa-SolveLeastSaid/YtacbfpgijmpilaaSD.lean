/-
  The best flow, as it is found: phases; it is accepted; it is one. Plain lemmas.
-/
import Derived.Test.YtacbfpgijmpilaaSC
set_option linter.unusedVariables false
set_option linter.unusedSimpArgs false
namespace Go.SolveP
open Go Go.Mem Go.NetP Go.RestP Go.CertP Go.PathP

/-- The net of a phase. -/
def capE (k : Nat) (e : Ed) : Ed := ⟨e.f, e.t, e.c / 2 ^ k, e.k⟩
def capL (es : List Ed) (k : Nat) : List Ed := es.map (capE k)
theorem capL_len (es : List Ed) (k : Nat) : (capL es k).length = es.length := by simp [capL]
theorem capL_at {es : List Ed} {k j : Nat} (h : j < es.length) : edAt (capL es k) j = capE k (edAt es j) := by
  unfold edAt capL
  rw [List.getD_eq_getElem?_getD, List.getElem?_map, List.getElem?_eq_getElem h, List.getD_eq_getElem?_getD, List.getElem?_eq_getElem h]
  rfl
theorem capE_zero (e : Ed) : capE 0 e = e := by unfold capE; simp
theorem capL_zero (es : List Ed) : capL es 0 = es := by
  unfold capL
  rw [show capE 0 = id from funext capE_zero, List.map_id]
theorem pow_pos2 (k : Nat) : (0 : Int) < 2 ^ k := Int.pow_pos (by decide)
theorem cap_le {c : Int} (h : 0 ≤ c) (k : Nat) : 0 ≤ c / 2 ^ k ∧ c / 2 ^ k ≤ c := by
  have hp := pow_pos2 k
  refine ⟨Int.ediv_nonneg h (Int.le_of_lt hp), ?_⟩
  refine Int.ediv_le_self _ h
theorem cap_bit {c : Int} (k : Nat) : c / 2 ^ k = 2 * (c / 2 ^ (k + 1)) ∨ c / 2 ^ k = 2 * (c / 2 ^ (k + 1)) + 1 := by
  have : c / 2 ^ (k + 1) = c / 2 ^ k / 2 := by rw [Int.pow_succ, Int.ediv_ediv_of_nonneg (Int.le_of_lt (pow_pos2 k))]
  omega
section
variable {N : Nat} {es : List Ed}
theorem cap_costs (k : Nat) : ∀ es : List Ed, (∀ e ∈ es, 0 ≤ e.c) → costs (capL es k) ≤ costs es
  | [], _ => Nat.le_refl _
  | e :: es, h => by
    have ih := cap_costs k es (fun e he => h e (List.mem_cons_of_mem _ he))
    have h0 := cap_le (h e List.mem_cons_self) k
    unfold costs capL at ih ⊢
    simp only [List.map_cons, List.sum_cons]
    have : costE (capE k e) ≤ costE e := by
      show (e.c / 2 ^ k).toNat * absI e.k ≤ e.c.toNat * absI e.k
      exact Nat.mul_le_mul (by omega) (Nat.le_refl _)
    omega
theorem cap_right (hr : rightB N es = true) (k : Nat) : rightB N (capL es k) = true := by
  obtain ⟨h1, h2, h3, h4, h5⟩ := right_cap hr
  refine right_ok h1 h2 (by rw [capL_len]; exact h3) ?_ (Nat.le_trans (cap_costs k es (fun e he => ((edgeB_iff _ _).1 (h5 e he)).2.2.1)) h4)
  refine List.all_eq_true.2 fun e he => ?_
  obtain ⟨e', he', rfl⟩ := List.mem_map.1 he
  have := (edgeB_iff _ _).1 (h5 e' he')
  have hc := cap_le this.2.2.1 k
  rw [edgeB_iff]
  unfold capE
  dsimp only
  omega
/-- An edge's number in the next phase: doubled, and filled where that gains. -/
def gains (es : List Ed) (pot : List Int) (j : Nat) : Bool := decide (lenA es pot (2 * j) < 0)
def fineX (es : List Ed) (k : Nat) (fl pot : List Int) (j : Nat) : Int :=
  if 2 * g fl j < (edAt es j).c / 2 ^ k ∧ gains es pot j = true then (edAt es j).c / 2 ^ k else 2 * g fl j
def fineF (es : List Ed) (k : Nat) (fl pot : List Int) (i : Nat) : List Int := (List.range fl.length).map fun j => if j < i then fineX es k fl pot j else g fl j
def byF (es : List Ed) (k : Nat) (fl pot : List Int) : List Int := (List.range fl.length).map fun j => fineX es k fl pot j - 2 * g fl j
def fineE (es : List Ed) (k i : Nat) : List Ed := (List.range es.length).map fun j => if j < i then capE k (edAt es j) else capE (k + 1) (edAt es j)
def fineO (N : Nat) (es : List Ed) (k : Nat) (fl pot : List Int) (i : Nat) : List Int := (List.range N).map fun v : Nat => overAt es (byF es k fl pot) v i
def finerS (N : Nat) (es : List Ed) (k : Nat) (S : St) : St :=
  { es := capL es k, fl := fineF es k S.fl S.pot S.fl.length, pot := S.pot, ov := fineO N es k S.fl S.pot S.fl.length, steps := S.steps }
theorem fine_len (es : List Ed) (k : Nat) (fl pot : List Int) (i : Nat) : (fineF es k fl pot i).length = fl.length := by simp [fineF]
theorem fine_at {k : Nat} {fl pot : List Int} {i j : Nat} (h : j < fl.length) : g (fineF es k fl pot i) j = if j < i then fineX es k fl pot j else g fl j := by
  unfold fineF g
  rw [List.getD_eq_getElem?_getD, List.getElem?_map, List.getElem?_range h]; rfl
theorem by_at {k : Nat} {fl pot : List Int} {j : Nat} (h : j < fl.length) : g (byF es k fl pot) j = fineX es k fl pot j - 2 * g fl j := by
  show (byF es k fl pot).getD j 0 = _
  unfold byF
  rw [List.getD_eq_getElem?_getD, List.getElem?_map, List.getElem?_range h]; rfl
theorem by_len (es : List Ed) (k : Nat) (fl pot : List Int) : (byF es k fl pot).length = fl.length := by simp [byF]
theorem fineO_at {k : Nat} {fl pot : List Int} {i v : Nat} (h : v < N) : g (fineO N es k fl pot i) v = overAt es (byF es k fl pot) v i := by
  show (fineO N es k fl pot i).getD v 0 = _
  unfold fineO
  rw [List.getD_eq_getElem?_getD, List.getElem?_map, List.getElem?_range h]; rfl
theorem fineE_end (es : List Ed) (k : Nat) : fineE es k es.length = capL es k := by
  unfold fineE capL
  apply List.ext_getElem
  · simp
  · intro j h1 h2
    have hj : j < es.length := by simpa using h1
    simp [hj, edAt_of hj]
theorem fineE_zero (es : List Ed) (k : Nat) : fineE es k 0 = capL es (k + 1) := by
  unfold fineE capL
  apply List.ext_getElem
  · simp
  · intro j h1 h2
    have hj : j < es.length := by simpa using h1
    simp [edAt_of hj]
theorem overAt_cap (k : Nat) (fl : List Int) (v : Nat) : ∀ m, m ≤ es.length → overAt (capL es k) fl v m = overAt es fl v m
  | 0, _ => by simp [overAt]
  | m + 1, hm => by
    rw [overAt_succ, overAt_succ, overAt_cap k fl v m (by omega), capL_at (by omega)]
    rfl
theorem len_cap (k : Nat) (pot : List Int) {a : Nat} (ha : a / 2 < es.length) : lenA (capL es k) pot a = lenA es pot a ∧ endsE (capL es k) a = endsE es a := by
  have e : endsE (capL es k) a = endsE es a := by
    unfold endsE
    rw [capL_at ha]
    unfold capE
    cases oddB a <;> rfl
  refine ⟨?_, e⟩
  unfold lenA
  rw [e]
/-- Ahead of a phase: what flows is as good as goes, and nothing is over. -/
structure PI (N : Nat) (es : List Ed) (k : Nat) (S : St) : Prop where
  si : SI N S
  es : S.es = capL es k
  zero : ∀ v, v < N → g S.ov v = 0
theorem over_two (es : List Ed) (a b c : List Int) (v : Nat) : ∀ m, (∀ j, j < m → c.getD j 0 = 2 * a.getD j 0 + b.getD j 0) → overAt es c v m = 2 * overAt es a v m + overAt es b v m
  | 0, _ => by simp [overAt]
  | m + 1, h => by
    rw [overAt_succ, overAt_succ, overAt_succ, over_two es a b c v m (fun j hj => h j (by omega)), h m (by omega), gain_add, gain_add]
    have : ∀ (p : Bool) (x : Int), gain p (2 * x) = 2 * gain p x := fun p x => by unfold gain; split <;> omega
    rw [this, this]
    omega
/-- What an edge's number turns to. -/
theorem PI.edge {k : Nat} {S : St} (h : PI N es (k + 1) S) (hr : rightB N es = true) {j : Nat} (hj : j < es.length) :
    0 ≤ g S.fl j ∧ g S.fl j ≤ (edAt es j).c / 2 ^ (k + 1) ∧ (lenA es S.pot (2 * j) < 0 → g S.fl j = (edAt es j).c / 2 ^ (k + 1)) ∧ (0 < lenA es S.pot (2 * j) → g S.fl j = 0) ∧ 0 ≤ (edAt es j).c ∧ (edAt es j).c ≤ 4503599627370496 := by
  obtain ⟨hw, hr', hp, ht⟩ := fits_parts h.si.fits
  rw [h.es] at hw ht
  have hjl : j < (capL es (k + 1)).length := by rw [capL_len]; exact hj
  obtain ⟨w0, w1⟩ := within_at hw hjl
  have e1 : (capL es (k + 1))[j].c = (edAt es j).c / 2 ^ (k + 1) := by
    rw [← edAt_of hjl, capL_at hj]; rfl
  rw [e1] at w1
  obtain ⟨_, _, _, _, h5⟩ := right_cap hr
  have he := (edgeB_iff _ _).1 (h5 _ (List.getElem_mem hj))
  rw [← edAt_of hj] at he
  refine ⟨w0, w1, fun hl => ?_, fun hl => ?_, he.2.2.1, he.2.2.2.1⟩
  · rcases Int.lt_or_le (g S.fl j) ((edAt es j).c / 2 ^ (k + 1)) with q | q
    · exfalso
      have hro : 0 < roomE (capL es (k + 1)) S.fl (2 * j) := by
        rw [room_even, capL_at hj]
        show 0 < (edAt es j).c / 2 ^ (k + 1) - S.fl.getD j 0
        unfold g at q; omega
      have := tight_at ht (by rw [capL_len]; omega) hro
      rw [(len_cap _ _ (by omega)).1] at this
      omega
    · have w1' : g S.fl j ≤ (edAt es j).c / 2 ^ (k + 1) := w1
      omega
  · rcases Int.lt_or_le 0 (g S.fl j) with q | q
    · exfalso
      have hro : 0 < roomE (capL es (k + 1)) S.fl (2 * j + 1) := by
        rw [room_odd]; exact q
      have := tight_at ht (by rw [capL_len]; omega) hro
      rw [(len_cap _ _ (by omega)).1, len_odd] at this
      omega
    · have w0' : 0 ≤ g S.fl j := w0
      omega
theorem PI.fine {k : Nat} {S : St} (h : PI N es (k + 1) S) (hr : rightB N es = true) {j : Nat} (hj : j < es.length) :
    0 ≤ fineX es k S.fl S.pot j ∧ fineX es k S.fl S.pot j ≤ (edAt es j).c / 2 ^ k ∧ (lenA es S.pot (2 * j) < 0 → fineX es k S.fl S.pot j = (edAt es j).c / 2 ^ k) ∧ (0 < lenA es S.pot (2 * j) → fineX es k S.fl S.pot j = 0) ∧ 2 * g S.fl j ≤ fineX es k S.fl S.pot j ∧ fineX es k S.fl S.pot j ≤ 2 * g S.fl j + 1 := by
  obtain ⟨e0, e1, e2, e3, e4, e5⟩ := h.edge hr hj
  have hb := cap_bit (c := (edAt es j).c) k
  have hc := cap_le e4 k
  unfold fineX gains
  by_cases hg : lenA es S.pot (2 * j) < 0
  · have := e2 hg
    by_cases hx : 2 * g S.fl j < (edAt es j).c / 2 ^ k
    · rw [if_pos ⟨hx, decide_eq_true hg⟩]
      exact ⟨hc.1, Int.le_refl _, fun _ => rfl, fun q => by omega, by omega, by omega⟩
    · rw [if_neg (fun q => hx q.1)]
      exact ⟨by omega, by omega, fun _ => by omega, fun q => by omega, by omega, by omega⟩
  · rw [if_neg (fun q => hg (of_decide_eq_true q.2))]
    exact ⟨by omega, by omega, fun q => absurd q hg, fun q => by have := e3 q; omega, by omega, by omega⟩
theorem phi_le (ov : List Int) : ∀ (N : Nat) (M : Nat), True → True := fun _ _ _ => trivial
/-- How much comes to all nodes. -/
theorem phi_by (es : List Ed) (b : List Int) (hb : ∀ j, 0 ≤ b.getD j 0 ∧ b.getD j 0 ≤ 1) (N : Nat) : ∀ m, (∀ j, j < m → (0 ≤ (edAt es j).t ∧ (edAt es j).t < N)) → ∀ ov : List Int, (∀ v, v < N → g ov v = overAt es b v m) → phi ov N ≤ m := by
  intro m hN ov hov
  -- each node's part, in numbers
  have key : ∀ m, (∀ j, j < m → (0 ≤ (edAt es j).t ∧ (edAt es j).t < N)) → sumN (fun v => ((overAt es b v m).toNat : Int)) N ≤ m := by
    intro m
    induction m with
    | zero =>
      intro _
      rw [sumN_congr N (h := fun _ => 0) (fun v _ => by simp [overAt]), sumN_zero]
      omega
    | succ m ih =>
      intro h
      have h1 := ih (fun j hj => h j (by omega))
      obtain ⟨t0, t1⟩ := h m (by omega)
      obtain ⟨t, ht⟩ : ∃ t : Nat, (edAt es m).t = t := ⟨(edAt es m).t.toNat, by omega⟩
      have h2 : sumN (fun v => ((overAt es b v (m + 1)).toNat : Int)) N ≤ sumN (fun v => ((overAt es b v m).toNat : Int) + 1 * gain (decide ((t : Int) = v)) (b.getD m 0)) N := by
        have : ∀ n, sumN (fun v => ((overAt es b v (m + 1)).toNat : Int)) n ≤ sumN (fun v => ((overAt es b v m).toNat : Int) + 1 * gain (decide ((t : Int) = v)) (b.getD m 0)) n := by
          intro n
          induction n with
          | zero => exact Int.le_refl _
          | succ n ihn =>
            simp only [sumN]
            have hs := overAt_succ es b n m
            rw [ht] at hs
            have g1 := gain_bound (decide ((t : Int) = n)) (b.getD m 0) (hb m).1
            have g2 := gain_bound (decide ((edAt es m).f = n)) (b.getD m 0) (hb m).1
            omega
        exact this N
      rw [sumN_add, sumN_one (fun _ => 1), if_pos (by omega)] at h2
      have := (hb m).2
      omega
  have e : ∀ n, n ≤ N → (phi ov n : Int) = sumN (fun v => ((overAt es b v m).toNat : Int)) n := by
    intro n
    induction n with
    | zero => intro _; rfl
    | succ n ih => intro hn; unfold phi; simp only [sumN]; rw [← ih (by omega), ← hov n (by omega)]; omega
  have h1 := key m hN
  have h2 := e N (Nat.le_refl _)
  omega
/-- Behind the doubling: as good as goes, but that there may be over at some nodes. -/
theorem PI.finer {k : Nat} {S : St} (h : PI N es (k + 1) S) (hr : rightB N es = true) : SI N (finerS N es k S) ∧ phi (finerS N es k S).ov N ≤ es.length := by
  obtain ⟨hw, hr', hp, ht⟩ := fits_parts h.si.fits
  have hfl : S.fl.length = es.length := by have := (within_cap hw).1; rw [h.es, capL_len] at this; exact this
  obtain ⟨_, _, _, _, h5⟩ := right_cap hr
  have hcr := cap_right hr k
  have hw' : withinB N (capL es k) (fineF es k S.fl S.pot S.fl.length) = true := by
    refine within_ok (by rw [fine_len, capL_len, hfl]) hcr fun j hj => ?_
    rw [fine_len] at hj
    have hje : j < es.length := by omega
    obtain ⟨f0, f1, _⟩ := h.fine hr hje
    have hjl : j < (capL es k).length := by rw [capL_len]; exact hje
    rw [capB_at hjl]
    have e1 : (capL es k)[j].c = (edAt es j).c / 2 ^ k := by rw [← edAt_of hjl, capL_at hje]; rfl
    have e2 := fine_at (es := es) (k := k) (pot := S.pot) (i := S.fl.length) hj
    rw [if_pos hj] at e2
    unfold g at e2
    rw [e1, e2, Bool.and_eq_true]
    exact ⟨decide_eq_true f0, decide_eq_true f1⟩
  have hte : tightB (capL es k) (fineF es k S.fl S.pot S.fl.length) S.pot = true := by
    unfold tightB
    refine List.all_eq_true.2 fun a ha => ?_
    have ha := List.mem_range.1 ha
    rw [capL_len] at ha
    have hje : a / 2 < es.length := by omega
    obtain ⟨f0, f1, f2, f3, _⟩ := h.fine hr hje
    have e2 := fine_at (es := es) (k := k) (fl := S.fl) (pot := S.pot) (i := S.fl.length) (j := a / 2) (by omega)
    rw [if_pos (by omega)] at e2
    unfold tightS
    rw [(len_cap k S.pot hje).1]
    by_cases h0 : 0 < roomE (capL es k) (fineF es k S.fl S.pot S.fl.length) a
    · have : 0 ≤ lenA es S.pot a := by
        unfold g at e2
        rcases Nat.mod_two_eq_zero_or_one a with q | q
        · obtain ⟨b, rfl⟩ : ∃ b, a = 2 * b := ⟨a / 2, by omega⟩
          rw [show 2 * b / 2 = b by omega] at *
          rw [room_even, capL_at hje, e2] at h0
          rcases Int.lt_or_le (lenA es S.pot (2 * b)) 0 with r | r
          · have := f2 r
            have h0' : 0 < (edAt es b).c / 2 ^ k - fineX es k S.fl S.pot b := h0
            omega
          · exact r
        · obtain ⟨b, rfl⟩ : ∃ b, a = 2 * b + 1 := ⟨a / 2, by omega⟩
          rw [show (2 * b + 1) / 2 = b by omega] at *
          rw [room_odd, e2] at h0
          rw [len_odd]
          rcases Int.lt_or_le 0 (lenA es S.pot (2 * b)) with r | r
          · have := f3 r; omega
          · omega
      rw [decide_eq_false (by omega)]
      rfl
    · rw [decide_eq_false h0, Bool.and_false]
      rfl
  have hby : ∀ j, 0 ≤ (byF es k S.fl S.pot).getD j 0 ∧ (byF es k S.fl S.pot).getD j 0 ≤ 1 := fun j => by
    by_cases hj : j < S.fl.length
    · obtain ⟨_, _, _, _, f4, f5⟩ := h.fine hr (j := j) (by omega)
      have := by_at (es := es) (k := k) (pot := S.pot) hj
      unfold g at this f4 f5
      omega
    · rw [List.getD_eq_getElem?_getD, List.getElem?_eq_none (by rw [by_len]; omega)]
      simp
  have hov : ∀ v, v < N → g (fineO N es k S.fl S.pot S.fl.length) v = exc (capL es k) (fineF es k S.fl S.pot S.fl.length) v := fun v hv => by
    rw [fineO_at hv]
    have hz := h.zero v hv
    rw [h.si.ov v hv] at hz
    unfold exc at hz ⊢
    rw [h.es, overAt_cap _ _ _ _ (by omega)] at hz
    rw [fine_len, overAt_cap _ _ _ _ (by omega), over_two es S.fl (byF es k S.fl S.pot) (fineF es k S.fl S.pot S.fl.length) v S.fl.length (fun j hj => ?_), hz]
    · omega
    · have e1 := fine_at (es := es) (k := k) (pot := S.pot) (i := S.fl.length) hj
      rw [if_pos hj] at e1
      have e2 := by_at (es := es) (k := k) (pot := S.pot) hj
      unfold g at e1 e2
      omega
  refine ⟨⟨?_, h.si.small, by simp [finerS, fineO], hov⟩, ?_⟩
  · show fitsB N (capL es k) (fineF es k S.fl S.pot S.fl.length) S.pot = true
    simp only [fitsB, Bool.and_eq_true]
    exact ⟨⟨hw', hp⟩, hte⟩
  · have := phi_by es (byF es k S.fl S.pot) hby N S.fl.length (fun j hj => by
      have := (edgeB_iff _ _).1 (h5 _ (List.getElem_mem (show j < es.length by omega)))
      rw [← edAt_of (by omega)] at this
      exact this.2.1) (fineO N es k S.fl S.pot S.fl.length) (fun v hv => fineO_at hv)
    show phi (fineO N es k S.fl S.pot S.fl.length) N ≤ _
    omega
/-- Nothing is over, where nowhere is more than nothing. -/
theorem none_over {S : St} (h : SI N S) (hs : srcK S.ov N = []) : ∀ v, v < N → g S.ov v = 0 := by
  have hle := phi_zero S.ov N hs
  obtain ⟨hw, _⟩ := fits_parts h.fits
  have e1 := pot_over (n := N) (es := S.es) (fl := S.fl) (fun _ => 1) S.fl.length (fun j hj => within_ends hw j hj)
  have e2 : potSum S.es S.fl (fun _ => 1) S.fl.length = 0 := by
    have : ∀ m, potSum S.es S.fl (fun _ => 1) m = 0 := by
      intro m
      induction m with
      | zero => rfl
      | succ m ih => simp only [potSum]; rw [ih]; omega
    exact this _
  rw [e2] at e1
  intro v hv
  rcases Int.lt_or_le (g S.ov v) 0 with q | q
  · exfalso
    have := sumN_gt (fun v => -(1 * overAt S.es S.fl v S.fl.length)) N v (fun u hu => by
      have h1 := hle u hu
      have h2 := h.ov u hu
      unfold exc at h2
      omega) hv
    have e3 : sumN (fun v => -(1 * overAt S.es S.fl v S.fl.length)) N = -sumN (fun v => 1 * overAt S.es S.fl v S.fl.length) N := by
      have h0 := sumN_sub (fun _ => 0) (fun v => 1 * overAt S.es S.fl v S.fl.length) N
      rw [sumN_zero] at h0
      have : sumN (fun v => -(1 * overAt S.es S.fl v S.fl.length)) N = sumN (fun v => 0 - 1 * overAt S.es S.fl v S.fl.length) N := sumN_congr N (fun v _ => by omega)
      omega
    have h2 := h.ov v hv
    unfold exc at h2
    omega
  · have := hle v hv; omega
/-- The phases, down to one. -/
def S0 (N : Nat) (es : List Ed) (m : Nat) : St := ⟨capL es m, List.replicate es.length 0, List.replicate N 0, List.replicate N 0, 0⟩
inductive Ph (N : Nat) (es : List Ed) (m : Nat) : Nat → St → Prop
  | start : Ph N es m m (S0 N es m)
  | next {k : Nat} {S S' : St} : Ph N es m (k + 1) S → Fills N (finerS N es k S) S' → Ph N es m k S'
theorem Ph.le {m k : Nat} {S : St} (h : Ph N es m k S) : k ≤ m := by
  induction h with
  | start => exact Nat.le_refl _
  | next _ _ ih => omega
theorem Ph.det {m : Nat} : ∀ {k : Nat} {S : St}, Ph N es m k S → ∀ S', Ph N es m k S' → S = S' := by
  intro k S h
  induction h with
  | start =>
    intro S' h'
    cases h' with
    | start => rfl
    | next h1 _ => have := h1.le; omega
  | @next k S S1 h1 h2 ih =>
    intro S' h'
    cases h' with
    | start => have := h1.le; omega
    | @next _ S2 _ h3 h4 =>
      rw [← ih _ h3] at h4
      exact h2.det _ h4
theorem rep_g (n : Nat) (v : Nat) : g (List.replicate n (0 : Int)) v = 0 := by
  unfold g; rw [List.getD_eq_getElem?_getD, List.getElem?_replicate]; split <;> rfl
theorem Ph.pi {m : Nat} (hr : rightB N es = true) (hm : ∀ e ∈ es, e.c / 2 ^ m = 0) {k : Nat} {S : St} (h : Ph N es m k S) : PI N es k S ∧ S.steps ≤ (m - k) * es.length := by
  obtain ⟨hn1, hn40, _, _, h5⟩ := right_cap hr
  induction h with
  | start =>
    have hcr := cap_right hr m
    have hov : ∀ v n, overAt (capL es m) (List.replicate es.length 0) v n = 0 := by
      intro v n
      induction n with
      | zero => simp [overAt]
      | succ n ih =>
        have := rep_g es.length n
        unfold g at this
        rw [overAt_succ, ih, this]; unfold gain; simp
    have hro : ∀ a, a < 2 * es.length → roomE (capL es m) (List.replicate es.length 0) a = 0 := fun a ha => by
      have hj : a / 2 < es.length := by omega
      have h0 := rep_g es.length (a / 2)
      unfold g at h0
      unfold roomE
      rw [h0, capL_at hj]
      have := hm _ (List.getElem_mem hj)
      rw [← edAt_of hj] at this
      unfold capE
      dsimp only
      rw [this]
      split <;> rfl
    refine ⟨⟨⟨?_, fun v _ => by show -1073741824 ≤ g (List.replicate N 0) v ∧ g (List.replicate N 0) v ≤ 1073741824; rw [rep_g]; omega, by simp [S0], fun v _ => ?_⟩, rfl, fun v _ => rep_g _ _⟩, by simp [S0]⟩
    · show fitsB N (capL es m) (List.replicate es.length 0) (List.replicate N 0) = true
      simp only [fitsB, Bool.and_eq_true]
      refine ⟨⟨within_ok (by rw [List.length_replicate, capL_len]) hcr fun j hj => ?_, ?_⟩, ?_⟩
      · rw [List.length_replicate] at hj
        have hjl : j < (capL es m).length := by rw [capL_len]; exact hj
        have h0 := rep_g es.length j
        unfold g at h0
        rw [capB_at hjl, h0, Bool.and_eq_true]
        have e1 : (capL es m)[j].c = (edAt es j).c / 2 ^ m := by rw [← edAt_of hjl, capL_at hj]; rfl
        have := (edgeB_iff _ _).1 (h5 _ (List.getElem_mem hj))
        rw [← edAt_of hj] at this
        have hc := cap_le this.2.2.1 m
        exact ⟨decide_eq_true (Int.le_refl _), decide_eq_true (by rw [e1]; exact hc.1)⟩
      · simp only [potB, Bool.and_eq_true, decide_eq_true_eq]
        refine ⟨List.all_eq_true.2 fun x hx => ?_, by simp⟩
        have := (List.mem_replicate.1 hx).2
        subst this; rfl
      · unfold tightB
        refine List.all_eq_true.2 fun a ha => ?_
        have ha := List.mem_range.1 ha
        rw [capL_len] at ha
        unfold tightS
        rw [hro a ha]
        simp
    · show g (List.replicate N 0) v = exc (capL es m) (List.replicate es.length 0) v
      rw [rep_g]
      unfold exc
      rw [hov]
  | @next k S S1 h1 h2 ih =>
    obtain ⟨p1, p2⟩ := ih
    obtain ⟨f1, f2⟩ := p1.finer hr
    obtain ⟨q1, q2, q3, q4, q5⟩ := h2.si f1
    refine ⟨⟨q1, q3, none_over q1 q2⟩, ?_⟩
    have hk := h1.le
    have : (m - k) * es.length = (m - (k + 1)) * es.length + es.length := by
      rw [show m - k = (m - (k + 1)) + 1 by omega, Nat.add_mul]; omega
    have e : (finerS N es k S).steps = S.steps := rfl
    omega
/-- **What is found is accepted.** -/
theorem Ph.check {m : Nat} (hr : rightB N es = true) (hm : ∀ e ∈ es, e.c / 2 ^ m = 0) {S : St} (h : Ph N es m 0 S) : checkB N es S.fl S.pot = true ∧ S.steps ≤ m * es.length ∧ S.fl.length = es.length ∧ S.pot.length = N := by
  obtain ⟨p, hs⟩ := h.pi hr hm
  obtain ⟨hw, hr', hp, ht⟩ := fits_parts p.si.fits
  have e := p.es
  rw [capL_zero] at e
  rw [e] at hw ht
  refine ⟨?_, by simpa using hs, (within_cap hw).1, by have := (pot_cap hp).1; omega⟩
  simp only [checkB, Bool.and_eq_true]
  refine ⟨⟨⟨hr, ?_⟩, hp⟩, ht⟩
  simp only [flowsB, Bool.and_eq_true]
  refine ⟨hw, ?_⟩
  unfold overV
  rw [if_pos hw, Int.toNat_natCast]
  refine zero_all fun i hi => ?_
  rw [over_len] at hi
  rw [over_get _ _ hi]
  have := p.zero i hi
  rw [p.si.ov i hi, e] at this
  exact this
end
end Go.SolveP
