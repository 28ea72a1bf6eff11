/-
  Mix4.region, where operations of the second stage write slots that the first stage reads.
-/
import Derived.Test.YtjijhpflkkicaaaLC
set_option linter.unusedVariables false
set_option linter.unusedSimpArgs false
namespace Go.Mix4
open Go Go.Mem Go.Mix Go.Mix3
theorem act_not {l : List Oper} (hd : dstB l = true) {d j : Nat} (hw : who l d = some j) {dn : Nat → Bool} (hj : dn j = false) (v : Nat → Value) {T : Array Value} (D : List Deferred) (hp : d < T.size) : (actD l dn v T D).eval (.tmp d) = T.getD d undef := by
  show (apD l 0 dn v T).getD d undef = _
  rw [Array.getD_eq_getD_getElem?, apD_get l hd 0 _ _ T d hp, hw, Array.getD_eq_getD_getElem?]
  simp [hj]
section
variable {P : Program} {l : List Oper} {m : Nat} {Q : Exit → Act → World → Prop} {T : Array Value} {D : List Deferred}
theorem regionF {id : Nat} {w : World} (kd : List Nat) (J : (Nat → Bool) → (Nat → Value) → World → Prop) (hm : P.follows .mixedOrders = true) (hc : chk4 l m kd = true)
    (hJ : J (fun _ => false) (fun _ => undef) w.drew)
    (hstep : ∀ i o, l[i]? = some o → i < m → ∀ dn v W (ρ : Operand → Value), dn i = false → deps o dn → (∀ k o', l[k]? = some o' → dn k = true → deps o' dn) → J dn v W →
      (∀ d j, who l d = some j → dn j = true → d < T.size → ρ (.tmp d) = v j) → (∀ d, who l d = none → d < T.size → ρ (.tmp d) = T.getD d undef) → (∀ d j, who l d = some j → m ≤ j → d < T.size → ρ (.tmp d) = T.getD d undef) → (∀ c, ρ (.const c) = c) →
      outR P (fun x W' => J (more dn i) (updV v i x) W') ((execOp ρ o).run P W))
    (hfin : ∀ v W, J (fun k => Nat.blt k m) v W → ∃ C : World → Prop, C W ∧ Mix.wpR P l.toArray C (fun a' w' => Q .normal a' w') ((l.zip kd).drop m) (actD l (fun k => Nat.blt k m) v T D) W) :
    (Code.region id l.toArray true).wp P Q { tmps := T, defers := D } w := by
  simp only [chk4, Bool.and_eq_true] at hc
  obtain ⟨⟨⟨⟨⟨⟨hcd, hg⟩, hcr⟩, hml⟩, hsel⟩, hkl⟩, hok⟩ := hc
  have hml : m ≤ l.length := by simpa using hml
  have hkl : kd.length = l.length := Nat.eq_of_beq_eq_true hkl
  have hz : ∀ i, (l.zip kd)[i]? = (l.toArray[0 + i]?).map fun o => (o, (fun i => kd.getD i 0) (0 + i)) := by
    intro i
    rw [Nat.zero_add]
    rcases Nat.lt_or_ge i l.length with hi | hi
    · have hi' : i < kd.length := by omega
      simp [List.getElem?_zip_eq_some, hi, hi', List.getD]
    · have hi' : kd.length ≤ i := by omega
      have hzl : (l.zip kd).length ≤ i := by simp; omega
      simp [List.getElem?_eq_none hzl, hi]
  have hfine0 := okT_spec (ops := l.toArray) (n1 := m) (kd := fun i => kd.getD i 0) (l.zip kd) 0 [] [] hz rfl (fun m hm => by omega) (fun m _ hm => by omega) hok
  have hfine : ∀ i o, l.toArray[i]? = some o → FineT l.toArray (fun i => kd.getD i 0) m i o := fun i o ho => hfine0 i o (Nat.zero_le _) ho
  have hcross := crossL_spec (ops := l.toArray) (n1 := m) l 0 [] (fun i => by simp) (fun m _ hm => by omega) (fun i o ho => (hfine i o ho).low) hcr
  have hgd : ∀ i o, l[i]? = some o → i < m → o.guard = none := fun i o ho hi => by
    have := List.all_eq_true.1 hg i (List.mem_range.2 hi)
    rw [ho] at this
    simpa using this
  have main : ∀ (fuel : Nat) (listed : Array Bool) (v : Nat → Value) (W : World), listed.size = l.length → ((List.range l.length).filter fun j => !listed.getD j false).length = fuel → (∀ j, m ≤ j → listed.getD j false = false) →
      Closed l.toArray listed → J (fun j => listed.getD j false) v W → wpAny P .any l.toArray Q fuel listed (actD l (fun j => listed.getD j false) v T D) W := by
    intro fuel
    induction fuel with
    | zero =>
      intro listed v W hs hf hnt hcl hI
      have hall : ∀ j, j < l.length → listed.getD j false = true := fun j hj => by
        cases hq : listed.getD j false with
        | true => rfl
        | false =>
          exfalso
          have h0 := List.eq_nil_of_length_eq_zero hf
          have : j ∈ (List.range l.length).filter fun j => !listed.getD j false := List.mem_filter.2 ⟨List.mem_range.2 hj, by simp [hq]⟩
          rw [h0] at this; cases this
      have hme : m = l.length := by
        rcases Nat.lt_or_ge m l.length with q | q
        · have := hall m q; rw [hnt m (Nat.le_refl _)] at this; cases this
        · omega
      rw [Mix3.dn_eq (m := m) (fun k hk => hall k (by omega)) hnt] at hI ⊢
      obtain ⟨C, hC, hw⟩ := hfin v W hI
      refine tail4 (C := C) (Q := fun a' w' => Q .normal a' w') (n1 := m) (kd := fun i => kd.getD i 0) (fun _ _ _ h => h) (Region.noSelect_spec hsel) hfine 0 [] listed _ W rfl (by simpa using hs) List.Pairwise.nil (fun j hj => by simp at hj) (fun j hj => ?_) (fun j hj => by simp at hj) hcl hC ?_
      · rw [hall j (by simpa using hj)]; simp
      · rw [List.drop_eq_nil_of_le (by rw [List.length_zip]; omega)] at hw
        exact hw
    | succ fuel ih =>
      intro listed v W hs hf hnt hcl hI
      by_cases hdone : ∀ k, k < m → listed.getD k false = true
      · rw [Mix3.dn_eq (m := m) hdone hnt] at hI ⊢
        obtain ⟨C, hC, hw⟩ := hfin v W hI
        have hfl : ((List.range l.length).filter fun j => !listed.getD j false) = (List.range l.length).drop m := by
          have hsp : List.range l.length = List.range m ++ (List.range l.length).drop m := by
            have h3 : List.range m = (List.range l.length).take m := by rw [List.take_range, Nat.min_eq_left hml]
            rw [h3]; exact (List.take_append_drop _ _).symm
          rw [hsp, List.filter_append]
          have e1 : (List.range m).filter (fun j => !listed.getD j false) = [] := by
            rw [List.filter_eq_nil_iff]
            intro j hj
            rw [hdone j (List.mem_range.1 hj)]; simp
          have e2 : ((List.range l.length).drop m).filter (fun j => !listed.getD j false) = (List.range l.length).drop m := by
            rw [List.filter_eq_self]
            intro j hj
            obtain ⟨q, hq, rfl⟩ := List.getElem_of_mem hj
            rw [hnt _ (by simp)]; rfl
          rw [e1, e2, ← hsp]; rfl
        rw [hfl] at hf
        refine tail4 (C := C) (Q := fun a' w' => Q .normal a' w') (n1 := m) (kd := fun i => kd.getD i 0) (fun _ _ _ h => h) (Region.noSelect_spec hsel) hfine (fuel + 1) ((List.range l.length).drop m) listed _ W hf (by simpa using hs) (List.pairwise_lt_range.sublist (List.drop_sublist _ _)) (fun j hj => ?_) (fun j hj => ?_) (fun j hj => ?_) hcl hC ?_
        · obtain ⟨q, hq, rfl⟩ := List.getElem_of_mem hj
          simp
        · have hj : j < l.length := by simpa using hj
          rw [← hfl]
          simp [hj]
        · have := List.mem_of_mem_drop hj
          simpa using this
        · have e : items l.toArray (fun i => kd.getD i 0) (List.range l.length) = l.zip kd := by
            apply List.ext_getElem?
            intro i
            rw [hz i, Nat.zero_add]
            rcases Nat.lt_or_ge i l.length with hi | hi
            · simp [items, hi, List.getD]
            · simp [items, hi]
          have e2 : items l.toArray (fun i => kd.getD i 0) ((List.range l.length).drop m) = (l.zip kd).drop m := by
            rw [← e]; unfold items
            rw [← List.map_drop]
          rw [e2]; exact hw
      · -- some operation of the first stage is to come
        have hex : ∃ k, k < m ∧ listed.getD k false = false ∧ ∀ j, j < k → listed.getD j false = true := by
          obtain ⟨k0, hk0⟩ := Classical.not_forall.1 hdone
          obtain ⟨hk1, hk2⟩ := Classical.not_imp.1 hk0
          have : ∀ b, ∀ k, k ≤ b → k < m → listed.getD k false ≠ true → ∃ k, k < m ∧ listed.getD k false = false ∧ ∀ j, j < k → listed.getD j false = true := by
            intro b
            induction b with
            | zero => intro k hk hkm hn; exact ⟨k, hkm, by simpa using hn, fun j hj => by omega⟩
            | succ b ihb =>
              intro k hk hkm hn
              by_cases q : ∀ j, j < k → listed.getD j false = true
              · exact ⟨k, hkm, by simpa using hn, q⟩
              · obtain ⟨j, hj⟩ := Classical.not_forall.1 q
                obtain ⟨hj1, hj2⟩ := Classical.not_imp.1 hj
                exact ihb j (by omega) (by omega) hj2
          exact this k0 k0 (Nat.le_refl _) hk1 hk2
        obtain ⟨k, hkm, hkn, hkl'⟩ := hex
        have hkL : k < l.length := by omega
        refine ⟨fun h0 => ?_, fun i hi => ?_⟩
        · exfalso
          have ho : l[k]? = some l[k] := List.getElem?_eq_getElem hkL
          have : k ∈ Region.ready .any l.toArray listed := mem_ready.2 ⟨by
            have hk' : k < listed.size := by omega
            simpa [hk'] using hkn, l[k], by simp [hkL], fun e he hb => hkl' e.on ((hfine k l[k] (by simp [hkL])).low e he hb)⟩
          rw [h0] at this; cases this
        · obtain ⟨h1, o, hoi, hd⟩ := mem_ready.1 hi
          have hlt : i < l.length := by simpa using (Array.getElem?_eq_some_iff.1 hoi).1
          have ho : l[i]? = some o := by simpa using hoi
          have hi' : i < listed.size := by omega
          have hin : listed.getD i false = false := by simpa [hi'] using h1
          have him : i < m := by
            rcases Nat.lt_or_ge i m with q | q
            · exact q
            · have hb := hcross i o (Nat.zero_le _) q hoi k hkm listed hcl hd
              rw [hb] at hkn; cases hkn
          have hst := hstep i o ho him (fun j => listed.getD j false) v W (actD l (fun j => listed.getD j false) v T D).eval hin hd (fun k' o' hk' hd' e he hb => hcl k' o' (by simpa using hk') hd' e he hb) hI
            (fun d j hw hj hp => act_eval hcd hw hj v D hp) (fun d hw hp => act_base hcd hw v D hp) (fun d j hw hj hp => act_not hcd hw (hnt j hj) v D hp) (fun _ => rfl)
          have hmore : (fun j => (listed.setIfInBounds i true).getD j false) = more (fun j => listed.getD j false) i := by
            funext j
            unfold more
            by_cases e : i = j
            · subst e; simp [hi']
            · have : (j == i) = false := by simp; omega
              rw [Array.getD_eq_getD_getElem?, Array.getElem?_setIfInBounds_ne e, ← Array.getD_eq_getD_getElem?, this, Bool.or_false]
          unfold wpOp
          rw [hoi]
          dsimp only
          rw [if_pos (by simp [Region.wanted, hgd i o ho him])]
          refine .inl (wp_of_out (outR_mono (fun x W' hJ' => ?_) hst))
          rw [act_put hcd ho hin, ← hmore]
          refine ih (listed.setIfInBounds i true) (updV v i x) W' (by simp [hs]) ?_ (fun j hj => by
              rw [Array.getD_eq_getD_getElem?, Array.getElem?_setIfInBounds_ne (by omega), ← Array.getD_eq_getD_getElem?]; exact hnt j hj) ?_ (by rw [hmore]; exact hJ')
          · have hmem : i ∈ (List.range l.length).filter fun j => !listed.getD j false := List.mem_filter.2 ⟨List.mem_range.2 hlt, by simp [hin]⟩
            have hnd : ((List.range l.length).filter fun j => !listed.getD j false).Nodup := List.nodup_range.filter _
            have hfe : ((List.range l.length).filter fun j => !(listed.setIfInBounds i true).getD j false) = ((List.range l.length).filter fun j => !listed.getD j false).erase i := by
              rw [hnd.erase_eq_filter, List.filter_filter]
              refine List.filter_congr fun j _ => ?_
              have := congrFun hmore j
              rw [this]
              unfold more
              dsimp only
              generalize listed.getD j false = b
              cases b <;> by_cases e : j = i <;> simp [e, bne]
            rw [hfe, List.length_erase_of_mem hmem, hf]; omega
          · intro j oj hoj hl2 e he hbe
            by_cases hij : i = j
            · subst hij
              have : oj = o := Option.some.inj (hoj.symm.trans hoi)
              subst this
              exact getD_set_true (hd e he hbe)
            · rw [getD_set_ne false hij] at hl2
              exact getD_set_true (hcl j oj hoj hl2 e he hbe)
  refine wp_region_any hm ?_
  have hf0 : ∀ j, (Array.replicate l.toArray.size false).getD j false = false := fun j => by
    rw [Array.getD_eq_getD_getElem?, Array.getElem?_replicate]; split <;> rfl
  have hdn : (fun j => (Array.replicate l.toArray.size false).getD j false) = fun _ => false := funext hf0
  have hact : actD l (fun _ => false) (fun _ => undef) T D = { tmps := T, defers := D } := by
    unfold actD
    congr 1
    apply Array.ext_getElem?
    intro p
    by_cases hp : p < T.size
    · rw [apD_get l hcd 0 _ _ T p hp]
      split <;> simp
    · rw [Array.getElem?_eq_none (by rw [apD_size]; omega), Array.getElem?_eq_none (by omega)]
  have h := main l.toArray.size (Array.replicate l.toArray.size false) (fun _ => undef) { w with drawn := w.drawn + 1 } (by simp) (by
      rw [show ((List.range l.length).filter fun j => !(Array.replicate l.toArray.size false).getD j false) = List.range l.length by
        rw [List.filter_eq_self]; intro j _; rw [hf0]; rfl]
      simp) (fun j _ => hf0 j) (fun j oj _ hl => by rw [hf0] at hl; cases hl) (by rw [hdn]; exact hJ)
  rw [hdn, hact] at h
  exact h
end
end Go.Mix4
