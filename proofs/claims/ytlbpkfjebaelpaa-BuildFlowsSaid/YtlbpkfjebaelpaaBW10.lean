/-
  Package build, walked: Permit.
-/
import Derived.Test.YtlbpkfjebaelpaaBW9
namespace Go.Mem
open Go Go.RowKit
def setAll : List Int → Nat → List Int → List Int
  | zs, _, [] => zs
  | zs, o, x :: t => setAll (zs.set o x) (o + 1) t
theorem setAll_len : ∀ (t zs : List Int) (o : Nat), (setAll zs o t).length = zs.length
  | [], zs, o => rfl
  | x :: t, zs, o => by rw [setAll, setAll_len t, List.length_set]
theorem setAll_at : ∀ (t zs : List Int) (o j : Nat), o + t.length ≤ zs.length → (setAll zs o t)[j]? = if o ≤ j ∧ j < o + t.length then t[j - o]? else zs[j]?
  | [], zs, o, j, _ => by rw [setAll, if_neg (by simp only [List.length_nil]; omega)]
  | x :: t, zs, o, j, h => by
    simp only [List.length_cons] at h
    rw [setAll, setAll_at t _ (o + 1) j (by rw [List.length_set]; omega)]
    by_cases h1 : o + 1 ≤ j ∧ j < o + 1 + t.length
    · rw [if_pos h1, if_pos (by simp only [List.length_cons]; omega), show j - o = (j - (o + 1)) + 1 by omega, List.getElem?_cons_succ]
    · rw [if_neg h1]
      by_cases h2 : o = j
      · subst h2
        rw [if_pos (by simp only [List.length_cons]; omega), Nat.sub_self, List.getElem?_cons_zero, List.getElem?_set_self (by omega)]
      · rw [if_neg (by simp only [List.length_cons]; omega), List.getElem?_set_ne h2]
theorem setAll_zero (zs : List Int) : setAll zs 0 (List.replicate zs.length 0) = List.replicate zs.length 0 := by
  apply List.ext_getElem?
  intro j
  rw [setAll_at _ _ _ _ (by simp)]
  by_cases h : j < zs.length
  · rw [if_pos (by simp [h]), Nat.sub_zero]
  · rw [if_neg (by simp; omega), List.getElem?_eq_none (by omega), List.getElem?_eq_none (by simp; omega)]
section
variable {w0 w : World} {L : List Thing} {k : IntKind} {E : TypeId} {g n cap : Nat}
theorem Sep.setIntsAll : ∀ (t : List Int) (o : Nat) (w : World) (L : List Thing) (i : Nat) (zs : List Int), Sep w0 w L → L[i]? = some (intsT k E (.slice (some ⟨g, 0, none⟩) n cap) zs) →
    Sep w0 (w.setCells g o (t.map (Value.int k))) (L.set i (intsT k E (.slice (some ⟨g, 0, none⟩) n cap) (setAll zs o t)))
  | [], o, w, L, i, zs, h, hi => by
    rw [setAll]
    have : L.set i (intsT k E (.slice (some ⟨g, 0, none⟩) n cap) zs) = L := set_same hi
    rw [this]; exact h
  | x :: t, o, w, L, i, zs, h, hi => by
    have h1 := h.setInts (j := o) i hi x
    have h2 := Sep.setIntsAll t (o + 1) _ _ i (zs.set o x) h1 (by rw [List.getElem?_set_self (List.getElem?_eq_some_iff.1 hi).1])
    rw [List.set_set] at h2
    exact h2
end
/-- 'clear(s)' of a row of numbers of the call's own. -/
theorem wpList_clearInts {P : Program} {w0 w : World} {L : List Thing} {ops : Array Oper} {rest : List Oper} {o : Oper} {a : Act} {Q : Exit → Act → World → Prop} (hgd : o.guard = none) (s : Operand) (t E : TypeId) (k : IntKind)
    (ho : o.op = .call { callee := .builtin .clear, args := #[s], argTypes := #[t] }) (ht : P.underlying t = some (.slice E)) (hz : ∀ w, (zeroValue E).run P w = .ok (.int k 0) w)
    (v : Value) (zs : List Int) (hsep : Sep w0 w L) (j : Nat) (hj : L[j]? = some (intsT k E v zs)) (hs : a.eval s = v)
    (h : ∀ w', Sep w0 w' (L.set j (intsT k E v (List.replicate zs.length 0))) → wpList P ops Q rest (a.put o.dst (.tuple #[])) w') :
    wpList P ops Q (o :: rest) a w := by
  have key : ∃ w', (Builtin.clear_ #[t] o.type #[v]).run P w = .ok (.tuple #[]) w' ∧ Sep w0 w' (L.set j (intsT k E v (List.replicate zs.length 0))) := by
    by_cases h0 : zs.length = 0
    · obtain rfl : zs = [] := List.eq_nil_of_length_eq_zero h0
      obtain ⟨a', c', rfl⟩ := (hsep.rdInts j hj).shape
      refine ⟨w, ?_, by have := hsep; rw [← set_same hj] at this; exact this⟩
      cases a' <;> simp [Builtin.clear_, run_underlying ht]
    · obtain ⟨g, cap, rfl, hg, hc, hf⟩ := (hsep.ints j hj).get 0 (by omega)
      have hr := Go.Lib.run_clear_slice (P := P) w t E o.type (.int k 0) ht hz rfl rfl g 0 zs.length cap (by omega) (fun i hi => by rw [Nat.zero_add, hc i hi]; rfl) (fun i _ => hf _)
      refine ⟨_, hr, ?_⟩
      have := Sep.setIntsAll (List.replicate zs.length 0) 0 w L j zs hsep hj
      rw [setAll_zero, List.map_replicate] at this
      exact this
  obtain ⟨w', hr, hsep'⟩ := key
  refine wpList_plain hgd fun K hK => ?_
  unfold Oper.wp execOp
  simp only [ho, resolve, invoke, builtin, Sem.run_bind, Sem.run_pure, Result.andThen_ok, List.map_toArray, List.map_cons, List.map_nil, hs, hr]
  exact hK _ _ (h w' hsep')
end Go.Mem
namespace Go.BuildP
open Go Go.RowKit Go.Mem Go.MoneyP Go.NetP
/-- Is what is left of a room not permitted? -/
def badX (c : Bool) (x : Int) : Bool := decide (x < 0) || (c && decide (x ≠ 0))
def startL (rooms : List Int) (c : Bool) : List Int := if c then List.replicate rooms.length 0 else rooms
theorem start_len (rooms : List Int) (c : Bool) : (startL rooms c).length = rooms.length := by unfold startL; split <;> simp
def leftQ (rooms : List Int) (c : Bool) (Q : List (Du × Int)) : List Int := Q.foldl stepL (startL rooms c)
theorem leftQ_len (rooms : List Int) (c : Bool) (Q : List (Du × Int)) : (leftQ rooms c Q).length = rooms.length := by unfold leftQ; rw [left_len, start_len]
theorem leftQ_at {rooms : List Int} {c : Bool} {Q : List (Du × Int)} (h : ∀ q ∈ Q, MayD q.1 ∧ q.1.f < rooms.length ∧ q.1.t < rooms.length) (j : Nat) : (leftQ rooms c Q).getD j 0 = (startL rooms c).getD j 0 - (outQ rooms.length Q).getD j 0 := by
  have := left_out Q (startL rooms c) (List.replicate rooms.length 0) (start_len rooms c) (by simp) h j
  have h0 : (List.replicate rooms.length (0 : Int)).getD j 0 = 0 := by
    rw [List.getD_eq_getElem?_getD]
    by_cases hj : j < rooms.length <;> simp [hj]
  rw [h0] at this
  unfold leftQ outQ
  omega
theorem start_at {rooms : List Int} (hm : mays rooms = true) (c : Bool) (j : Nat) : 0 ≤ (startL rooms c).getD j 0 ∧ (startL rooms c).getD j 0 ≤ 4503599627370496 := by
  unfold startL
  cases c
  · simp only [Bool.false_eq_true, if_false]
    by_cases hj : j < rooms.length
    · exact mays_at hm hj
    · rw [List.getD_eq_getElem?_getD, List.getElem?_eq_none (by omega)]; simp
  · simp only [if_true]
    rw [List.getD_eq_getElem?_getD]
    by_cases hj : j < rooms.length <;> simp [hj]
theorem left_step {rooms : List Int} {c : Bool} {O : List Du} {ps : List Int} (hl : O.length = ps.length) {i : Nat} (hi : i < O.length) : leftQ rooms c ((O.zip ps).take (i + 1)) = stepL (leftQ rooms c ((O.zip ps).take i)) (O[i], ps.getD i 0) := by
  obtain ⟨hz, he⟩ := zip_at hl hi
  unfold leftQ
  rw [List.take_succ_eq_append_getElem hz, List.foldl_append, he]
  rfl
theorem left_near {rooms : List Int} (hm : mays rooms = true) {O : List Du} {ps : List Int} (h : RoundQ rooms.length O ps) (c : Bool) (i : Nat) (ha : ((O.zip ps).take i).all payB = true) (j : Nat) : -4503599627370496 ≤ (leftQ rooms c ((O.zip ps).take i)).getD j 0 ∧ (leftQ rooms c ((O.zip ps).take i)).getD j 0 ≤ 9007199254740992 := by
  rw [leftQ_at (fun q hq => h.may q (List.mem_of_mem_take hq))]
  have h1 := out_near h i ha j
  have h2 := start_at hm c j
  omega
def IdxB (zs : List Int) (c : Bool) (k : Int) : Prop := (k = -1 ∧ zs.any (badX c) = false) ∨ (0 ≤ k ∧ zs.any (badX c) = true)
/-- What is left is not permitted just where what goes out does not fit. -/
theorem bad_fit {rooms : List Int} (hm : mays rooms = true) {Q : List (Du × Int)} (h : ∀ q ∈ Q, MayD q.1 ∧ q.1.f < rooms.length ∧ q.1.t < rooms.length) (c : Bool) {j : Nat} (hj : j < rooms.length) : badX c ((leftQ rooms c Q).getD j 0) = !fitI rooms c (outQ rooms.length Q) j := by
  rw [leftQ_at h]
  have h1 := mays_at hm hj
  unfold badX fitI startL
  cases c
  · simp only [Bool.false_eq_true, if_false, Bool.false_and, Bool.or_false, Bool.not_false, Bool.true_or, Bool.and_true]
    rw [Bool.eq_iff_iff]
    simp only [decide_eq_true_eq, Bool.not_eq_true', decide_eq_false_iff_not]
    omega
  · simp only [if_true, Bool.true_and, Bool.not_true, Bool.false_or]
    have h0 : (List.replicate rooms.length (0 : Int)).getD j 0 = 0 := by rw [List.getD_eq_getElem?_getD]; simp [hj]
    rw [h0, Bool.eq_iff_iff]
    simp only [Bool.or_eq_true, decide_eq_true_eq, Bool.not_eq_true', Bool.and_eq_false_iff, decide_eq_false_iff_not]
    omega
theorem permit_bad {rooms : List Int} (hm : mays rooms = true) {Q : List (Du × Int)} (h : ∀ q ∈ Q, MayD q.1 ∧ q.1.f < rooms.length ∧ q.1.t < rooms.length) (c : Bool) (ha : Q.all payB = true) : permitQ rooms Q c = !(leftQ rooms c Q).any (badX c) := by
  by_cases hb : (leftQ rooms c Q).any (badX c) = true
  · rw [hb]
    obtain ⟨x, hx, hbx⟩ := List.any_eq_true.1 hb
    obtain ⟨j, hj, rfl⟩ := List.getElem_of_mem hx
    rw [leftQ_len] at hj
    have e : (leftQ rooms c Q)[j]'(by rw [leftQ_len]; exact hj) = (leftQ rooms c Q).getD j 0 := by simp [leftQ_len, hj]
    rw [e, bad_fit hm h c hj] at hbx
    exact fit_stop hj (by simpa using hbx)
  · have hb' : (leftQ rooms c Q).any (badX c) = false := by simpa using hb
    rw [hb']
    refine fit_all ha fun j hj => ?_
    have := List.any_eq_false.1 hb' ((leftQ rooms c Q).getD j 0) (by rw [List.getD_eq_getElem?_getD, List.getElem?_eq_getElem (by rw [leftQ_len]; exact hj)]; exact List.getElem_mem _)
    rw [bad_fit hm h c hj] at this
    simpa using this
end Go.BuildP
namespace Go.Proofs.Ytlbpkfjebaelpaa
open Go Go.RowKit Go.Mem Go.MoneyP Go.NetP Go.BuildP Go.Shelf
theorem ent_bad : Enters Try.prog 28 := enters_of Try.func28 (by kernel_rfl) rfl
set_option maxHeartbeats 1000000 in
theorem bad_any (x : Int) (c : Bool) (B : Nat) (w : World) (hB : w.cell? ⟨B, 0, none⟩ = some (.bool c)) : Calls Try.prog 28 #[.int .i64 x, .pointer (some ⟨B, 0, none⟩)] w fun en w' => en = .returned (.bool (badX c x)) ∧ w' = w := by
  by_cases h0 : x < 0
  · have HE := Lib.hid (show badX c x = true by simp [badX, h0])
    have e1 : decide (x < 0) = true := decide_eq_true h0
    clear h0
    go_enter Try.func28, Try.ntmps28
    go_wp2_with fail
    go_ret
    exact ⟨by rw [HE.out]; rfl, rfl⟩
  have e1 : decide (x < 0) = false := decide_eq_false h0
  cases c
  · have HE := Lib.hid (show badX false x = false by simp [badX]; omega)
    clear h0
    go_enter Try.func28, Try.ntmps28
    go_wp2_with fail
    go_ret
    exact ⟨by rw [HE.out]; rfl, rfl⟩
  · by_cases hx : x = 0
    · have HE := Lib.hid (show badX true x = false by simp [badX, hx])
      have e2 : (x != 0) = false := by simpa using hx
      clear h0 hx
      go_enter Try.func28, Try.ntmps28
      go_wp2_with fail
      go_ret
      exact ⟨by rw [HE.out]; rfl, rfl⟩
    · have HE := Lib.hid (show badX true x = true by simp [badX, hx])
      have e2 : (x != 0) = true := by simpa using hx
      clear h0 hx
      go_enter Try.func28, Try.ntmps28
      go_wp2_with fail
      go_ret
      exact ⟨by rw [HE.out]; rfl, rfl⟩
set_option maxHeartbeats 2000000 in
theorem indexI_any (zs : List Int) (c : Bool) (B : Nat) (v : Value) (w : World) (h : Rd .i64 w v zs) (hB : w.cell? ⟨B, 0, none⟩ = some (.bool c)) :
    Calls Try.prog 46 #[v, .func (.func 28) #[] #[.pointer (some ⟨B, 0, none⟩)]] w fun en w' => ∃ k : Int, en = .returned (.int .i64 k) ∧ IdxB zs c k ∧ w' = w := by
  obtain ⟨a, cap, rfl⟩ := h.shape
  have hle := h.le'
  have hen := fun W args => ent_bad W args
  go_enter Try.func46, Try.ntmps46
  go_wp2_with fail
  refine wp_loopM [none, none, none, none, some 4, some 5, none, none, some 8, some 9, some 10, some 11, some 12, some 13, some 14, some 15, some 16, some 17, some 18] (fun (r : Nat) (f : Nat → Value) (wr : World) => (fun (v : Value) => ∃ i : Nat, v = .int .i64 i ∧ i ≤ zs.length ∧ r = zs.length - i ∧ Hid (∀ x ∈ zs.take i, badX c x = false) ∧ wr = w) (f 8)) (zs.length) (by kernel_rfl) ?atStart1 ?round1
  case' atStart1 => (try dsimp only [nthV])
  case' round1 =>
    intro gk f wr l hl hrel J1 K1 hJ1 hK1
    (try simp only [mask] at hl)
    generalize f 8 = u8 at hl hrel
    subst hl
    (try dsimp only at hrel)
  case atStart1 => exact ⟨0, rfl, Nat.zero_le _, rfl, Lib.hid (by simp), rfl⟩
  case round1 =>
    obtain ⟨i, rfl, hi, rfl, HA, rfl⟩ := hrel
    by_cases hlt : i < zs.length
    · obtain ⟨b1, o1, e1, hb1, hc1⟩ := h.at i hlt
      subst e1
      obtain ⟨x, hx⟩ : ∃ x, x = zs.getD i 0 := ⟨_, rfl⟩
      rw [← hx] at hc1
      have HX := Lib.hid hx
      clear hx
      have HE := Lib.hid (bad_any x c B _ hB)
      cases hb : badX c x
      · rw [hb] at HE
        have HA2 := Lib.hid (show ∀ y ∈ zs.take (i + 1), badX c y = false by
          rw [take_snoc hlt]
          intro y hy
          rcases List.mem_append.1 hy with q | q
          · exact HA.out y q
          · rw [List.mem_singleton.1 q, ← HX.out]; exact hb)
        clear hb
        go_wp2_with fail
        refine (HE.out).mono ?_
        rintro en w2 ⟨rfl, rfl⟩
        go_wp2_with fail
        refine Round.intro (zs.length - (i + 1)) ?measure2 (by kernel_rfl) (hJ1 _ _ _ ?rel2)
        case' rel2 => (try dsimp only [nthV])
        case measure2 => omega
        case rel2 => exact ⟨i + 1, by go_num, hlt, rfl, HA2, rfl⟩
      · rw [hb] at HE
        have HT := Lib.hid (show zs.any (badX c) = true from List.any_eq_true.2 ⟨x, by rw [HX.out]; exact getD_mem hlt, hb⟩)
        clear hb
        go_wp2_with fail
        refine (HE.out).mono ?_
        rintro en w2 ⟨rfl, rfl⟩
        go_wp2_with fail
        go_ret
        exact ⟨i, rfl, .inr ⟨by omega, HT.out⟩, rfl⟩
    · obtain rfl : i = zs.length := by omega
      have HT := Lib.hid (show zs.any (badX c) = false from List.any_eq_false.2 fun x hx => by have := HA.out x (by rw [List.take_length]; exact hx); simp [this])
      go_wp2_with fail
      go_ret
      exact ⟨-1, rfl, .inl ⟨rfl, HT.out⟩, rfl⟩
set_option maxHeartbeats 1000000 in
theorem contains_any (zs : List Int) (c : Bool) (B : Nat) (v : Value) (w : World) (h : Rd .i64 w v zs) (hB : w.cell? ⟨B, 0, none⟩ = some (.bool c)) :
    Calls Try.prog 27 #[v, .func (.func 28) #[] #[.pointer (some ⟨B, 0, none⟩)]] w fun en w' => en = .returned (.bool (zs.any (badX c))) ∧ w' = w := by
  go_enter Try.func27, Try.ntmps27
  go_wp2_with fail
  refine (indexI_any zs c B v _ h hB).mono ?_
  rintro en w1 ⟨k, rfl, HK, rfl⟩
  rcases HK with ⟨rfl, hk⟩ | ⟨hk0, hk⟩
  · have HE := Lib.hid hk
    clear hk
    go_wp2_with fail
    go_ret
    exact ⟨by rw [HE.out]; rfl, rfl⟩
  · have HE := Lib.hid hk
    have e1 : decide (0 ≤ k) = true := decide_eq_true hk0
    clear hk
    go_wp2_with fail
    go_ret
    exact ⟨by rw [HE.out]; rfl, rfl⟩
end Go.Proofs.Ytlbpkfjebaelpaa
