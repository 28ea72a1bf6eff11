/-
  Package heap: plain, walked, as a thing in memory.
-/
import Derived.Test.YtjijhpflkkicaaaRows
import Derived.Test.YtjijhpflkkicaaaLB
import Derived.Test.YtjijhpflkkicaaaLA
import Derived.WalkSpells
import Derived.WalkLawsBesides
import Derived.Deep.LoopGhost
import Derived.Deep.DeepCutAuto
set_option linter.unusedVariables false
set_option linter.unusedSimpArgs false
namespace Go.HeapP

abbrev T := Int × Int
/-- Does x come ahead of y? -/
def ltB (x y : T) : Bool := decide (x.1 < y.1) || (decide (x.1 = y.1) && decide (x.2 < y.2))
theorem ltB_iff (x y : T) : ltB x y = true ↔ (x.1 < y.1 ∨ (x.1 = y.1 ∧ x.2 < y.2)) := by simp [ltB]
theorem ltB_not (x y : T) : ltB x y = false ↔ (y.1 < x.1 ∨ (y.1 = x.1 ∧ y.2 ≤ x.2)) := by
  rw [← Bool.not_eq_true, ltB_iff]; omega
def le (x y : T) : Prop := ltB y x = false
instance (x y : T) : Decidable (le x y) := inferInstanceAs (Decidable (ltB y x = false))
theorem le_iff (x y : T) : le x y ↔ (x.1 < y.1 ∨ (x.1 = y.1 ∧ x.2 ≤ y.2)) := ltB_not y x
theorem le_refl (x : T) : le x x := (le_iff x x).2 (by omega)
theorem le_trans {x y z : T} (h : le x y) (h' : le y z) : le x z := by rw [le_iff] at *; omega
theorem le_of_lt {x y : T} (h : ltB x y = true) : le x y := by rw [le_iff]; rw [ltB_iff] at h; omega
theorem le_antisymm {x y : T} (h : le x y) (h' : le y x) : x = y := by
  rw [le_iff] at *
  exact Prod.ext (by omega) (by omega)
/-- The thing at a place. -/
def nth (xs : List T) (j : Nat) : T := xs.getD j (0, 0)
def sw (xs : List T) (i j : Nat) : List T := (xs.set i (nth xs j)).set j (nth xs i)
theorem sw_length (xs : List T) (i j : Nat) : (sw xs i j).length = xs.length := by simp [sw]
theorem sw_perm {xs : List T} {i j : Nat} (hi : i < xs.length) (hj : j < xs.length) : (sw xs i j).Perm xs := by
  have := @List.set_set_perm _ xs _ _ hi hj
  simpa [sw, nth, hi, hj] using this
theorem nth_set (xs : List T) (i j : Nat) (x : T) (hi : i < xs.length) : nth (xs.set i x) j = if i = j then x else nth xs j := by
  unfold nth
  simp only [List.getD_eq_getElem?_getD, List.getElem?_set]
  split
  · rename_i h; subst h; rfl
  · rfl
theorem nth_sw {xs : List T} {i j : Nat} (hi : i < xs.length) (hj : j < xs.length) (m : Nat) : nth (sw xs i j) m = if j = m then nth xs i else if i = m then nth xs j else nth xs m := by
  unfold sw
  rw [nth_set _ _ _ _ (by simpa using hj), nth_set _ _ _ _ hi]

def IsH (xs : List T) : Prop := ∀ j, 0 < j → j < xs.length → le (nth xs ((j - 1) / 2)) (nth xs j)
/-- A heap but for the thing at k, which may belong further up. -/
structure UpI (k : Nat) (xs : List T) : Prop where
  but : ∀ j, 0 < j → j < xs.length → j ≠ k → le (nth xs ((j - 1) / 2)) (nth xs j)
  over : ∀ j, 0 < j → j < xs.length → (j - 1) / 2 = k → 0 < k → le (nth xs ((k - 1) / 2)) (nth xs j)
/-- A heap but for the thing at k, which may belong further down. -/
structure DownI (k : Nat) (xs : List T) : Prop where
  but : ∀ j, 0 < j → j < xs.length → (j - 1) / 2 ≠ k → le (nth xs ((j - 1) / 2)) (nth xs j)
  over : ∀ j, 0 < j → j < xs.length → (j - 1) / 2 = k → 0 < k → le (nth xs ((k - 1) / 2)) (nth xs j)

theorem up_step {k : Nat} {xs : List T} (h : UpI k xs) (h0 : 0 < k) (hk : k < xs.length) (hlt : ltB (nth xs k) (nth xs ((k - 1) / 2)) = true) : UpI ((k - 1) / 2) (sw xs k ((k - 1) / 2)) := by
  have ho : (k - 1) / 2 < xs.length := by omega
  have hle := le_of_lt hlt
  refine ⟨fun j hj hjl hne => ?_, fun j hj hjl hpar hpos => ?_⟩
  · rw [sw_length] at hjl
    rw [nth_sw hk ho, nth_sw hk ho]
    by_cases hjk : j = k
    · subst hjk
      rw [if_pos rfl, if_neg (by omega), if_pos rfl]
      exact hle
    · rw [if_neg (by omega : ¬ (k - 1) / 2 = j), if_neg (by omega : ¬ k = j)]
      by_cases hp : (j - 1) / 2 = (k - 1) / 2
      · rw [if_pos hp.symm]
        have := h.but j hj hjl hjk
        rw [hp] at this
        exact le_trans hle this
      · rw [if_neg (fun e => hp e.symm)]
        by_cases hpk : (j - 1) / 2 = k
        · rw [if_pos hpk.symm]
          exact h.over j hj hjl hpk h0
        · rw [if_neg (fun e => hpk e.symm)]
          exact h.but j hj hjl hjk
  · rw [sw_length] at hjl
    rw [nth_sw hk ho, nth_sw hk ho]
    have e1 : ¬ (k - 1) / 2 = ((k - 1) / 2 - 1) / 2 := by omega
    have e2 : ¬ k = ((k - 1) / 2 - 1) / 2 := by omega
    rw [if_neg e1, if_neg e2]
    have hpp := h.but ((k - 1) / 2) hpos ho (by omega)
    by_cases hjk : j = k
    · subst hjk
      rw [if_neg (by omega), if_pos rfl]
      exact hpp
    · rw [if_neg (by omega : ¬ (k - 1) / 2 = j), if_neg (by omega : ¬ k = j)]
      have := h.but j hj hjl hjk
      rw [hpar] at this
      exact le_trans hpp this

theorem up_done0 {xs : List T} (h : UpI 0 xs) : IsH xs := fun j hj hl => h.but j hj hl (by omega)
theorem up_done {k : Nat} {xs : List T} (h : UpI k xs) (hlt : ltB (nth xs k) (nth xs ((k - 1) / 2)) = false) : IsH xs := fun j hj hl => by
  by_cases hjk : j = k
  · subst hjk; exact hlt
  · exact h.but j hj hl hjk
theorem nth_append {xs : List T} {x : T} {j : Nat} (h : j < xs.length) : nth (xs ++ [x]) j = nth xs j := by
  unfold nth; simp [List.getElem?_append_left h]
theorem up_start {xs : List T} (h : IsH xs) (x : T) : UpI xs.length (xs ++ [x]) := by
  refine ⟨fun j hj hl hne => ?_, fun j hj hl hp h0 => ?_⟩
  · simp at hl
    rw [nth_append (by omega), nth_append (by omega)]
    exact h j hj (by omega)
  · simp at hl; omega

theorem down_step {k b : Nat} {xs : List T} (h : DownI k xs) (hk : k < xs.length) (hb : b < xs.length) (hpb : (b - 1) / 2 = k) (hb0 : 0 < b)
    (hmin : ∀ j, 0 < j → j < xs.length → (j - 1) / 2 = k → le (nth xs b) (nth xs j)) (hlt : ltB (nth xs b) (nth xs k) = true) : DownI b (sw xs k b) := by
  have hle := le_of_lt hlt
  refine ⟨fun j hj hjl hne => ?_, fun j hj hjl hpar hpos => ?_⟩
  · rw [sw_length] at hjl
    rw [nth_sw hk hb, nth_sw hk hb, if_neg (fun e => hne e.symm)]
    by_cases hpk : (j - 1) / 2 = k
    · rw [if_pos hpk.symm]
      by_cases hjb : j = b
      · subst hjb; rw [if_pos rfl]; exact hle
      · rw [if_neg (fun e => hjb e.symm), if_neg (by omega)]
        exact hmin j hj hjl hpk
    · rw [if_neg (fun e => hpk e.symm)]
      by_cases hjb : b = j
      · subst hjb; exact absurd hpb hpk
      · rw [if_neg hjb]
        by_cases hjk : k = j
        · rw [if_pos hjk]
          subst hjk
          exact h.over b hb0 hb hpb hj
        · rw [if_neg hjk]
          exact h.but j hj hjl hpk
  · rw [sw_length] at hjl
    rw [nth_sw hk hb, nth_sw hk hb]
    have e1 : ¬ b = (b - 1) / 2 := by omega
    rw [if_neg e1, if_pos hpb.symm, if_neg (by omega : ¬ b = j), if_neg (by omega : ¬ k = j)]
    have := h.but j hj hjl (by omega)
    rw [hpar] at this
    exact this

theorem down_done {k : Nat} {xs : List T} (h : DownI k xs) (hmin : ∀ j, 0 < j → j < xs.length → (j - 1) / 2 = k → le (nth xs k) (nth xs j)) : IsH xs := fun j hj hl => by
  by_cases hp : (j - 1) / 2 = k
  · rw [hp]; exact hmin j hj hl hp
  · exact h.but j hj hl hp

/-- The last one laid into the first place, and the last place given up. -/
def popped (xs : List T) : List T := (xs.set 0 (nth xs (xs.length - 1))).take (xs.length - 1)
theorem popped_length (xs : List T) : (popped xs).length = xs.length - 1 := by simp [popped]
theorem nth_popped {xs : List T} {j : Nat} (hj : j < xs.length - 1) : nth (popped xs) j = if 0 = j then nth xs (xs.length - 1) else nth xs j := by
  have h0 : 0 < xs.length := by omega
  have e : nth (popped xs) j = nth (xs.set 0 (nth xs (xs.length - 1))) j := by
    unfold nth popped
    rw [List.getD_eq_getElem?_getD, List.getElem?_take, if_pos hj, List.getD_eq_getElem?_getD]
    rfl
  rw [e, nth_set _ _ _ _ h0]
theorem down_start {xs : List T} (h : IsH xs) : DownI 0 (popped xs) := by
  refine ⟨fun j hj hl hne => ?_, fun j _ _ _ h0 => absurd h0 (Nat.lt_irrefl 0)⟩
  rw [popped_length] at hl
  rw [nth_popped (by omega), nth_popped hl, if_neg (fun e => hne e.symm), if_neg (by omega)]
  exact h j hj (by omega)
theorem popped_perm {xs : List T} (h : 0 < xs.length) : (nth xs 0 :: popped xs).Perm xs := by
  match xs, h with
  | x :: r, _ =>
    rcases List.eq_nil_or_concat r with rfl | ⟨r', l, rfl⟩
    · simp [popped, nth]
    · have e : popped (x :: (r' ++ [l])) = l :: r' := by
        simp [popped, nth]
      rw [show r'.concat l = r' ++ [l] by simp] at *
      rw [e]
      simp only [nth, List.getD_cons_zero]
      refine List.Perm.cons x ?_
      exact (List.perm_append_singleton l r').symm

theorem least {xs : List T} (h : IsH xs) : ∀ j, j < xs.length → le (nth xs 0) (nth xs j) := by
  intro j
  induction j using Nat.strongRecOn with
  | _ j ih =>
    intro hj
    by_cases h0 : j = 0
    · subst h0; exact le_refl _
    · exact le_trans (ih ((j - 1) / 2) (by omega) (by omega)) (h j (by omega) hj)
theorem least_mem {xs : List T} (h : IsH xs) (x : T) (hx : x ∈ xs) : le (nth xs 0) x := by
  obtain ⟨j, hj, rfl⟩ := List.getElem_of_mem hx
  have := least h j hj
  simpa [nth, hj] using this
theorem isH_nil : IsH [] := fun j _ h => by simp at h
end Go.HeapP
namespace Go.Proofs.Ytjijhpflkkicaaa
open Go Go.RowKit Go.Mem Go.HeapP

theorem ret_bool {a b : Bool} (h : a = b) : Ending.returned (.bool a) = .returned (.bool b) := by rw [h]

set_option maxHeartbeats 400000 in
theorem ahead_any (k1 i1 k2 i2 : Int) (w : World) :
    Calls Try.prog 99 #[.agg #[.int .i64 k1, .int .i64 i1], .agg #[.int .i64 k2, .int .i64 i2]] w fun e w' => e = .returned (.bool (ltB (k1, i1) (k2, i2))) ∧ Below w.heap.size w w' := by
  by_cases h1 : k1 < k2
  · have e : Hid (true = ltB (k1, i1) (k2, i2)) := (by simp [ltB, h1] : true = ltB (k1, i1) (k2, i2))
    go_enter Try.func99, Try.ntmps99
    go_wp2
    go_ret
    exact ⟨ret_bool e.out, ((Below.refl _ _).alloc (Nat.le_refl _) _).alloc (by simp) _⟩
  · by_cases h2 : k1 = k2
    · subst h2
      by_cases h3 : i1 < i2
      · have e : Hid (true = ltB (k1, i1) (k1, i2)) := (by simp [ltB, h3] : true = ltB (k1, i1) (k1, i2))
        go_enter Try.func99, Try.ntmps99
        go_wp2
        go_ret
        exact ⟨ret_bool e.out, ((Below.refl _ _).alloc (Nat.le_refl _) _).alloc (by simp) _⟩
      · have e : Hid (false = ltB (k1, i1) (k1, i2)) := (by simp [ltB, h3] : false = ltB (k1, i1) (k1, i2))
        go_enter Try.func99, Try.ntmps99
        go_wp2
        go_ret
        exact ⟨ret_bool e.out, ((Below.refl _ _).alloc (Nat.le_refl _) _).alloc (by simp) _⟩
    · have e : Hid (false = ltB (k1, i1) (k2, i2)) := (by simp [ltB, h1, h2] : false = ltB (k1, i1) (k2, i2))
      have h2' : (k1 == k2) = false := by simpa using h2
      clear h2
      go_enter Try.func99, Try.ntmps99
      go_wp2
      go_ret
      exact ⟨ret_bool e.out, ((Below.refl _ _).alloc (Nat.le_refl _) _).alloc (by simp) _⟩

def flat (ys : List T) : List Value := ys.flatMap fun p => [.int .i64 p.1, .int .i64 p.2]
theorem flat_cons (p : T) (ys : List T) : flat (p :: ys) = .int .i64 p.1 :: .int .i64 p.2 :: flat ys := rfl
theorem flat_length (ys : List T) : (flat ys).length = ys.length * 2 := by
  induction ys with
  | nil => rfl
  | cons p ys ih => rw [flat_cons]; simp only [List.length_cons, ih]; omega
theorem flat_get : ∀ (ys : List T) (k : Nat), k < ys.length → (flat ys)[k * 2]? = some (.int .i64 (nth ys k).1) ∧ (flat ys)[k * 2 + 1]? = some (.int .i64 (nth ys k).2)
  | [], k, h => by simp at h
  | p :: ys, 0, _ => ⟨rfl, rfl⟩
  | p :: ys, k + 1, h => by
    have := flat_get ys k (by simpa using h)
    rw [flat_cons, show (k + 1) * 2 = k * 2 + 1 + 1 by omega]
    exact this
theorem flat_set : ∀ (ys : List T) (k : Nat) (x : T), ((flat ys).set (k * 2) (.int .i64 x.1)).set (k * 2 + 1) (.int .i64 x.2) = flat (ys.set k x)
  | [], k, x => by simp [flat]
  | p :: ys, 0, x => rfl
  | p :: ys, k + 1, x => by
    have := flat_set ys k x
    rw [flat_cons, List.set_cons_succ, flat_cons, ← this, show (k + 1) * 2 = (k * 2 + 1) + 1 by omega, List.set_cons_succ, List.set_cons_succ, List.set_cons_succ, List.set_cons_succ]
theorem flat_append (ys : List T) (x : T) : flat ys ++ [.int .i64 x.1, .int .i64 x.2] = flat (ys ++ [x]) := by simp [flat]

/-- The array of a heap: block g holds ys. -/
def Arr (w : World) (g cap : Nat) (ys : List T) : Prop := w.ownsRow 0 151 2 (.slice (some ⟨g, 0, none⟩) ys.length cap) ys.length (flat ys)
theorem Arr.key {w : World} {g cap : Nat} {ys : List T} (h : Arr w g cap ys) (k : Nat) (hk : k < ys.length) : w.cell? ⟨g, k * 2, none⟩ = some (.int .i64 (nth ys k).1) :=
  (World.ownsRow.cellAt h (k * 2) (by omega)).trans (flat_get ys k hk).1
theorem Arr.item {w : World} {g cap : Nat} {ys : List T} (h : Arr w g cap ys) (k : Nat) (hk : k < ys.length) : w.cell? ⟨g, k * 2 + 1, none⟩ = some (.int .i64 (nth ys k).2) :=
  (World.ownsRow.cellAt h (k * 2 + 1) (by omega)).trans (flat_get ys k hk).2
theorem Arr.lt {w : World} {g cap : Nat} {ys : List T} (h : Arr w g cap ys) : g < w.heap.size := (World.ownsRow.lt h g rfl).2
theorem Arr.free {w : World} {g cap : Nat} {ys : List T} (h : Arr w g cap ys) (j : Nat) : w.frozen? ⟨g, j, none⟩ = false := World.ownsRow.frozenAt h j
theorem Arr.put {w : World} {g cap : Nat} {ys : List T} (h : Arr w g cap ys) (k : Nat) (x : T) : Arr ((w.setCell ⟨g, k * 2, none⟩ (.int .i64 x.1)).setCell ⟨g, k * 2 + 1, none⟩ (.int .i64 x.2)) g cap (ys.set k x) := by
  have h1 := (World.ownsRow.stored (World.ownsRow.stored h (k * 2) (.int .i64 x.1)).1 (k * 2 + 1) (.int .i64 x.2)).1
  unfold Arr
  rw [List.length_set, ← flat_set]
  exact h1
theorem Arr.le {w : World} {g cap : Nat} {ys : List T} (h : Arr w g cap ys) : ys.length ≤ cap := by
  rcases h.2 with ⟨h', _⟩ | ⟨g', cap', cur, h', hb, hg, hnc, _⟩
  · simp at h'
  · simp only [Value.slice.injEq, Option.some.injEq, Addr.mk.injEq, and_true, true_and] at h'
    obtain ⟨rfl, rfl⟩ := h'
    exact hnc
theorem Arr.frame {S : Nat → Prop} {w w' : World} {g cap : Nat} {ys : List T} (h : Arr w g cap ys) (hf : Fr S w w') (hS : ¬ S g) : Arr w' g cap ys :=
  owns_frame h hf (fun k hk => by simp [Value.ownBlock] at hk; subst hk; exact hS)

theorem flat_take : ∀ (ys : List T) (m : Nat), (flat ys).take (m * 2) = flat (ys.take m)
  | [], m => by simp [flat]
  | p :: ys, 0 => rfl
  | p :: ys, m + 1 => by
    rw [flat_cons, show (m + 1) * 2 = (m * 2 + 1) + 1 by omega, List.take_succ_cons, List.take_succ_cons, flat_take ys m, List.take_succ_cons, flat_cons]
theorem Arr.shrink {w : World} {g cap : Nat} {ys : List T} (h : Arr w g cap ys) (m : Nat) (hm : m ≤ ys.length) : Arr w g cap (ys.take m) := by
  have hl : (ys.take m).length = m := by simp; omega
  refine ⟨flat_length _, ?_⟩
  rcases h.2 with ⟨h', _⟩ | ⟨g', cap', cur, h', hb, hg, hnc, hcm, hcs, htake⟩
  · simp at h'
  · simp only [Value.slice.injEq, Option.some.injEq, Addr.mk.injEq, and_true, true_and] at h'
    obtain ⟨rfl, rfl⟩ := h'
    refine .inr ⟨g, cap, cur, rfl, hb, hg, by omega, hcm, hcs, ?_⟩
    rw [hl, ← flat_take, ← htake, List.take_take]
    congr 1
    omega

set_option maxHeartbeats 400000 in
theorem up_any (b g cap k : Nat) (ys : List T) (w : World) (hk : k < ys.length) (hn : ys.length ≤ 100000) (hs : w.heap[b]? = some (.cells #[.slice (some ⟨g, 0, none⟩) ys.length cap] 148 (0, 0))) (hbg : b ≠ g)
    (ha : Arr w g cap ys) (hu : UpI k ys) :
    Calls Try.prog 98 #[.pointer (some ⟨b, 0, none⟩), .int .i64 k] w fun e w' => e = .returned (.tuple #[]) ∧ Fr (· = g) w w' ∧ ∃ ys', Arr w' g cap ys' ∧ IsH ys' ∧ ys'.Perm ys := by
  have hb := lt_of hs
  go_enter Try.func98, Try.ntmps98
  go_wp2_with fail
  go_step3
  go_wp2_with fail
  go_step3
  go_wp2_with fail
  go_loopw [1] (fun v wr => ∃ (k : Nat) (zs : List T), v = .int .i64 k ∧ k < zs.length ∧ Arr wr g cap zs ∧ UpI k zs ∧ zs.Perm ys ∧ Fr (· = g) w wr) (fun v wr => (intOf v).toNat)
  case atStart => exact ⟨k, ys, rfl, hk, ha, hu, List.Perm.refl _, Fr.refl _ _⟩
  case round =>
    obtain ⟨k, zs, rfl, hk, ha, hu, hp, hf⟩ := hrel
    have hlen := hp.length_eq
    have hs' : wr.cell? ⟨b, 0, none⟩ = some (.slice (some ⟨g, 0, none⟩) zs.length cap) := by
      rw [hf.cell hb hbg, cell_of hs, hlen]; rfl
    have hz : zs.length ≤ 100000 := by omega
    have HL := Lib.hid hlen
    clear hlen
    by_cases h0 : 0 < k
    · obtain ⟨o, he⟩ : ∃ o : Nat, o = (k - 1) / 2 := ⟨_, rfl⟩
      have ho : o < zs.length := by omega
      have k1 := ha.key k hk
      have i1 := ha.item k hk
      have k2 := ha.key o ho
      have i2 := ha.item o ho
      have hco : ((k : Int) - 1) / 2 = (o : Int) := by omega
      have HE := Lib.hid he
      have HCO := Lib.hid hco
      clear he hco
      go_wp2_with fail
      rw [HCO.out]
      refine Mix.region [0, 0, 0, 0, 0, 0, 0, 0, 0, 0, 0, 0, 0, 0, 2, 0] (fun _ => True) (by kernel_rfl) (by kernel_rfl) trivial ?_
      simp only [List.zip_cons_cons, List.zip_nil_right]
      iterate 14 (refine Mix.step0 fun K hK => ?_; go_simp; (try (go_bits; try go_simp)); first | ((with_reducible refine hK _ _ ?_); clear hK K) | ((try (simp only [IntWalk.iteOmega]; try go_simp)); (try go_bits); (with_reducible refine hK _ _ ?_); clear hK K))
      refine Mix.step2n (by first | rfl | simp [Region.wanted, yielded]) fun K hK => ?_
      go_wp2_with fail
      refine (ahead_any _ _ _ _ _).mono ?_
      rintro e w1 ⟨rfl, hbel'⟩
      have hbel := below_drew hbel'
      clear hbel'
      go_wp2_with fail
      refine Mix.post_mk (C := (fun _ => True)) trivial (hK _ _ ?_)
      clear hK K
      iterate 1 (refine Mix.step0 fun K hK => ?_; go_simp; (try (go_bits; try go_simp)); first | ((with_reducible refine hK _ _ ?_); clear hK K) | ((try (simp only [IntWalk.iteOmega]; try go_simp)); (try go_bits); (with_reducible refine hK _ _ ?_); clear hK K))
      refine Mix.done ?_
      cases hlt : ltB (nth zs k) (nth zs o)
      · have HLT := Lib.hid hlt
        clear hlt
        go_wp2_with fail
        rw [Exit.noGoto_normal]
        go_end0
        have he := HE.out
        subst he
        exact ⟨rfl, hf.trans (Fr.below hbel) (fun _ _ h => h), zs, ha.frame (S := fun _ => False) (Fr.below hbel) id, up_done hu HLT.out, hp⟩
      · have ha1 : Arr w1 g cap zs := ha.frame (S := fun _ => False) (Fr.below hbel) id
        have hs1 : w1.cell? ⟨b, 0, none⟩ = some (.slice (some ⟨g, 0, none⟩) zs.length cap) := by
          rw [Below.cell hbel (Nat.lt_of_lt_of_le hb hf.size)]; exact hs'
        have k1 := ha1.key k hk
        have i1 := ha1.item k hk
        have k2 := ha1.key o ho
        have i2 := ha1.item o ho
        have hfr := fun j => ha1.free j
        have HLT := Lib.hid hlt
        clear hlt hs'
        go_wp2_with fail
        refine Mix.region [0, 0, 0, 0, 0, 0, 0, 0, 0, 1, 0, 0, 0, 0, 0, 0, 0, 0, 0, 0, 0, 0, 0, 0, 0, 2, 0, 2] (fun _ => True) (by kernel_rfl) (by kernel_rfl) trivial ?_
        simp only [List.zip_cons_cons, List.zip_nil_right]
        iterate 9 (refine Mix.step0 fun K hK => ?_; go_simp; (try (go_bits; try go_simp)); first | ((with_reducible refine hK _ _ ?_); clear hK K) | ((try (simp only [IntWalk.iteOmega]; try go_simp)); (try go_bits); (with_reducible refine hK _ _ ?_); clear hK K))
        iterate 1 (refine Mix.step1 fun K hK => ?_; go_simp; (try (go_bits; try go_simp)); first | ((with_reducible refine hK _ _ ?_); clear hK K) | ((try (simp only [IntWalk.iteOmega]; try go_simp)); (try go_bits); (with_reducible refine hK _ _ ?_); clear hK K))
        iterate 15 (refine Mix.step0 fun K hK => ?_; go_simp; (try (go_bits; try go_simp)); first | ((with_reducible refine hK _ _ ?_); clear hK K) | ((try (simp only [IntWalk.iteOmega]; try go_simp)); (try go_bits); (with_reducible refine hK _ _ ?_); clear hK K))
        refine Mix.step2n (by first | rfl | simp [Region.wanted, yielded]) fun K hK => ?_
        go_wp2_with fail
        generalize hW2 : World.drew _ = w2
        have ha2 : Arr w2 g cap (zs.set k (nth zs o)) := by rw [← hW2]; exact ha1.put k (nth zs o)
        have hF2 : Fr (· = g) w1 w2 := by
          rw [← hW2]
          exact (Fr.set2 _ _ _ _ _ _).to_drew
        clear hW2 k1 i1 k2 i2 hfr
        have hl2 : o < (zs.set k (nth zs o)).length := by simpa using ho
        have k2 := ha2.key o hl2
        have i2 := ha2.item o hl2
        have hfr := fun j => ha2.free j
        refine Mix.post_mk (C := (fun _ => True)) trivial (hK _ _ ?_)
        clear hK K
        iterate 1 (refine Mix.step0 fun K hK => ?_; go_simp; (try (go_bits; try go_simp)); first | ((with_reducible refine hK _ _ ?_); clear hK K) | ((try (simp only [IntWalk.iteOmega]; try go_simp)); (try go_bits); (with_reducible refine hK _ _ ?_); clear hK K))
        refine Mix.step2n (by first | rfl | simp [Region.wanted, yielded]) fun K hK => ?_
        go_wp2_with fail
        generalize hW3 : World.setCell _ _ _ = w3
        have ha3 : Arr w3 g cap (sw zs k o) := by rw [← hW3]; exact ha2.put o (nth zs k)
        have hF3 : Fr (· = g) w1 w3 := by
          rw [← hW3]
          exact hF2.trans (Fr.set2 _ _ _ _ _ _) (fun _ _ h => h)
        clear hW3 k2 i2 hfr
        refine Mix.post_mk (C := (fun _ => True)) trivial (hK _ _ ?_)
        clear hK K
        refine Mix.done ?_
        go_wp2_with fail
        go_roundw
        case measure => have := HE.out; simp [intOf]; omega
        case rel =>
          have he := HE.out
          subst he
          exact ⟨_, sw zs k ((k - 1) / 2), rfl, by rw [sw_length]; exact ho, ha3, up_step hu h0 hk HLT.out, (sw_perm hk ho).trans hp,
            hf.trans ((Fr.below hbel).trans hF3 (fun _ _ h => h)) (fun _ _ h => h)⟩
    · have hk0 : k = 0 := by omega
      have HK0 := Lib.hid hk0
      clear hk0
      go_wp2
      rw [Exit.noGoto_normal]
      go_end0
      have hk0 := HK0.out
      subst hk0
      exact ⟨rfl, hf, zs, ha, up_done0 hu, hp⟩
end Go.Proofs.Ytjijhpflkkicaaa
namespace Go.Proofs.Ytjijhpflkkicaaa
open Go Go.RowKit Go.Mem Go.HeapP

/-- Which one below k is the lesser one. -/
def sel (k : Nat) (zs : List T) : Nat := if (decide (2 * k + 2 < zs.length) && ltB (nth zs (2 * k + 2)) (nth zs (2 * k + 1))) = true then 2 * k + 2 else 2 * k + 1
theorem sel_min {k : Nat} {zs : List T} (j : Nat) (hj : 0 < j) (hl : j < zs.length) (hp : (j - 1) / 2 = k) : le (nth zs (sel k zs)) (nth zs j) := by
  have hj' : j = 2 * k + 1 ∨ j = 2 * k + 2 := by omega
  unfold sel
  by_cases h : (decide (2 * k + 2 < zs.length) && ltB (nth zs (2 * k + 2)) (nth zs (2 * k + 1))) = true
  · rw [if_pos h]
    simp only [Bool.and_eq_true, decide_eq_true_eq] at h
    rcases hj' with rfl | rfl
    · exact le_of_lt h.2
    · exact le_refl _
  · rw [if_neg h]
    rcases hj' with rfl | rfl
    · exact le_refl _
    · simp only [Bool.and_eq_true, decide_eq_true_eq, not_and, Bool.not_eq_true] at h
      exact h hl

set_option maxHeartbeats 1000000 in
set_option maxRecDepth 100000 in
theorem down_any (b g cap k : Nat) (ys : List T) (w : World) (hk : k < ys.length ∨ ys.length = 0) (hn : ys.length ≤ 100000) (hs : w.heap[b]? = some (.cells #[.slice (some ⟨g, 0, none⟩) ys.length cap] 148 (0, 0))) (hbg : b ≠ g)
    (ha : Arr w g cap ys) (hu : DownI k ys) (hk1 : k ≤ 100000) :
    Calls Try.prog 94 #[.pointer (some ⟨b, 0, none⟩), .int .i64 k] w fun e w' => e = .returned (.tuple #[]) ∧ Fr (· = g) w w' ∧ ∃ ys', Arr w' g cap ys' ∧ IsH ys' ∧ ys'.Perm ys := by
  have hb := lt_of hs
  go_enter Try.func94, Try.ntmps94
  go_wp2_with fail
  go_step3
  go_wp2_with fail
  go_step3
  go_wp2_with fail
  go_loopw [1] (fun v wr => ∃ (k : Nat) (zs : List T), v = .int .i64 k ∧ (k < zs.length ∨ zs.length = 0) ∧ k ≤ 100000 ∧ Arr wr g cap zs ∧ DownI k zs ∧ zs.Perm ys ∧ Fr (· = g) w wr) (fun v wr => 100001 - (intOf v).toNat)
  case atStart => exact ⟨k, ys, rfl, hk, hk1, ha, hu, List.Perm.refl _, Fr.refl _ _⟩
  case round =>
    obtain ⟨k, zs, rfl, hk, hk1, ha, hu, hp, hf⟩ := hrel
    have hlen := hp.length_eq
    have hs' : wr.cell? ⟨b, 0, none⟩ = some (.slice (some ⟨g, 0, none⟩) zs.length cap) := by
      rw [hf.cell hb hbg, cell_of hs, hlen]; rfl
    have hz : zs.length ≤ 100000 := by omega
    have HL := Lib.hid hlen
    clear hlen
    have HK := Lib.hid hk
    clear hk
    have hbr : b < wr.heap.size := Nat.lt_of_lt_of_le hb hf.size
    obtain ⟨o, he⟩ : ∃ o : Nat, o = 2 * k + 1 := ⟨_, rfl⟩
    have hco : 2 * (k : Int) + 1 = (o : Int) := by omega
    have ho1 : o ≤ 200001 := by omega
    have h01 : o < zs.length ∨ ¬ o < zs.length := Classical.em _
    by_cases h0 : 2 * k + 1 < zs.length
    · have h1 : o < zs.length := by omega
      have hkl : k < zs.length := by omega
      have HE := Lib.hid he
      have HCO := Lib.hid hco
      clear he hco h01
      go_upto_region 2 with fail
      rw [HCO.out]
      go_cut [40] (fun s40 wx => ∃ t : Bool, s40 = .bool t ∧ Hid (t = (decide (2 * k + 2 < zs.length) && ltB (nth zs (2 * k + 2)) (nth zs (2 * k + 1)))) ∧ Fr (fun _ => False) wr wx)
      case first =>

        have k1 := ha.key o h1
        have i1 := ha.item o h1
        by_cases h2 : o + 1 < zs.length
        · have k2 := ha.key (o + 1) h2
          have i2 := ha.item (o + 1) h2
          have hd : ((o : Int) + 1 < (zs.length : Int)) := by omega
          refine Mix.region [0, 0, 0, 0, 0, 0, 0, 0, 0, 0, 0, 0, 0, 0, 0, 0, 0, 0, 0, 0, 0, 0, 0, 0, 2, 0] (fun _ => True) (by kernel_rfl) (by kernel_rfl) trivial ?_
          simp only [List.zip_cons_cons, List.zip_nil_right]
          iterate 9 (refine Mix.step0 fun K hK => ?_; go_simp; (try (go_bits; try go_simp)); first | ((with_reducible refine hK _ _ ?_); clear hK K) | ((try (simp only [IntWalk.iteOmega]; try go_simp)); (try go_bits); (with_reducible refine hK _ _ ?_); clear hK K))
          iterate 15 (first | (refine Mix.stepS rfl fun K hK => ?_; go_simp; (with_reducible refine hK _ _ ?_); clear hK K) | (refine Mix.step0 fun K hK => ?_; go_simp; (try (go_bits; try go_simp)); first | ((with_reducible refine hK _ _ ?_); clear hK K) | ((try (simp only [IntWalk.iteOmega]; try go_simp)); (try go_bits); (with_reducible refine hK _ _ ?_); clear hK K)))
          refine Mix.step2n (by first | rfl | simp [Region.wanted, yielded]) fun K hK => ?_
          go_wp2_with fail
          refine (ahead_any _ _ _ _ _).mono ?_
          rintro e w1 ⟨rfl, hbel'⟩
          have hbel := below_drew hbel'
          clear hbel'
          go_wp2_with fail
          refine Mix.post_mk (C := (fun _ => True)) trivial (hK _ _ ?_)
          clear hK K
          iterate 1 (refine Mix.step0 fun K hK => ?_; go_simp; (try (go_bits; try go_simp)); first | ((with_reducible refine hK _ _ ?_); clear hK K) | ((try (simp only [IntWalk.iteOmega]; try go_simp)); (try go_bits); (with_reducible refine hK _ _ ?_); clear hK K))
          refine Mix.done ?_
          go_wp2_with fail
          go_meet
          case rel =>
            have he := HE.out
            subst he
            exact ⟨_, rfl, (by rw [decide_eq_true h2, Bool.true_and] : _ = _), Fr.below hbel⟩
        · have hd : ¬ ((o : Int) + 1 < (zs.length : Int)) := by omega
          refine Mix.region [0, 0, 0, 0, 0, 0, 0, 0, 0, 0, 0, 0, 0, 0, 0, 0, 0, 0, 0, 0, 0, 0, 0, 0, 2, 0] (fun _ => True) (by kernel_rfl) (by kernel_rfl) trivial ?_
          simp only [List.zip_cons_cons, List.zip_nil_right]
          iterate 9 (refine Mix.step0 fun K hK => ?_; go_simp; (try (go_bits; try go_simp)); first | ((with_reducible refine hK _ _ ?_); clear hK K) | ((try (simp only [IntWalk.iteOmega]; try go_simp)); (try go_bits); (with_reducible refine hK _ _ ?_); clear hK K))
          iterate 15 (first | (refine Mix.stepS rfl fun K hK => ?_; go_simp; (with_reducible refine hK _ _ ?_); clear hK K) | (refine Mix.step0 fun K hK => ?_; go_simp; (try (go_bits; try go_simp)); first | ((with_reducible refine hK _ _ ?_); clear hK K) | ((try (simp only [IntWalk.iteOmega]; try go_simp)); (try go_bits); (with_reducible refine hK _ _ ?_); clear hK K)))
          refine Mix.step2s (by first | rfl | simp [Region.wanted, yielded]) ?_
          iterate 1 (refine Mix.step0 fun K hK => ?_; go_simp; (try (go_bits; try go_simp)); first | ((with_reducible refine hK _ _ ?_); clear hK K) | ((try (simp only [IntWalk.iteOmega]; try go_simp)); (try go_bits); (with_reducible refine hK _ _ ?_); clear hK K))
          refine Mix.done ?_
          go_wp2_with fail
          go_meet
          case rel =>
            have he := HE.out
            subst he
            exact ⟨_, rfl, (by rw [decide_eq_false h2, Bool.false_and] : _ = _), (Fr.refl _ _).to_drew⟩
      case rest =>
        obtain ⟨t, rfl, ht, hfx⟩ := hcut
        go_upto_if 40 with fail
        go_cut [4] (fun s4 wx => ∃ d : Nat, s4 = .int .i64 d ∧ Hid (d = sel k zs) ∧ Fr (fun _ => False) wr wx)
        case first =>
          have he := HE.out
          cases t
          · go_wp2_with fail
            go_meet
            case rel => exact ⟨o, rfl, (by unfold sel; rw [if_neg (by rw [← ht.out]; simp)]; exact he : o = sel k zs), hfx⟩
          · have he' : o + 1 = sel k zs := by unfold sel; rw [if_pos ht.out.symm, he]
            have HE' := Lib.hid he'
            clear he he' HE HCO ht
            go_wp2_with fail
            go_meet
            case rel => exact ⟨o + 1, rfl, HE', hfx⟩
        case rest =>
        obtain ⟨d, rfl, hd, hfx⟩ := hcut
        have hdl : d < zs.length := by
          rw [hd.out]; unfold sel; split
          · rename_i h; simp only [Bool.and_eq_true, decide_eq_true_eq] at h; omega
          · omega
        have hdp : 0 < d ∧ (d - 1) / 2 = k := by rw [hd.out]; unfold sel; split <;> omega
        have HDP := Lib.hid hdp
        clear hdp ht hs'
        have ha1 : Arr wc g cap zs := ha.frame hfx id
        have hs1 : wc.cell? ⟨b, 0, none⟩ = some (.slice (some ⟨g, 0, none⟩) zs.length cap) := by
          rw [hfx.cell hbr id, hf.cell hb hbg, cell_of hs, HL.out]; rfl
        have k1 := ha1.key k hkl
        have i1 := ha1.item k hkl
        have k2 := ha1.key d hdl
        have i2 := ha1.item d hdl
        go_wp2_with fail
        refine Mix.region [0, 0, 0, 0, 0, 0, 0, 0, 0, 0, 0, 0, 0, 0, 2, 0] (fun _ => True) (by kernel_rfl) (by kernel_rfl) trivial ?_
        simp only [List.zip_cons_cons, List.zip_nil_right]
        iterate 14 (refine Mix.step0 fun K hK => ?_; go_simp; (try (go_bits; try go_simp)); first | ((with_reducible refine hK _ _ ?_); clear hK K) | ((try (simp only [IntWalk.iteOmega]; try go_simp)); (try go_bits); (with_reducible refine hK _ _ ?_); clear hK K))
        refine Mix.step2n (by first | rfl | simp [Region.wanted, yielded]) fun K hK => ?_
        go_wp2_with fail
        refine (ahead_any _ _ _ _ _).mono ?_
        rintro e w1 ⟨rfl, hbel'⟩
        have hbel := below_drew hbel'
        clear hbel'
        go_wp2_with fail
        refine Mix.post_mk (C := (fun _ => True)) trivial (hK _ _ ?_)
        clear hK K
        iterate 1 (refine Mix.step0 fun K hK => ?_; go_simp; (try (go_bits; try go_simp)); first | ((with_reducible refine hK _ _ ?_); clear hK K) | ((try (simp only [IntWalk.iteOmega]; try go_simp)); (try go_bits); (with_reducible refine hK _ _ ?_); clear hK K))
        refine Mix.done ?_
        cases hlt : ltB (nth zs d) (nth zs k)
        · have HLT := Lib.hid hlt
          clear hlt
          go_wp2_with fail
          rw [Exit.noGoto_normal]
          go_end0
          refine ⟨rfl, (hf.trans hfx (fun _ _ h => h.elim)).trans (Fr.below hbel) (fun _ _ h => h), zs, ha1.frame (S := fun _ => False) (Fr.below hbel) id, down_done hu (fun j hj hl hp => ?_), hp⟩
          exact le_trans (HLT.out : le (nth zs k) (nth zs d)) (by rw [hd.out]; exact sel_min j hj hl hp)
        · have ha2 : Arr w1 g cap zs := ha1.frame (S := fun _ => False) (Fr.below hbel) id
          have hs2 : w1.cell? ⟨b, 0, none⟩ = some (.slice (some ⟨g, 0, none⟩) zs.length cap) := by
            rw [Below.cell hbel (Nat.lt_of_lt_of_le hbr hfx.size)]; exact hs1
          clear k1 i1 k2 i2
          have k1 := ha2.key k hkl
          have i1 := ha2.item k hkl
          have k2 := ha2.key d hdl
          have i2 := ha2.item d hdl
          have hfr := fun j => ha2.free j
          have HLT := Lib.hid hlt
          clear hlt hs1
          go_wp2_with fail
          refine Mix.region [0, 0, 0, 0, 0, 0, 0, 0, 0, 1, 0, 0, 0, 0, 0, 0, 0, 0, 0, 0, 0, 0, 0, 0, 0, 2, 0, 2] (fun _ => True) (by kernel_rfl) (by kernel_rfl) trivial ?_
          simp only [List.zip_cons_cons, List.zip_nil_right]
          iterate 9 (refine Mix.step0 fun K hK => ?_; go_simp; (try (go_bits; try go_simp)); first | ((with_reducible refine hK _ _ ?_); clear hK K) | ((try (simp only [IntWalk.iteOmega]; try go_simp)); (try go_bits); (with_reducible refine hK _ _ ?_); clear hK K))
          iterate 1 (refine Mix.step1 fun K hK => ?_; go_simp; (try (go_bits; try go_simp)); first | ((with_reducible refine hK _ _ ?_); clear hK K) | ((try (simp only [IntWalk.iteOmega]; try go_simp)); (try go_bits); (with_reducible refine hK _ _ ?_); clear hK K))
          iterate 15 (refine Mix.step0 fun K hK => ?_; go_simp; (try (go_bits; try go_simp)); first | ((with_reducible refine hK _ _ ?_); clear hK K) | ((try (simp only [IntWalk.iteOmega]; try go_simp)); (try go_bits); (with_reducible refine hK _ _ ?_); clear hK K))
          refine Mix.step2n (by first | rfl | simp [Region.wanted, yielded]) fun K hK => ?_
          go_wp2_with fail
          generalize hW2 : World.drew _ = w2
          have ha3 : Arr w2 g cap (zs.set k (nth zs d)) := by rw [← hW2]; exact ha2.put k (nth zs d)
          have hF2 : Fr (· = g) w1 w2 := by
            rw [← hW2]
            exact (Fr.set2 _ _ _ _ _ _).to_drew
          clear hW2 k1 i1 k2 i2 hfr
          have hl2 : d < (zs.set k (nth zs d)).length := by simpa using hdl
          have k2 := ha3.key d hl2
          have i2 := ha3.item d hl2
          have hfr := fun j => ha3.free j
          refine Mix.post_mk (C := (fun _ => True)) trivial (hK _ _ ?_)
          clear hK K
          iterate 1 (refine Mix.step0 fun K hK => ?_; go_simp; (try (go_bits; try go_simp)); first | ((with_reducible refine hK _ _ ?_); clear hK K) | ((try (simp only [IntWalk.iteOmega]; try go_simp)); (try go_bits); (with_reducible refine hK _ _ ?_); clear hK K))
          refine Mix.step2n (by first | rfl | simp [Region.wanted, yielded]) fun K hK => ?_
          go_wp2_with fail
          generalize hW3 : World.setCell _ _ _ = w3
          have ha4 : Arr w3 g cap (sw zs k d) := by rw [← hW3]; exact ha3.put d (nth zs k)
          have hF3 : Fr (· = g) w1 w3 := by
            rw [← hW3]
            exact hF2.trans (Fr.set2 _ _ _ _ _ _) (fun _ _ h => h)
          clear hW3 k2 i2 hfr
          refine Mix.post_mk (C := (fun _ => True)) trivial (hK _ _ ?_)
          clear hK K
          refine Mix.done ?_
          go_wp2_with fail
          go_roundw
          case measure => have := HDP.out; simp [intOf]; omega
          case rel =>
            refine ⟨_, sw zs k d, rfl, .inl (by rw [sw_length]; exact hdl), by omega, ha4, down_step hu hkl hdl HDP.out.2 HDP.out.1 (fun j hj hl hp => ?_) HLT.out, (sw_perm hkl hdl).trans hp,
              ((hf.trans hfx (fun _ _ h => h.elim)).trans (Fr.below hbel) (fun _ _ h => h)).trans hF3 (fun _ _ h => h)⟩
            rw [hd.out]; exact sel_min j hj hl hp
    · have HE := Lib.hid he
      have HCO := Lib.hid hco
      clear he hco h01
      go_wp2
      rw [Exit.noGoto_normal]
      go_end0
      exact ⟨rfl, hf, zs, ha, down_done hu (fun j hj hl hp => by omega), hp⟩
end Go.Proofs.Ytjijhpflkkicaaa
namespace Go.Proofs.Ytjijhpflkkicaaa
open Go Go.RowKit Go.Mem Go.HeapP

theorem Try.infoThing : (Try.prog.info? 151).map (fun i => (i.zero, i.size, i.bytes)) = some (some (.agg #[.int .i64 0, .int .i64 0]), 2, 16) := by kernel_rfl

/-- A heap lies at block b, in the blocks of S. -/
structure HRep (w : World) (b : Nat) (S : Nat → Prop) (xs : List T) : Prop where
  isH : IsH xs
  inS : S b
  low : ∀ j, S j → j < w.heap.size
  mem : (w.heap[b]? = some (.cells #[.slice none 0 0] 148 (0, 0)) ∧ xs = []) ∨ ∃ g cap, w.heap[b]? = some (.cells #[.slice (some ⟨g, 0, none⟩) xs.length cap] 148 (0, 0)) ∧ Arr w g cap xs ∧ b ≠ g ∧ S g

theorem HRep.frame {w w' : World} {b : Nat} {S S' : Nat → Prop} {xs : List T} (h : HRep w b S xs) (hf : Fr S' w w') (hd : ∀ j, S j → ¬ S' j) : HRep w' b S xs := by
  refine ⟨h.isH, h.inS, fun j hj => Nat.lt_of_lt_of_le (h.low j hj) hf.size, ?_⟩
  have hb := hf.block b (h.low b h.inS) (hd b h.inS)
  rcases h.mem with ⟨h1, h2⟩ | ⟨g, cap, h1, h2, h3, h4⟩
  · exact .inl ⟨hb.trans h1, h2⟩
  · exact .inr ⟨g, cap, hb.trans h1, h2.frame hf (hd g h4), h3, h4⟩

/-- What a call may have done to the blocks of S: they have turned into S'. -/
structure Turned (S S' : Nat → Prop) (w w' : World) : Prop where
  fr : Fr S w w'
  new : ∀ j, S' j → S j ∨ w.heap.size ≤ j

theorem Turned.trans {S S' S'' : Nat → Prop} {a b c : World} (h : Turned S S' a b) (k : Turned S' S'' b c) : Turned S S'' a c :=
  ⟨h.fr.trans k.fr (fun i hi hs => (h.new i hs).elim id (fun h' => by omega)), fun j hj => by
    rcases k.new j hj with h1 | h1
    · exact h.new j h1
    · have := h.fr.size; exact .inr (by omega)⟩
theorem Turned.of {S : Nat → Prop} {a b : World} (h : Fr S a b) : Turned S S a b := ⟨h, fun _ h => .inl h⟩

set_option maxHeartbeats 400000 in
theorem new_any (w : World) :
    Calls Try.prog 78 #[] w fun e w' => e = .returned (.pointer (some ⟨w.heap.size, 0, none⟩)) ∧ HRep w' w.heap.size (· = w.heap.size) [] ∧ Below w.heap.size w w' := by
  go_enter Try.func78, Try.ntmps78
  go_wp2
  go_ret
  refine ⟨rfl, ⟨isH_nil, rfl, fun j hj => by subst hj; simp, .inl ⟨?_, rfl⟩⟩, (Below.refl _ _).alloc (Nat.le_refl _) _⟩
  exact heap_alloc_new w _

set_option maxHeartbeats 400000 in
theorem len_any (b : Nat) (S : Nat → Prop) (xs : List T) (w : World) (h : HRep w b S xs) :
    Calls Try.prog 80 #[.pointer (some ⟨b, 0, none⟩)] w fun e w' => e = .returned (.int .i64 xs.length) ∧ w = w' := by
  rcases h.mem with ⟨h1, rfl⟩ | ⟨g, cap, h1, _, _, _⟩
  · have hc := cell_of h1 0
    simp at hc
    clear h h1
    go_enter Try.func80, Try.ntmps80
    go_wp2
    go_ret
    exact ⟨rfl, rfl⟩
  · have hc := cell_of h1 0
    simp at hc
    clear h h1
    go_enter Try.func80, Try.ntmps80
    go_wp2
    go_ret
    exact ⟨rfl, rfl⟩

set_option maxHeartbeats 800000 in
theorem push_any (b : Nat) (S : Nat → Prop) (xs : List T) (k i : Int) (w : World) (h : HRep w b S xs) (hn : xs.length ≤ 99999) :
    Calls Try.prog 92 #[.pointer (some ⟨b, 0, none⟩), .int .i64 k, .int .i64 i] w fun e w' => e = .returned (.int .i64 0) ∧ ∃ S' xs', HRep w' b S' xs' ∧ xs'.Perm ((k, i) :: xs) ∧ Turned S S' w w' := by
  obtain ⟨i0, hi, hz0, hz1, hz2⟩ := info_parts Try.infoThing
  have hb := h.low b h.inS
  obtain ⟨v, hv, hown, hvb, hvS⟩ : ∃ v, w.heap[b]? = some (.cells #[v] 148 (0, 0)) ∧ w.ownsRow 0 151 2 v xs.length (flat xs) ∧ v.ownBlock ≠ some b ∧ (∀ g, v.ownBlock = some g → S g) := by
    rcases h.mem with ⟨h1, h2⟩ | ⟨g, cap, h1, h2, h3, h4⟩
    · refine ⟨_, h1, by subst h2; exact World.ownsRow_nil _ _ _ _, by simp [Value.ownBlock], by simp [Value.ownBlock]⟩
    · refine ⟨_, h1, h2, by simp only [Value.ownBlock]; intro e; exact h3 (Option.some.inj e).symm, fun g' e => ?_⟩
      simp only [Value.ownBlock, Option.some.injEq] at e; subst e; exact h4
  have hc : w.cell? ⟨b, 0, none⟩ = some v := cell_of hv 0
  have hf0 := frozen_of hv 0
  have hnb : (w.alloc (.cells #[.int .i64 k, .int .i64 i] 151)).heap[w.heap.size]? = some (.cells #[.int .i64 k, .int .i64 i] 151 (0, 0)) := heap_alloc_new w _
  go_enter Try.func92, Try.ntmps92
  go_wp2_with (at_builtin; refine wpList_append1 rfl (.tmp 13) (.tmp 17) 146 rfl 151 i0 _ 2 16 Try.underlying146 hi hz0 hz1 hz2 rfl (by decide) v xs.length (flat xs) rfl (hown.alloc _) w.heap.size _ _ _ rfl hnb rfl ?c2 ?c3 ?c4 ?grow)
  case c2 => exact ⟨rfl, rfl⟩
  case c3 => unfold maxLen; omega
  case c4 => omega
  case grow =>
    intro v' w1 hA
    clear hnb
    have hF1 : Fr S w w1 := (Fr.alloc w _).trans hA.fr (fun i _ e => hvS i e)
    obtain ⟨g, cap', rfl⟩ := hA.shape (by omega)
    have hg0 : S g ∨ w.heap.size ≤ g := by
      rcases hA.block g rfl with h | h
      · exact .inl (hvS g h)
      · simp at h; exact .inr (by omega)
    have hbg : b ≠ g := by
      rcases hA.block g rfl with h | h
      · intro e; subst e; exact hvb h
      · simp at h; omega
    have hv1 : w1.heap[b]? = some (.cells #[v] 148 (0, 0)) := by
      rw [hA.fr.block b (by simp; omega) hvb]
      exact (Below.heap_alloc _ _ _ hb).trans hv
    have hc1 : w1.cell? ⟨b, 0, none⟩ = some v := cell_of hv1 0
    have hf1 := frozen_of hv1 0
    have ha1 : Arr w1 g cap' (xs ++ [(k, i)]) := by
      unfold Arr
      rw [← flat_append]
      simpa using hA.own
    have HL := Lib.hid (show (xs ++ [(k, i)]).length = xs.length + 1 by simp)
    clear hc hf0 hv hA
    go_wp2_with fail
    generalize hW2 : World.setCell _ _ _ = w2
    have hF2 : Fr (· = b) w1 w2 := by rw [← hW2]; exact Fr.set1 _ _ _ _
    have hs2 : w2.heap[b]? = some (.cells #[.slice (some ⟨g, 0, none⟩) (xs ++ [(k, i)]).length cap'] 148 (0, 0)) := by
      rw [← hW2, heap_setCell_same _ _ _ _ _ _ hv1, HL.out]; rfl
    have ha2 : Arr w2 g cap' (xs ++ [(k, i)]) := ha1.frame hF2 (fun e => hbg e.symm)
    refine (up_any b g cap' _ (xs ++ [(k, i)]) _ ?_ ?_ hs2 hbg ha2 (up_start h.isH _)).mono ?_
    · simp
    · simp; omega
    rintro e w3 ⟨rfl, hF3, ys, ha3, hh3, hp3⟩
    go_wp2_with fail
    go_ret
    have hF : Fr S w w3 := (hF1.trans hF2 (fun i _ e => by rw [e]; exact h.inS)).trans hF3 (fun i hi e => by
      rcases hg0 with h | h
      · rw [e]; exact h
      · rw [e] at hi; omega)
    have hs3 : w3.heap[b]? = some (.cells #[.slice (some ⟨g, 0, none⟩) ys.length cap'] 148 (0, 0)) := by
      rw [hF3.block b (lt_of hs2) hbg, hs2, hp3.length_eq]
    exact ⟨rfl, fun j => j < w3.heap.size ∧ (S j ∨ w.heap.size ≤ j), ys, ⟨hh3, ⟨lt_of hs3, .inl h.inS⟩, fun j hj => hj.1, .inr ⟨g, cap', hs3, ha3, hbg, ha3.lt, hg0⟩⟩, hp3.trans (List.perm_append_singleton _ _), hF, fun j hj => hj.2⟩

def peekV : List T → Value
  | [] => .tuple #[.int .i64 0, .int .i64 0, .int .i64 4]
  | x :: _ => .tuple #[.int .i64 x.1, .int .i64 x.2, .int .i64 0]

set_option maxHeartbeats 800000 in
theorem peek_any (b : Nat) (S : Nat → Prop) (xs : List T) (w : World) (h : HRep w b S xs) (hn : xs.length ≤ 100000) :
    Calls Try.prog 93 #[.pointer (some ⟨b, 0, none⟩)] w fun e w' => e = .returned (peekV xs) ∧ ∃ m, w' = w.drewN m := by
  match xs, h.mem with
  | [], .inl ⟨h1, _⟩ =>
    have hc := cell_of h1 0
    simp at hc
    clear h h1
    go_enter Try.func93, Try.ntmps93
    go_wp2
    go_ret3
    exact ⟨rfl, 0, rfl⟩
  | [], .inr ⟨g, cap, h1, _, _, _⟩ =>
    have hc := cell_of h1 0
    simp at hc
    clear h h1
    go_enter Try.func93, Try.ntmps93
    go_wp2
    go_ret3
    exact ⟨rfl, 0, rfl⟩
  | x :: r, .inr ⟨g, cap, h1, h2, _, _⟩ =>
    have hc := cell_of h1 0
    simp only [List.length_cons, List.getElem?_toArray, List.getElem?_cons_zero] at hc
    have k0 := h2.key 0 (by simp)
    have i0 := h2.item 0 (by simp)
    simp only [Nat.zero_mul, Nat.zero_add, nth, List.getD_cons_zero] at k0 i0
    simp only [List.length_cons] at hn
    clear h h1 h2
    go_enter Try.func93, Try.ntmps93
    go_wp2_with fail
    refine Mix.region [0, 0, 0, 0, 0, 0, 0, 0, 0, 0, 0, 0, 0, 0, 0, 0, 0] (fun _ => True) (by kernel_rfl) (by kernel_rfl) trivial ?_
    simp only [List.zip_cons_cons, List.zip_nil_right]
    iterate 17 (refine Mix.step0 fun K hK => ?_; go_simp; (try (go_bits; try go_simp)); first | ((with_reducible refine hK _ _ ?_); clear hK K) | ((try (simp only [IntWalk.iteOmega]; try go_simp)); (try go_bits); (with_reducible refine hK _ _ ?_); clear hK K))
    refine Mix.done ?_
    go_wp2_with fail
    go_ret3
    exact ⟨rfl, 1, rfl⟩
set_option maxHeartbeats 1000000 in
set_option maxRecDepth 100000 in
theorem pop_any (b : Nat) (S : Nat → Prop) (xs : List T) (w : World) (h : HRep w b S xs) (hn : xs.length ≤ 100000) :
    Calls Try.prog 81 #[.pointer (some ⟨b, 0, none⟩)] w fun e w' => e = .returned (peekV xs) ∧ ∃ xs', HRep w' b S xs' ∧ xs'.Perm xs.tail ∧ Fr S w w' := by
  match xs, h with
  | [], h =>
    go_enter Try.func81, Try.ntmps81
    go_wp2_with fail
    refine (peek_any b S [] _ h (by simp)).mono ?_
    rintro e w1 ⟨rfl, m, rfl⟩
    unfold peekV
    go_wp2_with fail
    go_ret3
    exact ⟨rfl, [], ⟨h.isH, h.inS, h.low, h.mem⟩, List.Perm.refl _, Fr.drewN _ _⟩
  | x :: r, h =>
    obtain ⟨g, cap, h1, h2, h3, h4⟩ : ∃ g cap, w.heap[b]? = some (.cells #[.slice (some ⟨g, 0, none⟩) (x :: r).length cap] 148 (0, 0)) ∧ Arr w g cap (x :: r) ∧ b ≠ g ∧ S g := by
      rcases h.mem with ⟨_, h⟩ | h
      · cases h
      · exact h
    go_enter Try.func81, Try.ntmps81
    go_wp2_with fail
    refine (peek_any b S (x :: r) _ h hn).mono ?_
    rintro e w1 ⟨rfl, m, hm⟩
    have hF0 : Fr S w w1 := by rw [hm]; exact Fr.drewN _ _
    have hs1 : w1.heap[b]? = some (.cells #[.slice (some ⟨g, 0, none⟩) (x :: r).length cap] 148 (0, 0)) := by rw [hm]; exact h1
    have ha1 : Arr w1 g cap (x :: r) := by rw [hm]; exact h2
    clear hm h1 h2
    obtain ⟨ys, hys⟩ : ∃ ys, ys = x :: r := ⟨_, rfl⟩
    rw [← hys] at hs1 ha1 hn
    have hhd : peekV (x :: r) = .tuple #[.int .i64 x.1, .int .i64 x.2, .int .i64 0] := rfl
    rw [hhd]
    have hH : IsH ys := by rw [hys]; exact h.isH
    have hpos : 0 < ys.length := by rw [hys]; simp
    have hpp : (popped ys).Perm r := by
      have := popped_perm hpos
      have e0 : nth ys 0 = x := by rw [hys]; rfl
      rw [e0, hys] at this
      exact (List.perm_cons x).1 (by rw [hys]; exact this)
    clear hhd hys
    have hin := h.inS
    have hlow := h.low
    clear h
    obtain ⟨o, ho⟩ : ∃ o, o = ys.length - 1 := ⟨_, rfl⟩
    have hco : (ys.length : Int) - 1 = (o : Int) := by omega
    have hol : o < ys.length := by omega
    have HO := Lib.hid ho
    have HCO := Lib.hid hco
    clear ho hco
    have hc : w1.cell? ⟨b, 0, none⟩ = some (.slice (some ⟨g, 0, none⟩) ys.length cap) := cell_of hs1 0
    have hf0 := frozen_of hs1 0
    have k0 := ha1.key 0 hpos
    have i0 := ha1.item 0 hpos
    rw [Nat.zero_mul] at k0 i0
    have k1 := ha1.key o hol
    have i1 := ha1.item o hol
    have hfr := fun j => ha1.free j
    go_upto_region 4 with fail
    rw [HCO.out]
    refine Mix.region [0, 0, 0, 0, 0, 0, 0, 0, 0, 0, 0, 0, 2] (fun _ => True) (by kernel_rfl) (by kernel_rfl) trivial ?_
    simp only [List.zip_cons_cons, List.zip_nil_right]
    iterate 12 (refine Mix.step0 fun K hK => ?_; go_simp; (try (go_bits; try go_simp)); first | ((with_reducible refine hK _ _ ?_); clear hK K) | ((try (simp only [IntWalk.iteOmega]; try go_simp)); (try go_bits); (with_reducible refine hK _ _ ?_); clear hK K))
    refine Mix.step2n (by first | rfl | simp [Region.wanted, yielded]) fun K hK => ?_
    go_wp2_with fail
    refine Mix.post_mk (C := (fun _ => True)) trivial (hK _ _ ?_)
    clear hK K
    refine Mix.done ?_
    generalize hW2 : World.drew _ = w2
    have ha2 : Arr w2 g cap (ys.set 0 (nth ys o)) := by rw [← hW2]; exact ha1.put 0 (nth ys o)
    have hF2 : Fr (· = g) w1 w2 := by
      rw [← hW2]
      exact (Fr.set2 _ _ _ _ _ _).to_drew
    have hs2 : w2.heap[b]? = some (.cells #[.slice (some ⟨g, 0, none⟩) ys.length cap] 148 (0, 0)) := by rw [hF2.block b (lt_of hs1) h3, hs1]
    have ha3 : Arr w2 g cap (popped ys) := by
      have h := ha2.shrink o (by simp; omega)
      rw [HO.out] at h
      exact h
    have hple : (popped ys).length = o := by rw [popped_length, HO.out]
    have hcapo : o ≤ cap := by have := ha1.le; omega
    clear hW2 k0 i0 k1 i1 hfr hc hf0
    have hc : w2.cell? ⟨b, 0, none⟩ = some (.slice (some ⟨g, 0, none⟩) ys.length cap) := cell_of hs2 0
    have hf0 := frozen_of hs2 0
    have HPL := Lib.hid hple
    clear hple
    go_wp2_with fail
    generalize hW3 : World.setCell _ _ _ = w3
    have hF3 : Fr (· = b) w2 w3 := by rw [← hW3]; exact Fr.set1 _ _ _ _
    have hs3 : w3.heap[b]? = some (.cells #[.slice (some ⟨g, 0, none⟩) (popped ys).length cap] 148 (0, 0)) := by
      rw [← hW3, heap_setCell_same _ _ _ _ _ _ hs2, HPL.out]; rfl
    have ha4 : Arr w3 g cap (popped ys) := ha3.frame hF3 (fun e => h3 e.symm)
    refine (down_any b g cap 0 (popped ys) _ ?_ ?_ hs3 h3 ha4 (down_start hH) (Nat.zero_le _)).mono ?_
    · have := HPL.out; omega
    · have := HPL.out; omega
    rintro e w4 ⟨rfl, hF4, zs, ha5, hh5, hp5⟩
    go_wp2_with fail
    go_ret3
    have hF : Fr S w w4 := ((hF0.trans hF2 (fun i _ e => by rw [e]; exact h4)).trans hF3 (fun i _ e => by rw [e]; exact hin)).trans hF4 (fun i _ e => by rw [e]; exact h4)
    have hs5 : w4.heap[b]? = some (.cells #[.slice (some ⟨g, 0, none⟩) zs.length cap] 148 (0, 0)) := by
      rw [hF4.block b (lt_of hs3) h3, hs3, hp5.length_eq]
    exact ⟨rfl, zs, ⟨hh5, hin, fun j hj => Nat.lt_of_lt_of_le (hlow j hj) hF.size, .inr ⟨g, cap, hs5, ha5, h3, h4⟩⟩, hp5.trans hpp, hF⟩
end Go.Proofs.Ytjijhpflkkicaaa
namespace Go.Proofs.Ytjijhpflkkicaaa
open Go Go.RowKit Go.Mem Go.HeapP

def heapT (b : Nat) (xs : List T) : Thing where
  is w S := HRep w b S xs
  low h k hk := h.low k hk
  stay h hf hd := h.frame hf hd

section
variable {w0 w : World} {L : List Thing} {b : Nat} {xs : List T}
theorem sep_isH (h : Sep w0 w L) (i : Nat) (hi : L[i]? = some (heapT b xs)) : IsH xs := let ⟨_, h⟩ := h.at i hi; HRep.isH h
theorem new_sep (h : Sep w0 w L) :
    Calls Try.prog 78 #[] w fun e w' => e = .returned (.pointer (some ⟨w.heap.size, 0, none⟩)) ∧ Sep w0 w' (heapT w.heap.size [] :: L) :=
  (new_any w).mono fun e w' ⟨he, hr, hb⟩ => ⟨he, h.new (B := heapT w.heap.size []) (S := (· = w.heap.size)) hb hr (fun _ hk => Nat.le_of_eq (Eq.symm hk))⟩
theorem push_sep (h : Sep w0 w L) (n : Nat) (hi : L[n]? = some (heapT b xs)) (k i : Int) (hn : xs.length ≤ 99999) :
    Calls Try.prog 92 #[.pointer (some ⟨b, 0, none⟩), .int .i64 k, .int .i64 i] w fun e w' => e = .returned (.int .i64 0) ∧ ∃ xs', xs'.Perm ((k, i) :: xs) ∧ Sep w0 w' (L.set n (heapT b xs')) := by
  obtain ⟨S, hS, hu⟩ := h.use n hi
  refine (push_any b S xs k i w hS hn).mono ?_
  rintro e w' ⟨he, S', xs', hr, hp, ht⟩
  exact ⟨he, xs', hp, hu w' (heapT b xs') S' hr ⟨ht.fr, ht.new⟩⟩
theorem pop_sep (h : Sep w0 w L) (n : Nat) (hi : L[n]? = some (heapT b xs)) (hn : xs.length ≤ 100000) :
    Calls Try.prog 81 #[.pointer (some ⟨b, 0, none⟩)] w fun e w' => e = .returned (peekV xs) ∧ ∃ xs', xs'.Perm xs.tail ∧ Sep w0 w' (L.set n (heapT b xs')) := by
  obtain ⟨S, hS, hu⟩ := h.use n hi
  refine (pop_any b S xs w hS hn).mono ?_
  rintro e w' ⟨he, xs', hr, hp, hf⟩
  exact ⟨he, xs', hp, hu w' (heapT b xs') S hr (Turn.of hf)⟩
theorem len_sep (h : Sep w0 w L) (n : Nat) (hi : L[n]? = some (heapT b xs)) :
    Calls Try.prog 80 #[.pointer (some ⟨b, 0, none⟩)] w fun e w' => e = .returned (.int .i64 xs.length) ∧ w = w' :=
  let ⟨S, hS⟩ := h.at n hi
  len_any b S xs w hS
end
end Go.Proofs.Ytjijhpflkkicaaa
