/-
  The walks of package heap, first part: ahead, up.
-/
import Derived.Test.YtfafecgnjjkagaaRows
import Derived.Test.YtfafecgnjjkagaaMix
import Derived.Test.YtfafecgnjjkagaaMem
import Derived.Test.YtfafecgnjjkagaaHPlain
import Derived.WalkSpells
import Derived.WalkLawsBesides
import Derived.Deep.LoopGhost
namespace Go.Proofs.Ytfafecgnjjkagaa
open Go Go.RowKit Go.Mem Go.HeapP

theorem ret_bool {a b : Bool} (h : a = b) : Ending.returned (.bool a) = .returned (.bool b) := by rw [h]

set_option maxHeartbeats 400000 in
theorem ahead_any (k1 i1 k2 i2 : Int) (w : World) :
    Calls Try.prog 44 #[.agg #[.int .i64 k1, .int .i64 i1], .agg #[.int .i64 k2, .int .i64 i2]] w fun e w' => e = .returned (.bool (ltB (k1, i1) (k2, i2))) ∧ Below w.heap.size w w' := by
  by_cases h1 : k1 < k2
  · have e : Hid (true = ltB (k1, i1) (k2, i2)) := (by simp [ltB, h1] : true = ltB (k1, i1) (k2, i2))
    go_enter Try.func44, Try.ntmps44
    go_wp2
    go_ret
    exact ⟨ret_bool e.out, ((Below.refl _ _).alloc (Nat.le_refl _) _).alloc (by simp) _⟩
  · by_cases h2 : k1 = k2
    · subst h2
      by_cases h3 : i1 < i2
      · have e : Hid (true = ltB (k1, i1) (k1, i2)) := (by simp [ltB, h3] : true = ltB (k1, i1) (k1, i2))
        go_enter Try.func44, Try.ntmps44
        go_wp2
        go_ret
        exact ⟨ret_bool e.out, ((Below.refl _ _).alloc (Nat.le_refl _) _).alloc (by simp) _⟩
      · have e : Hid (false = ltB (k1, i1) (k1, i2)) := (by simp [ltB, h3] : false = ltB (k1, i1) (k1, i2))
        go_enter Try.func44, Try.ntmps44
        go_wp2
        go_ret
        exact ⟨ret_bool e.out, ((Below.refl _ _).alloc (Nat.le_refl _) _).alloc (by simp) _⟩
    · have e : Hid (false = ltB (k1, i1) (k2, i2)) := (by simp [ltB, h1, h2] : false = ltB (k1, i1) (k2, i2))
      have h2' : (k1 == k2) = false := by simpa using h2
      clear h2
      go_enter Try.func44, Try.ntmps44
      go_wp2
      go_ret
      exact ⟨ret_bool e.out, ((Below.refl _ _).alloc (Nat.le_refl _) _).alloc (by simp) _⟩

def flat (ys : List T) : List Value := ys.flatMap fun p => [.int .i64 p.1, .int .i64 p.2]
theorem flat_cons (p : T) (ys : List T) : flat (p :: ys) = .int .i64 p.1 :: .int .i64 p.2 :: flat ys := rfl
theorem flat_length (ys : List T) : (flat ys).length = ys.length * 2 := by
  induction ys with
  | nil => rfl
  | cons p ys ih => rw [flat_cons]; simp only [List.length_cons, ih]; omega
theorem flat_get : ∀ (ys : List T) (k : Nat), k < ys.length → (flat ys)[k * 2]? = some (.int .i64 (nth ys k).1) ∧ (flat ys)[k * 2 + 1]? = some (.int .i64 (nth ys k).2)
  | [], k, h => by simp at h
  | p :: ys, 0, _ => ⟨rfl, rfl⟩
  | p :: ys, k + 1, h => by
    have := flat_get ys k (by simpa using h)
    rw [flat_cons, show (k + 1) * 2 = k * 2 + 1 + 1 by omega]
    exact this
theorem flat_set : ∀ (ys : List T) (k : Nat) (x : T), ((flat ys).set (k * 2) (.int .i64 x.1)).set (k * 2 + 1) (.int .i64 x.2) = flat (ys.set k x)
  | [], k, x => by simp [flat]
  | p :: ys, 0, x => rfl
  | p :: ys, k + 1, x => by
    have := flat_set ys k x
    rw [flat_cons, List.set_cons_succ, flat_cons, ← this, show (k + 1) * 2 = (k * 2 + 1) + 1 by omega, List.set_cons_succ, List.set_cons_succ, List.set_cons_succ, List.set_cons_succ]
theorem flat_append (ys : List T) (x : T) : flat ys ++ [.int .i64 x.1, .int .i64 x.2] = flat (ys ++ [x]) := by simp [flat]

/-- The array of a heap: block g holds ys. -/
def Arr (w : World) (g cap : Nat) (ys : List T) : Prop := w.ownsRow 0 65 2 (.slice (some ⟨g, 0, none⟩) ys.length cap) ys.length (flat ys)
theorem Arr.key {w : World} {g cap : Nat} {ys : List T} (h : Arr w g cap ys) (k : Nat) (hk : k < ys.length) : w.cell? ⟨g, k * 2, none⟩ = some (.int .i64 (nth ys k).1) :=
  (World.ownsRow.cellAt h (k * 2) (by omega)).trans (flat_get ys k hk).1
theorem Arr.item {w : World} {g cap : Nat} {ys : List T} (h : Arr w g cap ys) (k : Nat) (hk : k < ys.length) : w.cell? ⟨g, k * 2 + 1, none⟩ = some (.int .i64 (nth ys k).2) :=
  (World.ownsRow.cellAt h (k * 2 + 1) (by omega)).trans (flat_get ys k hk).2
theorem Arr.lt {w : World} {g cap : Nat} {ys : List T} (h : Arr w g cap ys) : g < w.heap.size := (World.ownsRow.lt h g rfl).2
theorem Arr.free {w : World} {g cap : Nat} {ys : List T} (h : Arr w g cap ys) (j : Nat) : w.frozen? ⟨g, j, none⟩ = false := World.ownsRow.frozenAt h j
theorem Arr.put {w : World} {g cap : Nat} {ys : List T} (h : Arr w g cap ys) (k : Nat) (x : T) : Arr ((w.setCell ⟨g, k * 2, none⟩ (.int .i64 x.1)).setCell ⟨g, k * 2 + 1, none⟩ (.int .i64 x.2)) g cap (ys.set k x) := by
  have h1 := (World.ownsRow.stored (World.ownsRow.stored h (k * 2) (.int .i64 x.1)).1 (k * 2 + 1) (.int .i64 x.2)).1
  unfold Arr
  rw [List.length_set, ← flat_set]
  exact h1
theorem Arr.le {w : World} {g cap : Nat} {ys : List T} (h : Arr w g cap ys) : ys.length ≤ cap := by
  rcases h.2 with ⟨h', _⟩ | ⟨g', cap', cur, h', hb, hg, hnc, _⟩
  · simp at h'
  · simp only [Value.slice.injEq, Option.some.injEq, Addr.mk.injEq, and_true, true_and] at h'
    obtain ⟨rfl, rfl⟩ := h'
    exact hnc
theorem Arr.frame {S : Nat → Prop} {w w' : World} {g cap : Nat} {ys : List T} (h : Arr w g cap ys) (hf : Fr S w w') (hS : ¬ S g) : Arr w' g cap ys :=
  owns_frame h hf (fun k hk => by simp [Value.ownBlock] at hk; subst hk; exact hS)

theorem flat_take : ∀ (ys : List T) (m : Nat), (flat ys).take (m * 2) = flat (ys.take m)
  | [], m => by simp [flat]
  | p :: ys, 0 => rfl
  | p :: ys, m + 1 => by
    rw [flat_cons, show (m + 1) * 2 = (m * 2 + 1) + 1 by omega, List.take_succ_cons, List.take_succ_cons, flat_take ys m, List.take_succ_cons, flat_cons]
theorem Arr.shrink {w : World} {g cap : Nat} {ys : List T} (h : Arr w g cap ys) (m : Nat) (hm : m ≤ ys.length) : Arr w g cap (ys.take m) := by
  have hl : (ys.take m).length = m := by simp; omega
  refine ⟨flat_length _, ?_⟩
  rcases h.2 with ⟨h', _⟩ | ⟨g', cap', cur, h', hb, hg, hnc, hcm, hcs, htake⟩
  · simp at h'
  · simp only [Value.slice.injEq, Option.some.injEq, Addr.mk.injEq, and_true, true_and] at h'
    obtain ⟨rfl, rfl⟩ := h'
    refine .inr ⟨g, cap, cur, rfl, hb, hg, by omega, hcm, hcs, ?_⟩
    rw [hl, ← flat_take, ← htake, List.take_take]
    congr 1
    omega

set_option maxHeartbeats 400000 in
theorem up_any (b g cap k : Nat) (ys : List T) (w : World) (hk : k < ys.length) (hn : ys.length ≤ 100000) (hs : w.heap[b]? = some (.cells #[.slice (some ⟨g, 0, none⟩) ys.length cap] 62 (0, 0))) (hbg : b ≠ g)
    (ha : Arr w g cap ys) (hu : UpI k ys) :
    Calls Try.prog 43 #[.pointer (some ⟨b, 0, none⟩), .int .i64 k] w fun e w' => e = .returned (.tuple #[]) ∧ Fr (· = g) w w' ∧ ∃ ys', Arr w' g cap ys' ∧ IsH ys' ∧ ys'.Perm ys := by
  have hb := lt_of hs
  go_enter Try.func43, Try.ntmps43
  go_wp2_with fail
  go_step3
  go_wp2_with fail
  go_step3
  go_wp2_with fail
  go_loopw [1] (fun v wr => ∃ (k : Nat) (zs : List T), v = .int .i64 k ∧ k < zs.length ∧ Arr wr g cap zs ∧ UpI k zs ∧ zs.Perm ys ∧ Fr (· = g) w wr) (fun v wr => (intOf v).toNat)
  case atStart => exact ⟨k, ys, rfl, hk, ha, hu, List.Perm.refl _, Fr.refl _ _⟩
  case round =>
    obtain ⟨k, zs, rfl, hk, ha, hu, hp, hf⟩ := hrel
    have hlen := hp.length_eq
    have hs' : wr.cell? ⟨b, 0, none⟩ = some (.slice (some ⟨g, 0, none⟩) zs.length cap) := by
      rw [hf.cell hb hbg, cell_of hs, hlen]; rfl
    have hz : zs.length ≤ 100000 := by omega
    have HL := Lib.hid hlen
    clear hlen
    by_cases h0 : 0 < k
    · obtain ⟨o, he⟩ : ∃ o : Nat, o = (k - 1) / 2 := ⟨_, rfl⟩
      have ho : o < zs.length := by omega
      have k1 := ha.key k hk
      have i1 := ha.item k hk
      have k2 := ha.key o ho
      have i2 := ha.item o ho
      have hco : ((k : Int) - 1) / 2 = (o : Int) := by omega
      have HE := Lib.hid he
      have HCO := Lib.hid hco
      clear he hco
      go_wp2_with fail
      rw [HCO.out]
      refine Mix.region [0, 0, 0, 0, 0, 0, 0, 0, 0, 0, 0, 0, 0, 0, 2, 0] (fun _ => True) (by kernel_rfl) (by kernel_rfl) trivial ?_
      simp only [List.zip_cons_cons, List.zip_nil_right]
      iterate 14 (refine Mix.step0 fun K hK => ?_; go_simp; (try (go_bits; try go_simp)); first | ((with_reducible refine hK _ _ ?_); clear hK K) | ((try (simp only [IntWalk.iteOmega]; try go_simp)); (try go_bits); (with_reducible refine hK _ _ ?_); clear hK K))
      refine Mix.step2n (by first | rfl | simp [Region.wanted, yielded]) fun K hK => ?_
      go_wp2_with fail
      refine (ahead_any _ _ _ _ _).mono ?_
      rintro e w1 ⟨rfl, hbel'⟩
      have hbel := below_drew hbel'
      clear hbel'
      go_wp2_with fail
      refine Mix.post_mk (C := (fun _ => True)) trivial (hK _ _ ?_)
      clear hK K
      iterate 1 (refine Mix.step0 fun K hK => ?_; go_simp; (try (go_bits; try go_simp)); first | ((with_reducible refine hK _ _ ?_); clear hK K) | ((try (simp only [IntWalk.iteOmega]; try go_simp)); (try go_bits); (with_reducible refine hK _ _ ?_); clear hK K))
      refine Mix.done ?_
      cases hlt : ltB (nth zs k) (nth zs o)
      · have HLT := Lib.hid hlt
        clear hlt
        go_wp2_with fail
        rw [Exit.noGoto_normal]
        go_end0
        have he := HE.out
        subst he
        exact ⟨rfl, hf.trans (Fr.below hbel) (fun _ _ h => h), zs, ha.frame (S := fun _ => False) (Fr.below hbel) id, up_done hu HLT.out, hp⟩
      · have ha1 : Arr w1 g cap zs := ha.frame (S := fun _ => False) (Fr.below hbel) id
        have hs1 : w1.cell? ⟨b, 0, none⟩ = some (.slice (some ⟨g, 0, none⟩) zs.length cap) := by
          rw [Below.cell hbel (Nat.lt_of_lt_of_le hb hf.size)]; exact hs'
        have k1 := ha1.key k hk
        have i1 := ha1.item k hk
        have k2 := ha1.key o ho
        have i2 := ha1.item o ho
        have hfr := fun j => ha1.free j
        have HLT := Lib.hid hlt
        clear hlt hs'
        go_wp2_with fail
        refine Mix.region [0, 0, 0, 0, 0, 0, 0, 0, 0, 1, 0, 0, 0, 0, 0, 0, 0, 0, 0, 0, 0, 0, 0, 0, 0, 2, 0, 2] (fun _ => True) (by kernel_rfl) (by kernel_rfl) trivial ?_
        simp only [List.zip_cons_cons, List.zip_nil_right]
        iterate 9 (refine Mix.step0 fun K hK => ?_; go_simp; (try (go_bits; try go_simp)); first | ((with_reducible refine hK _ _ ?_); clear hK K) | ((try (simp only [IntWalk.iteOmega]; try go_simp)); (try go_bits); (with_reducible refine hK _ _ ?_); clear hK K))
        iterate 1 (refine Mix.step1 fun K hK => ?_; go_simp; (try (go_bits; try go_simp)); first | ((with_reducible refine hK _ _ ?_); clear hK K) | ((try (simp only [IntWalk.iteOmega]; try go_simp)); (try go_bits); (with_reducible refine hK _ _ ?_); clear hK K))
        iterate 15 (refine Mix.step0 fun K hK => ?_; go_simp; (try (go_bits; try go_simp)); first | ((with_reducible refine hK _ _ ?_); clear hK K) | ((try (simp only [IntWalk.iteOmega]; try go_simp)); (try go_bits); (with_reducible refine hK _ _ ?_); clear hK K))
        refine Mix.step2n (by first | rfl | simp [Region.wanted, yielded]) fun K hK => ?_
        go_wp2_with fail
        generalize hW2 : World.drew _ = w2
        have ha2 : Arr w2 g cap (zs.set k (nth zs o)) := by rw [← hW2]; exact ha1.put k (nth zs o)
        have hF2 : Fr (· = g) w1 w2 := by
          rw [← hW2]
          exact (Fr.set2 _ _ _ _ _ _).to_drew
        clear hW2 k1 i1 k2 i2 hfr
        have hl2 : o < (zs.set k (nth zs o)).length := by simpa using ho
        have k2 := ha2.key o hl2
        have i2 := ha2.item o hl2
        have hfr := fun j => ha2.free j
        refine Mix.post_mk (C := (fun _ => True)) trivial (hK _ _ ?_)
        clear hK K
        iterate 1 (refine Mix.step0 fun K hK => ?_; go_simp; (try (go_bits; try go_simp)); first | ((with_reducible refine hK _ _ ?_); clear hK K) | ((try (simp only [IntWalk.iteOmega]; try go_simp)); (try go_bits); (with_reducible refine hK _ _ ?_); clear hK K))
        refine Mix.step2n (by first | rfl | simp [Region.wanted, yielded]) fun K hK => ?_
        go_wp2_with fail
        generalize hW3 : World.setCell _ _ _ = w3
        have ha3 : Arr w3 g cap (sw zs k o) := by rw [← hW3]; exact ha2.put o (nth zs k)
        have hF3 : Fr (· = g) w1 w3 := by
          rw [← hW3]
          exact hF2.trans (Fr.set2 _ _ _ _ _ _) (fun _ _ h => h)
        clear hW3 k2 i2 hfr
        refine Mix.post_mk (C := (fun _ => True)) trivial (hK _ _ ?_)
        clear hK K
        refine Mix.done ?_
        go_wp2_with fail
        go_roundw
        case measure => have := HE.out; simp [intOf]; omega
        case rel =>
          have he := HE.out
          subst he
          exact ⟨_, sw zs k ((k - 1) / 2), rfl, by rw [sw_length]; exact ho, ha3, up_step hu h0 hk HLT.out, (sw_perm hk ho).trans hp,
            hf.trans ((Fr.below hbel).trans hF3 (fun _ _ h => h)) (fun _ _ h => h)⟩
    · have hk0 : k = 0 := by omega
      have HK0 := Lib.hid hk0
      clear hk0
      go_wp2
      rw [Exit.noGoto_normal]
      go_end0
      have hk0 := HK0.out
      subst hk0
      exact ⟨rfl, hf, zs, ha, up_done0 hu, hp⟩
end Go.Proofs.Ytfafecgnjjkagaa
