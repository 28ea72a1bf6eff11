/-
  The walks of package heap, second part: down.
-/
import Derived.Test.YtfafecgnjjkagaaHW1
import Derived.Deep.DeepCutAuto
namespace Go.Proofs.Ytfafecgnjjkagaa
open Go Go.RowKit Go.Mem Go.HeapP

/-- Which one below k is the lesser one. -/
def sel (k : Nat) (zs : List T) : Nat := if (decide (2 * k + 2 < zs.length) && ltB (nth zs (2 * k + 2)) (nth zs (2 * k + 1))) = true then 2 * k + 2 else 2 * k + 1
theorem sel_min {k : Nat} {zs : List T} (j : Nat) (hj : 0 < j) (hl : j < zs.length) (hp : (j - 1) / 2 = k) : le (nth zs (sel k zs)) (nth zs j) := by
  have hj' : j = 2 * k + 1 ∨ j = 2 * k + 2 := by omega
  unfold sel
  by_cases h : (decide (2 * k + 2 < zs.length) && ltB (nth zs (2 * k + 2)) (nth zs (2 * k + 1))) = true
  · rw [if_pos h]
    simp only [Bool.and_eq_true, decide_eq_true_eq] at h
    rcases hj' with rfl | rfl
    · exact le_of_lt h.2
    · exact le_refl _
  · rw [if_neg h]
    rcases hj' with rfl | rfl
    · exact le_refl _
    · simp only [Bool.and_eq_true, decide_eq_true_eq, not_and, Bool.not_eq_true] at h
      exact h hl

set_option maxHeartbeats 1000000 in
set_option maxRecDepth 100000 in
theorem down_any (b g cap k : Nat) (ys : List T) (w : World) (hk : k < ys.length ∨ ys.length = 0) (hn : ys.length ≤ 100000) (hs : w.heap[b]? = some (.cells #[.slice (some ⟨g, 0, none⟩) ys.length cap] 62 (0, 0))) (hbg : b ≠ g)
    (ha : Arr w g cap ys) (hu : DownI k ys) (hk1 : k ≤ 100000) :
    Calls Try.prog 37 #[.pointer (some ⟨b, 0, none⟩), .int .i64 k] w fun e w' => e = .returned (.tuple #[]) ∧ Fr (· = g) w w' ∧ ∃ ys', Arr w' g cap ys' ∧ IsH ys' ∧ ys'.Perm ys := by
  have hb := lt_of hs
  go_enter Try.func37, Try.ntmps37
  go_wp2_with fail
  go_step3
  go_wp2_with fail
  go_step3
  go_wp2_with fail
  go_loopw [1] (fun v wr => ∃ (k : Nat) (zs : List T), v = .int .i64 k ∧ (k < zs.length ∨ zs.length = 0) ∧ k ≤ 100000 ∧ Arr wr g cap zs ∧ DownI k zs ∧ zs.Perm ys ∧ Fr (· = g) w wr) (fun v wr => 100001 - (intOf v).toNat)
  case atStart => exact ⟨k, ys, rfl, hk, hk1, ha, hu, List.Perm.refl _, Fr.refl _ _⟩
  case round =>
    obtain ⟨k, zs, rfl, hk, hk1, ha, hu, hp, hf⟩ := hrel
    have hlen := hp.length_eq
    have hs' : wr.cell? ⟨b, 0, none⟩ = some (.slice (some ⟨g, 0, none⟩) zs.length cap) := by
      rw [hf.cell hb hbg, cell_of hs, hlen]; rfl
    have hz : zs.length ≤ 100000 := by omega
    have HL := Lib.hid hlen
    clear hlen
    have HK := Lib.hid hk
    clear hk
    have hbr : b < wr.heap.size := Nat.lt_of_lt_of_le hb hf.size
    obtain ⟨o, he⟩ : ∃ o : Nat, o = 2 * k + 1 := ⟨_, rfl⟩
    have hco : 2 * (k : Int) + 1 = (o : Int) := by omega
    have ho1 : o ≤ 200001 := by omega
    have h01 : o < zs.length ∨ ¬ o < zs.length := Classical.em _
    by_cases h0 : 2 * k + 1 < zs.length
    · have h1 : o < zs.length := by omega
      have hkl : k < zs.length := by omega
      have HE := Lib.hid he
      have HCO := Lib.hid hco
      clear he hco h01
      go_upto_region 2 with fail
      rw [HCO.out]
      go_cut [40] (fun s40 wx => ∃ t : Bool, s40 = .bool t ∧ Hid (t = (decide (2 * k + 2 < zs.length) && ltB (nth zs (2 * k + 2)) (nth zs (2 * k + 1)))) ∧ Fr (fun _ => False) wr wx)
      case first =>

        have k1 := ha.key o h1
        have i1 := ha.item o h1
        by_cases h2 : o + 1 < zs.length
        · have k2 := ha.key (o + 1) h2
          have i2 := ha.item (o + 1) h2
          have hd : ((o : Int) + 1 < (zs.length : Int)) := by omega
          refine Mix.region [0, 0, 0, 0, 0, 0, 0, 0, 0, 0, 0, 0, 0, 0, 0, 0, 0, 0, 0, 0, 0, 0, 0, 0, 2, 0] (fun _ => True) (by kernel_rfl) (by kernel_rfl) trivial ?_
          simp only [List.zip_cons_cons, List.zip_nil_right]
          iterate 9 (refine Mix.step0 fun K hK => ?_; go_simp; (try (go_bits; try go_simp)); first | ((with_reducible refine hK _ _ ?_); clear hK K) | ((try (simp only [IntWalk.iteOmega]; try go_simp)); (try go_bits); (with_reducible refine hK _ _ ?_); clear hK K))
          iterate 15 (first | (refine Mix.stepS rfl fun K hK => ?_; go_simp; (with_reducible refine hK _ _ ?_); clear hK K) | (refine Mix.step0 fun K hK => ?_; go_simp; (try (go_bits; try go_simp)); first | ((with_reducible refine hK _ _ ?_); clear hK K) | ((try (simp only [IntWalk.iteOmega]; try go_simp)); (try go_bits); (with_reducible refine hK _ _ ?_); clear hK K)))
          refine Mix.step2n (by first | rfl | simp [Region.wanted, yielded]) fun K hK => ?_
          go_wp2_with fail
          refine (ahead_any _ _ _ _ _).mono ?_
          rintro e w1 ⟨rfl, hbel'⟩
          have hbel := below_drew hbel'
          clear hbel'
          go_wp2_with fail
          refine Mix.post_mk (C := (fun _ => True)) trivial (hK _ _ ?_)
          clear hK K
          iterate 1 (refine Mix.step0 fun K hK => ?_; go_simp; (try (go_bits; try go_simp)); first | ((with_reducible refine hK _ _ ?_); clear hK K) | ((try (simp only [IntWalk.iteOmega]; try go_simp)); (try go_bits); (with_reducible refine hK _ _ ?_); clear hK K))
          refine Mix.done ?_
          go_wp2_with fail
          go_meet
          case rel =>
            have he := HE.out
            subst he
            exact ⟨_, rfl, (by rw [decide_eq_true h2, Bool.true_and] : _ = _), Fr.below hbel⟩
        · have hd : ¬ ((o : Int) + 1 < (zs.length : Int)) := by omega
          refine Mix.region [0, 0, 0, 0, 0, 0, 0, 0, 0, 0, 0, 0, 0, 0, 0, 0, 0, 0, 0, 0, 0, 0, 0, 0, 2, 0] (fun _ => True) (by kernel_rfl) (by kernel_rfl) trivial ?_
          simp only [List.zip_cons_cons, List.zip_nil_right]
          iterate 9 (refine Mix.step0 fun K hK => ?_; go_simp; (try (go_bits; try go_simp)); first | ((with_reducible refine hK _ _ ?_); clear hK K) | ((try (simp only [IntWalk.iteOmega]; try go_simp)); (try go_bits); (with_reducible refine hK _ _ ?_); clear hK K))
          iterate 15 (first | (refine Mix.stepS rfl fun K hK => ?_; go_simp; (with_reducible refine hK _ _ ?_); clear hK K) | (refine Mix.step0 fun K hK => ?_; go_simp; (try (go_bits; try go_simp)); first | ((with_reducible refine hK _ _ ?_); clear hK K) | ((try (simp only [IntWalk.iteOmega]; try go_simp)); (try go_bits); (with_reducible refine hK _ _ ?_); clear hK K)))
          refine Mix.step2s (by first | rfl | simp [Region.wanted, yielded]) ?_
          iterate 1 (refine Mix.step0 fun K hK => ?_; go_simp; (try (go_bits; try go_simp)); first | ((with_reducible refine hK _ _ ?_); clear hK K) | ((try (simp only [IntWalk.iteOmega]; try go_simp)); (try go_bits); (with_reducible refine hK _ _ ?_); clear hK K))
          refine Mix.done ?_
          go_wp2_with fail
          go_meet
          case rel =>
            have he := HE.out
            subst he
            exact ⟨_, rfl, (by rw [decide_eq_false h2, Bool.false_and] : _ = _), (Fr.refl _ _).to_drew⟩
      case rest =>
        obtain ⟨t, rfl, ht, hfx⟩ := hcut
        go_upto_if 40 with fail
        go_cut [4] (fun s4 wx => ∃ d : Nat, s4 = .int .i64 d ∧ Hid (d = sel k zs) ∧ Fr (fun _ => False) wr wx)
        case first =>
          have he := HE.out
          cases t
          · go_wp2_with fail
            go_meet
            case rel => exact ⟨o, rfl, (by unfold sel; rw [if_neg (by rw [← ht.out]; simp)]; exact he : o = sel k zs), hfx⟩
          · have he' : o + 1 = sel k zs := by unfold sel; rw [if_pos ht.out.symm, he]
            have HE' := Lib.hid he'
            clear he he' HE HCO ht
            go_wp2_with fail
            go_meet
            case rel => exact ⟨o + 1, rfl, HE', hfx⟩
        case rest =>
        obtain ⟨d, rfl, hd, hfx⟩ := hcut
        have hdl : d < zs.length := by
          rw [hd.out]; unfold sel; split
          · rename_i h; simp only [Bool.and_eq_true, decide_eq_true_eq] at h; omega
          · omega
        have hdp : 0 < d ∧ (d - 1) / 2 = k := by rw [hd.out]; unfold sel; split <;> omega
        have HDP := Lib.hid hdp
        clear hdp ht hs'
        have ha1 : Arr wc g cap zs := ha.frame hfx id
        have hs1 : wc.cell? ⟨b, 0, none⟩ = some (.slice (some ⟨g, 0, none⟩) zs.length cap) := by
          rw [hfx.cell hbr id, hf.cell hb hbg, cell_of hs, HL.out]; rfl
        have k1 := ha1.key k hkl
        have i1 := ha1.item k hkl
        have k2 := ha1.key d hdl
        have i2 := ha1.item d hdl
        go_wp2_with fail
        refine Mix.region [0, 0, 0, 0, 0, 0, 0, 0, 0, 0, 0, 0, 0, 0, 2, 0] (fun _ => True) (by kernel_rfl) (by kernel_rfl) trivial ?_
        simp only [List.zip_cons_cons, List.zip_nil_right]
        iterate 14 (refine Mix.step0 fun K hK => ?_; go_simp; (try (go_bits; try go_simp)); first | ((with_reducible refine hK _ _ ?_); clear hK K) | ((try (simp only [IntWalk.iteOmega]; try go_simp)); (try go_bits); (with_reducible refine hK _ _ ?_); clear hK K))
        refine Mix.step2n (by first | rfl | simp [Region.wanted, yielded]) fun K hK => ?_
        go_wp2_with fail
        refine (ahead_any _ _ _ _ _).mono ?_
        rintro e w1 ⟨rfl, hbel'⟩
        have hbel := below_drew hbel'
        clear hbel'
        go_wp2_with fail
        refine Mix.post_mk (C := (fun _ => True)) trivial (hK _ _ ?_)
        clear hK K
        iterate 1 (refine Mix.step0 fun K hK => ?_; go_simp; (try (go_bits; try go_simp)); first | ((with_reducible refine hK _ _ ?_); clear hK K) | ((try (simp only [IntWalk.iteOmega]; try go_simp)); (try go_bits); (with_reducible refine hK _ _ ?_); clear hK K))
        refine Mix.done ?_
        cases hlt : ltB (nth zs d) (nth zs k)
        · have HLT := Lib.hid hlt
          clear hlt
          go_wp2_with fail
          rw [Exit.noGoto_normal]
          go_end0
          refine ⟨rfl, (hf.trans hfx (fun _ _ h => h.elim)).trans (Fr.below hbel) (fun _ _ h => h), zs, ha1.frame (S := fun _ => False) (Fr.below hbel) id, down_done hu (fun j hj hl hp => ?_), hp⟩
          exact le_trans (HLT.out : le (nth zs k) (nth zs d)) (by rw [hd.out]; exact sel_min j hj hl hp)
        · have ha2 : Arr w1 g cap zs := ha1.frame (S := fun _ => False) (Fr.below hbel) id
          have hs2 : w1.cell? ⟨b, 0, none⟩ = some (.slice (some ⟨g, 0, none⟩) zs.length cap) := by
            rw [Below.cell hbel (Nat.lt_of_lt_of_le hbr hfx.size)]; exact hs1
          clear k1 i1 k2 i2
          have k1 := ha2.key k hkl
          have i1 := ha2.item k hkl
          have k2 := ha2.key d hdl
          have i2 := ha2.item d hdl
          have hfr := fun j => ha2.free j
          have HLT := Lib.hid hlt
          clear hlt hs1
          go_wp2_with fail
          refine Mix.region [0, 0, 0, 0, 0, 0, 0, 0, 0, 1, 0, 0, 0, 0, 0, 0, 0, 0, 0, 0, 0, 0, 0, 0, 0, 2, 0, 2] (fun _ => True) (by kernel_rfl) (by kernel_rfl) trivial ?_
          simp only [List.zip_cons_cons, List.zip_nil_right]
          iterate 9 (refine Mix.step0 fun K hK => ?_; go_simp; (try (go_bits; try go_simp)); first | ((with_reducible refine hK _ _ ?_); clear hK K) | ((try (simp only [IntWalk.iteOmega]; try go_simp)); (try go_bits); (with_reducible refine hK _ _ ?_); clear hK K))
          iterate 1 (refine Mix.step1 fun K hK => ?_; go_simp; (try (go_bits; try go_simp)); first | ((with_reducible refine hK _ _ ?_); clear hK K) | ((try (simp only [IntWalk.iteOmega]; try go_simp)); (try go_bits); (with_reducible refine hK _ _ ?_); clear hK K))
          iterate 15 (refine Mix.step0 fun K hK => ?_; go_simp; (try (go_bits; try go_simp)); first | ((with_reducible refine hK _ _ ?_); clear hK K) | ((try (simp only [IntWalk.iteOmega]; try go_simp)); (try go_bits); (with_reducible refine hK _ _ ?_); clear hK K))
          refine Mix.step2n (by first | rfl | simp [Region.wanted, yielded]) fun K hK => ?_
          go_wp2_with fail
          generalize hW2 : World.drew _ = w2
          have ha3 : Arr w2 g cap (zs.set k (nth zs d)) := by rw [← hW2]; exact ha2.put k (nth zs d)
          have hF2 : Fr (· = g) w1 w2 := by
            rw [← hW2]
            exact (Fr.set2 _ _ _ _ _ _).to_drew
          clear hW2 k1 i1 k2 i2 hfr
          have hl2 : d < (zs.set k (nth zs d)).length := by simpa using hdl
          have k2 := ha3.key d hl2
          have i2 := ha3.item d hl2
          have hfr := fun j => ha3.free j
          refine Mix.post_mk (C := (fun _ => True)) trivial (hK _ _ ?_)
          clear hK K
          iterate 1 (refine Mix.step0 fun K hK => ?_; go_simp; (try (go_bits; try go_simp)); first | ((with_reducible refine hK _ _ ?_); clear hK K) | ((try (simp only [IntWalk.iteOmega]; try go_simp)); (try go_bits); (with_reducible refine hK _ _ ?_); clear hK K))
          refine Mix.step2n (by first | rfl | simp [Region.wanted, yielded]) fun K hK => ?_
          go_wp2_with fail
          generalize hW3 : World.setCell _ _ _ = w3
          have ha4 : Arr w3 g cap (sw zs k d) := by rw [← hW3]; exact ha3.put d (nth zs k)
          have hF3 : Fr (· = g) w1 w3 := by
            rw [← hW3]
            exact hF2.trans (Fr.set2 _ _ _ _ _ _) (fun _ _ h => h)
          clear hW3 k2 i2 hfr
          refine Mix.post_mk (C := (fun _ => True)) trivial (hK _ _ ?_)
          clear hK K
          refine Mix.done ?_
          go_wp2_with fail
          go_roundw
          case measure => have := HDP.out; simp [intOf]; omega
          case rel =>
            refine ⟨_, sw zs k d, rfl, .inl (by rw [sw_length]; exact hdl), by omega, ha4, down_step hu hkl hdl HDP.out.2 HDP.out.1 (fun j hj hl hp => ?_) HLT.out, (sw_perm hkl hdl).trans hp,
              ((hf.trans hfx (fun _ _ h => h.elim)).trans (Fr.below hbel) (fun _ _ h => h)).trans hF3 (fun _ _ h => h)⟩
            rw [hd.out]; exact sel_min j hj hl hp
    · have HE := Lib.hid he
      have HCO := Lib.hid hco
      clear he hco h01
      go_wp2
      rw [Exit.noGoto_normal]
      go_end0
      exact ⟨rfl, hf, zs, ha, down_done hu (fun j hj hl hp => by omega), hp⟩
end Go.Proofs.Ytfafecgnjjkagaa
