/-
  Package archive, walked: List.
-/
import Derived.Test.YtfnkmkfkomhhnaaVW5
namespace Go.Proofs.Ytfnkmkfkomhhnaa
open Go Go.RowKit Go.Mem Go.NetP Go.CertP Go.ArchP

theorem Try.infoRov : (Try.prog.info? 39).map (fun i => (i.zero, i.size, i.bytes)) = some (some (.agg #[.int .u64 0, .int .i64 0, .bool false, .slice none 0 0, .int .i64 0, .slice none 0 0, .slice none 0 0, .slice none 0 0]), 8, 128) := by kernel_rfl
/-- Rounds with lists of their own. -/
abbrev bag (rs : List Ro) : Thing := bagT 27 70 2 rs
set_option maxHeartbeats 2000000 in
theorem list_nil (w : World) : Calls Try.prog 13 #[.pointer none] w fun en w' => en = .returned (.slice none 0 0) ∧ w' = w := by
  go_enter Try.func13, Try.ntmps13
  go_wp2_with fail
  go_ret
  exact ⟨rfl, rfl⟩
/-- What is kept, the oldest first. -/
def keptL (ks : List Ro) (D n : Nat) : List Co := (List.range n).map fun i => (ks.getD ((D + 1 + i) % 4) default).co
theorem kept_take (ks : List Ro) (D n i : Nat) (hi : i < n) : (keptL ks D n).take (i + 1) = (keptL ks D n).take i ++ [(ks.getD ((D + 1 + i) % 4) default).co] := by
  have hl : i < (keptL ks D n).length := by simpa [keptL] using hi
  rw [List.take_succ_eq_append_getElem hl]
  simp [keptL]
set_option maxHeartbeats 4000000 in
theorem list_any (b : Nat) (ks : List Ro) (n D : Nat) (w : World) (hA : w.heap[b]? = some (.cells (roR.flat ks ++ [Value.int .u64 n, Value.int .u64 (D + n : Nat)]).toArray 59 (0, 0))) (h4 : ks.length = 4) (hn : n ≤ 4) (hD : D ≤ 4611686018427387905) (hok : ∀ r ∈ ks, r.Ok w) (hsm : ∀ r ∈ ks, r.small) :
    Calls Try.prog 13 #[.pointer (some ⟨b, 0, none⟩)] w fun en w' => ∃ v rs, en = .returned v ∧ rs.map Ro.co = keptL ks D n ∧ Sep w w' [recT roR 39 v rs, bag rs] := by
  obtain ⟨i0, hi0, hz0, hz1, hz2⟩ := info_parts Try.infoRov
  obtain ⟨hn0, hno0⟩ := arch_n h4 hA
  have hb := lt_of hA
  have HA := Lib.hid hA
  have HOK := Lib.hid hok
  have HSM := Lib.hid hsm
  clear hA hok hsm
  go_enter Try.func13, Try.ntmps13
  go_wp2_with fail
  refine wp_loopM [none, none, some 2, some 3, none, none, none, none, none, none, some 10, some 11, some 12, some 13, some 14, some 15, some 16, some 17, some 18, some 19, some 20, some 21, some 22, some 23, some 24, some 25, some 26, some 27, some 28, some 29, some 30, some 31, some 32, some 33, some 34, some 35, none] (fun (r : Nat) (f : Nat → Value) (wr : World) => (fun (vo v : Value) => ∃ (i : Nat) (rs : List Ro), v = .int .u64 i ∧ i ≤ n ∧ r = n - i ∧ rs.map Ro.co = (keptL ks D n).take i ∧ Sep w wr [recT roR 39 vo rs, bag rs]) (f 2) (f 10)) (n) (by kernel_rfl) ?atStart1 ?round1
  case' atStart1 => (try dsimp only [nthV])
  case' round1 =>
    intro gk f wr l hl hrel J1 K1 hJ1 hK1
    (try simp only [mask] at hl)
    generalize f 2 = u2 at hl hrel
    generalize f 10 = u10 at hl hrel
    subst hl
    (try dsimp only at hrel)
  case atStart1 => exact ⟨0, [], rfl, Nat.zero_le _, rfl, rfl, (Sep.bagNil (Sep.start w)).nilRecs roR _⟩
  case round1 =>
    obtain ⟨i, rs, rfl, hi, rfl, hrs, hs⟩ := hrel
    have HRS := Lib.hid hrs
    clear hrs
    by_cases hlt : i < n
    · have hki : (D + 1 + i) % 4 < 4 := Nat.mod_lt _ (by decide)
      obtain ⟨k, hk⟩ : ∃ k, k = (D + 1 + i) % 4 := ⟨_, rfl⟩
      have hkl : k < ks.length := by omega
      have hA := HA.out
      have hsd := hs.drew
      have hn1 := (hsd.cell (o := 32) hb).trans hn0
      have hno1 := (hsd.cell (o := 33) hb).trans hno0
      have y0 := (hsd.cell (o := k * 8) hb).trans (arch_cell hA k hkl 0 (by decide))
      have y1 := (hsd.cell (o := k * 8 + 1) hb).trans (arch_cell hA k hkl 1 (by decide))
      have y2 := (hsd.cell (o := k * 8 + 2) hb).trans (arch_cell hA k hkl 2 (by decide))
      have y3 := (hsd.cell (o := k * 8 + 3) hb).trans (arch_cell hA k hkl 3 (by decide))
      have y4 := (hsd.cell (o := k * 8 + 4) hb).trans (arch_cell hA k hkl 4 (by decide))
      have y5 := (hsd.cell (o := k * 8 + 5) hb).trans (arch_cell hA k hkl 5 (by decide))
      have y6 := (hsd.cell (o := k * 8 + 6) hb).trans (arch_cell hA k hkl 6 (by decide))
      have y7 := (hsd.cell (o := k * 8 + 7) hb).trans (arch_cell hA k hkl 7 (by decide))
      have hkd : ks.getD k default = ks[k] := by simp [hkl]
      obtain ⟨K, hK⟩ : ∃ K, K = ks[k] := ⟨_, rfl⟩
      rw [← hK] at y0 y1 y2 y3 y4 y5 y6 y7 hkd
      have hKm : K ∈ ks := by rw [hK]; exact List.getElem_mem hkl
      have OWN := Lib.hid (own_any K _ ((HOK.out K hKm).sep hsd) (HSM.out K hKm))
      have HKD := Lib.hid (show (keptL ks D n).take (i + 1) = (keptL ks D n).take i ++ [K.co] by rw [kept_take _ _ _ _ hlt, ← hk, hkd])
      have HRL := Lib.hid (show rs.length = i by have := congrArg List.length HRS.out; simpa [keptL, Nat.min_eq_left hi] using this)
      clear hK hKm hkd hA
      rw [hk] at y0 y1 y2 y3 y4 y5 y6 y7
      clear hk hkl
      obtain ⟨kno, kday, kcomp, ai, ci, ids, kn, ae, ce, es, af, cf, fl, ap, cp, pot⟩ := K
      simp only [roR, List.getElem?_cons_zero, List.getElem?_cons_succ, Nat.add_zero] at y0 y1 y2 y3 y4 y5 y6 y7
      dsimp only [Ro.val] at OWN
      obtain ⟨vl, cl, rfl⟩ := (hs.rdRecs 0 rfl).shape
      rw [HRL.out] at hs hsd ⊢
      go_wp2_with fail
      refine Mix.region [1, 0, 0, 0, 0, 0, 0, 0, 0, 0, 0, 0, 0, 0, 0, 0, 0, 0, 0, 2, 2, 2, 0] (fun _ => True) (by kernel_rfl) (by kernel_rfl) trivial ?_
      simp only [List.zip_cons_cons, List.zip_nil_right]
      iterate 1 (refine Mix.step1 fun K hK => ?_; go_simp; (try (go_bits; try go_simp)); first | ((with_reducible refine hK _ _ ?_); clear hK K) | ((try (simp only [IntWalk.iteOmega]; try go_simp)); (try go_bits); (with_reducible refine hK _ _ ?_); clear hK K))
      iterate 18 (refine Mix.step0 fun K hK => ?_; go_simp; (try (go_bits; try go_simp)); first | ((with_reducible refine hK _ _ ?_); clear hK K) | ((try (simp only [IntWalk.iteOmega]; try go_simp)); (try go_bits); (with_reducible refine hK _ _ ?_); clear hK K))
      refine Mix.step2n (by first | rfl | simp [Region.wanted, yielded]) fun K hK => ?_
      go_wp2_with fail
      refine (OWN.out).mono ?_
      rintro en w1 ⟨r1, hco, rfl, k1⟩
      have HCO := Lib.hid hco
      obtain ⟨xno, xday, xcomp, a1, c1, xids, xn, a2, c2, xes, a3, c3, xfl, a4, c4, xpot⟩ := r1
      have hs2 := hsd.join k1
      simp only [List.cons_append, List.nil_append] at hs2
      clear hsd hs hco k1 OWN y0 y1 y2 y3 y4 y5 y6 y7 hn1 hno1
      dsimp only [Ro.val]
      go_wp2_with fail
      refine Mix.post_mk (C := (fun _ => True)) trivial (hK _ _ ?_)
      clear hK K
      refine Mix.step2n (by first | rfl | simp [Region.wanted, yielded]) fun K hK => ?_
      go_wp2_with fail
      have hsa := hs2.alloc (.cells #[.int .u64 xno, .int .i64 xday, .bool xcomp, .slice a1 xids.length c1, .int .i64 xn, .slice a2 xes.length c2, .slice a3 xfl.length c3, .slice a4 xpot.length c4] 39)
      have hBB : (w1.alloc (.cells #[.int .u64 xno, .int .i64 xday, .bool xcomp, .slice a1 xids.length c1, .int .i64 xn, .slice a2 xes.length c2, .slice a3 xfl.length c3, .slice a4 xpot.length c4] 39)).heap[w1.heap.size]? = some (.cells #[.int .u64 xno, .int .i64 xday, .bool xcomp, .slice a1 xids.length c1, .int .i64 xn, .slice a2 xes.length c2, .slice a3 xfl.length c3, .slice a4 xpot.length c4] 39 (0, 0)) := heap_alloc_new w1 _
      clear hs2
      refine Mix.post_mk (C := (fun _ => True)) trivial (hK _ _ ?_)
      clear hK K
      refine Mix.step2n (by first | rfl | simp [Region.wanted, yielded]) fun K hK => ?_
      refine wpList_appRecB roR rfl (.tmp 13) (.tmp 33) 22 rfl 39 i0 _ 128 Try.underlying22 hi0 hz0 hz1 hz2 rfl _ rs ⟨xno, xday, xcomp, a1, c1, xids, xn, a2, c2, xes, a3, c3, xfl, a4, c4, xpot⟩ hsa 1 rfl w1.heap.size _ rfl hBB rfl rfl (by rw [HRL.out]; (try simp only [maxLen]); omega) (by rw [HRL.out]; omega) ?_
      intro vo w4 hs4 HSH
      simp only [List.set_cons_succ, List.set_cons_zero] at hs4
      have hs5 : Sep w w4 [recT roR 39 vo (rs ++ [⟨xno, xday, xcomp, a1, c1, xids, xn, a2, c2, xes, a3, c3, xfl, a4, c4, xpot⟩]), bag (rs ++ [⟨xno, xday, xcomp, a1, c1, xids, xn, a2, c2, xes, a3, c3, xfl, a4, c4, xpot⟩])] := Sep.bagAdd1 hs4
      have HR2 := Lib.hid (show (rs ++ [(⟨xno, xday, xcomp, a1, c1, xids, xn, a2, c2, xes, a3, c3, xfl, a4, c4, xpot⟩ : Ro)]).map Ro.co = (keptL ks D n).take (i + 1) by rw [List.map_append, HRS.out, HKD.out, ← HCO.out]; rfl)
      clear hsa hBB hs4
      generalize rs ++ [(⟨xno, xday, xcomp, a1, c1, xids, xn, a2, c2, xes, a3, c3, xfl, a4, c4, xpot⟩ : Ro)] = rs2 at hs5 HR2
      go_wp2_with fail
      refine Mix.post_mk (C := (fun _ => True)) trivial (hK _ _ ?_)
      clear hK K
      iterate 1 (refine Mix.step0 fun K hK => ?_; go_simp; (try (go_bits; try go_simp)); first | ((with_reducible refine hK _ _ ?_); clear hK K) | ((try (simp only [IntWalk.iteOmega]; try go_simp)); (try go_bits); (with_reducible refine hK _ _ ?_); clear hK K))
      refine Mix.done ?_
      go_wp2_with fail
      refine Round.intro (n - (i + 1)) ?measure2 (by kernel_rfl) (hJ1 _ _ _ ?rel2)
      case' rel2 => (try dsimp only [nthV])
      case measure2 => omega
      case rel2 => exact ⟨i + 1, rs2, by go_num, hlt, rfl, HR2.out, hs5⟩
    · obtain rfl : i = n := by omega
      go_wp2_with fail
      go_ret
      exact ⟨_, rfl, rs, by rw [HRS.out, List.take_of_length_le (by simp [keptL])], hs⟩
end Go.Proofs.Ytfnkmkfkomhhnaa
