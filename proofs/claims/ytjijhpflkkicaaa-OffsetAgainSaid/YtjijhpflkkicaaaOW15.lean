/-
  Package cycles: ring, walked, at a ring.
-/
import Derived.Test.YtjijhpflkkicaaaOW14
import Derived.Test.YtjijhpflkkicaaaOPlain6
import Derived.Test.YtjijhpflkkicaaaMap
set_option linter.unusedVariables false
set_option linter.unusedSimpArgs false
namespace Go.Proofs.Ytjijhpflkkicaaa
open Go Go.RowKit Go.Mem Go.MoneyP Go.NetP Go.BuildP Go.OffP Go.Shelf Go.Maps
theorem owf64 (x : Int) (h : 0 ≤ x) (h' : x ≤ 1000000000) : (Lit.int .i64 x).wf = true := by simp only [Lit.wf, IntKind.min, IntKind.max, IntKind.bits]; simp; omega
theorem oIsMap {P : Program} {k : TypeId} {R : Value → Option (DataW Unit × List MemPlace)} {w : World} {b n : Nat} {D : DataW Unit} (h : w.ownsMap P k R b n D) : IsMap D := h.isMap
theorem olawI : Keyed Try.prog 3 := int_keyed Try.underlying3
theorem ozeroI (w : World) : (zeroValue 3).run Try.prog w = .ok (.int .i64 0) w := by kernel_rfl
theorem okeyI (I : Nat) (h : I ≤ 1000000000) : keyOf Try.prog 3 (.int .i64 (I : Int)) = some (.int .i64 (I : Int)) :=
  keyOf_int_mk Try.underlying3 (by simp only [Lit.wf, IntKind.min, IntKind.max, IntKind.bits]; simp; omega)
/-- A due of a ring as it lies in memory. -/
theorem due_at {l : List Du} {w : World} {a : Option Addr} {n c : Nat} {k : Nat} (h : RdG duR w (.slice a n c) l) (hk : k < l.length) : ∃ b o, a = some ⟨b, o, none⟩ ∧ w.cell? ⟨b, o + k * 7 + 1, none⟩ = some (.int .i64 (fK l k)) ∧ w.cell? ⟨b, o + k * 7 + 2, none⟩ = some (.int .i64 (tK l k)) ∧ w.cell? ⟨b, o + k * 7 + 3, none⟩ = some (.int .i64 (xK l k)) ∧ w.cell? ⟨b, o + k * 7 + 6, none⟩ = some (.bool (l[k]).h) := by
  obtain ⟨b, o, e, _, hc⟩ := h.at k hk
  refine ⟨b, o, e, ?_, ?_, ?_, ?_⟩
  · unfold fK; rw [getDu hk]; exact hc 1 (by decide)
  · unfold tK; rw [getDu hk]; exact hc 2 (by decide)
  · unfold xK; rw [getDu hk]; exact hc 3 (by decide)
  · exact hc 6 (by decide)
set_option maxRecDepth 100000 in
set_option maxHeartbeats 4000000 in
theorem ring_any (l : List Du) (vl : Value) (q : List Nat) (vq : Value) (w : World) (h : RdG duR w vl l) (hq : Rd .i64 w vq (wayI q)) (hr : RingD l q) (hl : ∀ d ∈ l, MayD d) (hlen : l.length ≤ 64) :
    Calls Try.prog 47 #[vl, vq] w fun en w' => en = .returned (.bool true) ∧ Below w.heap.size w w' := by
  obtain ⟨al, cl, rfl⟩ := h.shape
  obtain ⟨aq, cq, rfl⟩ := hq.shape
  have hq16 := hr.len hl
  have hpos := hr.pos
  rw [wayI_len] at hq ⊢
  have hs := Sep.start w
  have HQ := Lib.hid hr
  have HL := Lib.hid hl
  have HRD := Lib.hid h
  have HRQ := Lib.hid hq
  clear hr hl h hq
  have hmm := @run_makeMap Try.prog
  go_enter Try.func47, Try.ntmps47
  replace hs := hs.newMap Try.prog 3 3
  go_wp2_with fail
  obtain ⟨B, hB⟩ : ∃ B, B = w.heap.size := ⟨_, rfl⟩
  rw [← hB] at hs ⊢
  clear hB hmm
  refine wp_loopM [none, none, none, none, some 4, none, some 6, some 7, none, none, none, some 11, some 12, some 13, some 14, some 15, some 16, some 17, some 18, some 19, some 20, some 21, some 22, some 23, some 24, some 25, some 26, some 27, some 28, some 29, some 30, some 31, some 32, some 33, some 34, some 35, some 36, some 37, some 38, some 39, some 40, some 41, some 42, some 43, some 44, some 45, some 46, some 47, some 48, some 49, some 50, some 51, some 52, some 53, some 54, some 55, some 56, some 57, some 58, some 59, some 60, some 61, some 62, some 63, some 64, some 65, some 66, none, none, none, none, none, none, none, none, none, none, none, none, none, none, none, none, none, none, none, none, none, none, none] (fun (r : Nat) (f : Nat → Value) (wr : World) => (fun (v : Value) => ∃ (i : Nat) (D : DataW Unit), v = .int .i64 i ∧ i ≤ q.length ∧ r = q.length - i ∧ Hid (∀ x : Int, D.atKey (.int .i64 x) (.lit (.int .i64 0)) = .lit (.int .i64 (cntR l q i x))) ∧ Sep w wr [mapT Try.prog 3 3 B i D]) (f 11)) (q.length) (by kernel_rfl) ?atStart1 ?round1
  case' atStart1 => (try dsimp only [nthV])
  case' round1 =>
    intro gk f wr l hl hrel J1 K1 hJ1 hK1
    (try simp only [mask] at hl)
    generalize f 11 = u11 at hl hrel
    subst hl
    (try dsimp only at hrel)
  case atStart1 => exact ⟨0, .map [], rfl, Nat.zero_le _, rfl, Lib.hid (fun x => by rw [cntR_zero]; rfl), hs⟩
  case round1 =>
    clear hs
    obtain ⟨i, D, rfl, hi, rfl, HD, hs⟩ := hrel
    by_cases hlt : i < q.length
    · have hiI : (i : Int) < q.length := by omega
      have hc1 := HD.out (fK l q[i])
      rw [cntR_new HQ.out.nd hlt] at hc1
      have HE := Lib.hid (HQ.out.edge i hlt)
      have hk := HQ.out.mem _ (List.getElem_mem hlt)
      obtain ⟨b2, o2, e2, _, r0⟩ := (hs.rd HRQ.out).at i (by rw [wayI_len]; exact hlt)
      rw [wayI_at hlt] at r0
      obtain ⟨b1, o1, e1, y1, _, _, y6⟩ := due_at (hs.rdG HRD.out) hk
      rw [HE.out.opn] at y6
      subst e1
      subst e2
      have hm := HL.out _ (List.getElem_mem hk)
      have hf0 := hm.f0
      have hf1 := hm.f1
      rw [HE.out.fr] at hf0 hf1
      obtain ⟨F, hF⟩ : ∃ F : Nat, fK l q[i] = F := ⟨(fK l q[i]).toNat, by omega⟩
      have HF := Lib.hid hF
      rw [hF] at hc1 y1 hf0 hf1
      have hk1 := okeyI F (by omega)
      have HCN := Lib.hid (fun x (hx : x ≠ fK l q[i]) => cntR_other (l := l) hlt hx)
      have HCS := Lib.hid (cntR_same (l := l) hlt)
      obtain ⟨k, hkk⟩ : ∃ k, k = q[i] := ⟨_, rfl⟩
      have HK := Lib.hid hkk
      rw [← hkk] at r0 y1 y6
      have hkl : k < l.length := by rw [hkk]; exact hk
      have hown := hs.map 0 rfl
      clear hm hF hkk
      have hlk : (Instr.lookup 114 (.map (some B)) (.int .i64 (F : Int)) false).run Try.prog wr = .ok (.int .i64 0) wr := by
        obtain ⟨c', hrun, hat, _⟩ := hown.lookup_int olawI Try.underlying114 Try.underlying3 (ozeroI _) hk1
        rw [hc1] at hat
        injection hat with e1
        injection e1 with _ e2
        rw [← e2] at hrun
        exact hrun
      go_upto_region 8 with (first
        | (at_mapUpdate; refine wpList_mapUpdate_own _ rfl _ _ _ 114 rfl 3 3 olawI Try.underlying114 _ B i D rfl hown (by simp [maxLen]; omega) _ _ _ rfl rfl hk1 _ [] (plainElem_int (a := 1) Try.underlying3 (owf64 1 (by omega) (by omega))) ?_; intro w7 hown1 hgrow1)
        | fail)
      have hD2 := Lib.hid (put_at (oIsMap hown) F 1 (cntR l q i) (cntR l q (i + 1)) HD.out (by rw [← HF.out, HCS.out]) (fun x hx => HCN.out x (by rw [HF.out]; exact hx)) (by simp [WideAt.IsKeyLit]))
      replace hs := hs.setMap 0 rfl hown1 hgrow1
      simp only [List.set_cons_zero] at hs
      clear hown hown1 hgrow1 hc1 hk1 r0 y1 y6 hlk
      obtain ⟨b4, o4, e4, y1, _, _, _⟩ := due_at (hs.rdG HRD.out) hkl
      rw [HK.out, HF.out] at y1
      rw [← HK.out] at y1
      cases e4
      by_cases h0 : i = 0
      · have hI0 : ¬ (0 : Int) < i := by omega
        refine Mix.region [0, 0, 0, 0, 0, 0, 0, 0, 0, 0, 0, 0, 0, 0, 0, 0, 0, 0, 0] (fun _ => True) (by kernel_rfl) (by kernel_rfl) trivial ?_
        simp only [List.zip_cons_cons, List.zip_nil_right]
        iterate 3 (refine Mix.step0 fun K hK => ?_; go_simp; (try (go_bits; try go_simp)); first | ((with_reducible refine hK _ _ ?_); clear hK K) | ((try (simp only [IntWalk.iteOmega]; try go_simp)); (try go_bits); (with_reducible refine hK _ _ ?_); clear hK K))
        iterate 15 (first | (refine Mix.stepS rfl fun K hK => ?_; go_simp; (with_reducible refine hK _ _ ?_); clear hK K) | (refine Mix.step0 fun K hK => ?_; go_simp; (try (go_bits; try go_simp)); first | ((with_reducible refine hK _ _ ?_); clear hK K) | ((try (simp only [IntWalk.iteOmega]; try go_simp)); (try go_bits); (with_reducible refine hK _ _ ?_); clear hK K)))
        iterate 1 (refine Mix.step0 fun K hK => ?_; go_simp; (try (go_bits; try go_simp)); first | ((with_reducible refine hK _ _ ?_); clear hK K) | ((try (simp only [IntWalk.iteOmega]; try go_simp)); (try go_bits); (with_reducible refine hK _ _ ?_); clear hK K))
        refine Mix.done ?_
        replace hs := hs.drew
        go_wp2_with fail
        refine Round.intro (q.length - (i + 1)) ?measure2 (by kernel_rfl) (hJ1 _ _ _ ?rel2)
        case' rel2 => (try dsimp only [nthV])
        case measure2 => omega
        case rel2 => exact ⟨i + 1, _, by go_num, hlt, rfl, hD2, hs⟩
      · have hI0 : (0 : Int) < i := by omega
        have hlt' : i - 1 < q.length := by omega
        have hk' := HQ.out.mem _ (List.getElem_mem hlt')
        obtain ⟨b2, o2, e2, _, r0⟩ := (hs.rd HRQ.out).at (i - 1) (by rw [wayI_len]; exact hlt')
        rw [wayI_at hlt'] at r0
        obtain ⟨b3, o3, e3, _, y2, _, _⟩ := due_at (hs.rdG HRD.out) hk'
        have hst := HQ.out.step (i - 1) (by omega)
        rw [hst] at y2
        simp only [show i - 1 + 1 = i by omega] at y2
        rw [HF.out] at y2
        cases e2
        cases e3
        obtain ⟨k', m, hk2, hmI, hm1, z0, z2⟩ : ∃ k' m : Nat, k' < l.length ∧ (i : Int) - 1 = m ∧ m < q.length ∧ w7.cell? ⟨b2, o2 + m, none⟩ = some (.int .i64 k') ∧ w7.cell? ⟨b1, o1 + k' * 7 + 2, none⟩ = some (.int .i64 F) := ⟨_, _, hk', by omega, hlt', r0, y2⟩
        clear hst r0 y2
        refine Mix.region [0, 0, 0, 0, 0, 0, 0, 0, 0, 0, 0, 0, 0, 0, 0, 0, 0, 0, 0] (fun _ => True) (by kernel_rfl) (by kernel_rfl) trivial ?_
        simp only [List.zip_cons_cons, List.zip_nil_right]
        iterate 3 (refine Mix.step0 fun K hK => ?_; go_simp; (try (go_bits; try go_simp)); first | ((with_reducible refine hK _ _ ?_); clear hK K) | ((try (simp only [IntWalk.iteOmega]; try go_simp)); (try go_bits); (with_reducible refine hK _ _ ?_); clear hK K))
        iterate 15 (first | (refine Mix.stepS rfl fun K hK => ?_; go_simp; (with_reducible refine hK _ _ ?_); clear hK K) | (refine Mix.step0 fun K hK => ?_; go_simp; (try (go_bits; try go_simp)); first | ((with_reducible refine hK _ _ ?_); clear hK K) | ((try (simp only [IntWalk.iteOmega]; try go_simp)); (try go_bits); (with_reducible refine hK _ _ ?_); clear hK K)))
        iterate 1 (refine Mix.step0 fun K hK => ?_; go_simp; (try (go_bits; try go_simp)); first | ((with_reducible refine hK _ _ ?_); clear hK K) | ((try (simp only [IntWalk.iteOmega]; try go_simp)); (try go_bits); (with_reducible refine hK _ _ ?_); clear hK K))
        refine Mix.done ?_
        replace hs := hs.drew
        go_wp2_with fail
        refine Round.intro (q.length - (i + 1)) ?measure3 (by kernel_rfl) (hJ1 _ _ _ ?rel3)
        case' rel3 => (try dsimp only [nthV])
        case measure3 => omega
        case rel3 => exact ⟨i + 1, _, by go_num, hlt, rfl, hD2, hs⟩
    · obtain rfl : i = q.length := by omega
      obtain ⟨m, hmlt, hmI, hrd⟩ : ∃ (m : Nat) (h : m < q.length), (q.length : Int) - 1 = m ∧ tK l q[m] = fK l (q[0]'hpos) := ⟨q.length - 1, by omega, by omega, HQ.out.round⟩
      have hk0 := HQ.out.mem _ (List.getElem_mem hpos)
      have hkm := HQ.out.mem _ (List.getElem_mem hmlt)
      obtain ⟨b1, o1, e1, _, r0⟩ := (hs.rd HRQ.out).at 0 (by rw [wayI_len]; exact hpos)
      obtain ⟨b2, o2, e2, _, rm⟩ := (hs.rd HRQ.out).at m (by rw [wayI_len]; exact hmlt)
      rw [wayI_at hpos] at r0
      rw [wayI_at hmlt] at rm
      obtain ⟨b3, o3, e3, y1, _, _, _⟩ := due_at (hs.rdG HRD.out) hk0
      obtain ⟨b4, o4, e4, _, y2, _, _⟩ := due_at (hs.rdG HRD.out) hkm
      rw [hrd] at y2
      cases e1
      cases e2
      cases e3
      cases e4
      obtain ⟨F, hF⟩ : ∃ F, fK l (q[0]'hpos) = F := ⟨_, rfl⟩
      rw [hF] at y1 y2
      obtain ⟨k0, hk0'⟩ : ∃ k, k = q[0]'hpos := ⟨_, rfl⟩
      obtain ⟨km, hkm'⟩ : ∃ k, k = q[m] := ⟨_, rfl⟩
      rw [← hk0'] at r0 hk0 y1
      rw [← hkm'] at rm hkm y2
      clear hF hk0' hkm' hrd
      rw [Nat.add_zero] at r0
      have hposI : (0 : Int) < q.length := by omega
      go_wp2_with fail
      refine Mix.region [0, 0, 0, 0, 0, 0, 0, 0, 0, 0, 0, 0, 0, 0, 0, 0, 0, 0, 0, 0, 0, 0, 0, 0] (fun _ => True) (by kernel_rfl) (by kernel_rfl) trivial ?_
      simp only [List.zip_cons_cons, List.zip_nil_right]
      iterate 4 (refine Mix.step0 fun K hK => ?_; go_simp; (try (go_bits; try go_simp)); first | ((with_reducible refine hK _ _ ?_); clear hK K) | ((try (simp only [IntWalk.iteOmega]; try go_simp)); (try go_bits); (with_reducible refine hK _ _ ?_); clear hK K))
      iterate 18 (first | (refine Mix.stepS rfl fun K hK => ?_; go_simp; (with_reducible refine hK _ _ ?_); clear hK K) | (refine Mix.step0 fun K hK => ?_; go_simp; (try (go_bits; try go_simp)); first | ((with_reducible refine hK _ _ ?_); clear hK K) | ((try (simp only [IntWalk.iteOmega]; try go_simp)); (try go_bits); (with_reducible refine hK _ _ ?_); clear hK K)))
      iterate 2 (refine Mix.step0 fun K hK => ?_; go_simp; (try (go_bits; try go_simp)); first | ((with_reducible refine hK _ _ ?_); clear hK K) | ((try (simp only [IntWalk.iteOmega]; try go_simp)); (try go_bits); (with_reducible refine hK _ _ ?_); clear hK K))
      refine Mix.done ?_
      replace hs := hs.drew
      go_wp2_with fail
      go_ret
      exact ⟨rfl, hs.below⟩
end Go.Proofs.Ytjijhpflkkicaaa
