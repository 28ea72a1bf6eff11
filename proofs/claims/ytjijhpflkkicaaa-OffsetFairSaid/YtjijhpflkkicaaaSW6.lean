/-
 Package solve: a fill, walked.
-/
import Derived.Test.YtjijhpflkkicaaaSX
set_option linter.unusedVariables false
set_option linter.unusedSimpArgs false
namespace Go.Proofs.Ytjijhpflkkicaaa
open Go Go.RowKit Go.Mem Go.NetP Go.RestP Go.CertP Go.PathP Go.SolveP Go.Shelf
attribute [local go_sem] Oper.semAt_some
/-- What a fill's first values are. -/
def FI (bs gO N t : Nat) (x : Int) : Nat → Value → Prop
 | 0, v => v = .int .i64 t
 | 1, v => v = .pointer (some ⟨bs, 0, none⟩)
 | 2, v => v = .pointer (some ⟨bs, 0, none⟩)
 | 3, v => v = .pointer (some ⟨bs, 4, none⟩)
 | 4, v => v = .slice (some ⟨gO, 0, none⟩) N N
 | 5, v => v = .int .i64 t
 | 6, v => v = .pointer (some ⟨gO, t, none⟩)
 | 7, v => v = .int .i64 x
 | 8, v => v = .int .i64 (-x)
 | 9, v => ∃ b, v = .pointer (some ⟨b, 0, none⟩)
 | 10, v => ∃ b, v = .pointer (some ⟨b, 0, none⟩)
 | _, _ => True
def ptrBlk : Value → Nat
 | .pointer (some a) => a.block
 | _ => 0
def fiT (t : Nat) (x : Int) (L0 : List Thing) (dn : Nat → Bool) (v : Nat → Value) : List Thing :=
 (if dn 9 = true then [cellsT (ptrBlk (v 9)) #[.int .i64 (if dn 11 = true then (t : Int) else 0)] 3] else []) ++ ((if dn 10 = true then [cellsT (ptrBlk (v 10)) #[.int .i64 (if dn 12 = true then -x else 0)] 2] else []) ++ L0)
def FiJ (bs gO N t : Nat) (x : Int) (w : World) (L0 : List Thing) (dn : Nat → Bool) (v : Nat → Value) (W : World) : Prop :=
 Sep w W (fiT t x L0 dn v) ∧ ∀ k, dn k = true → FI bs gO N t x k (v k)
theorem FiJ.facts {bs gO N t : Nat} {x : Int} {dn : Nat → Bool} {v : Nat → Value} {i : Nat} {y : Value} (h : ∀ k, dn k = true → FI bs gO N t x k (v k)) (hy : FI bs gO N t x i y) : ∀ k, Mix3.more dn i k = true → FI bs gO N t x k (Mix3.updV v i y k) := by
 intro k hk
 unfold Mix3.updV
 unfold Mix3.more at hk
 by_cases e : k = i
 ·subst e; simpa using hy
 ·rw [if_neg (fun q => e q.symm)]
  exact h k (by simpa [e] using hk)
theorem fiT_same {t : Nat} {x : Int} {L0 : List Thing} {dn : Nat → Bool} {v : Nat → Value} {i : Nat} {y : Value} (hi : i ≤ 8) : fiT t x L0 (Mix3.more dn i) (Mix3.updV v i y) = fiT t x L0 dn v := by
 unfold fiT Mix3.more Mix3.updV
 simp [show ¬ (i = 9) by omega, show ¬ (i = 10) by omega, show ¬ (9 = i) by omega, show ¬ (10 = i) by omega, show ¬ (11 = i) by omega, show ¬ (12 = i) by omega]
theorem SI_ovb {N : Nat} {S : St} (h : SI N S) {v : Nat} (hv : v < N) : -900719925474099200 ≤ g S.ov v ∧ g S.ov v ≤ 900719925474099200 := by
 obtain ⟨hw, hr, _, _⟩ := fits_parts h.fits
 have hl := (within_cap hw).1
 have hes := (right_cap hr).2.2.1
 have := overAt_bound hw v S.fl.length (by omega)
 rw [h.ov v hv]
 unfold exc
 have : (S.fl.length : Int) ≤ 200 := by omega
 omega
theorem outR_skip {P : Program} {K : Value → World → Prop} {r : Result Next} {w' : World} (h : r = .ok .skip w') (hk : K undef w') : Mix4.outR P K r := by rw [h]; exact hk
section
variable {w W : World} {t : Nat} {x : Int} {L0 : List Thing} {dn : Nat → Bool} {v : Nat → Value}
theorem fi_sol (h : Sep w W (fiT t x L0 dn v)) : Sep w W L0 := by
 unfold fiT at h
 cases d9 : dn 9 <;> cases d10 : dn 10 <;> simp only [d9, d10, Bool.false_eq_true, if_true, if_false, List.nil_append, List.cons_append] at h
 ·exact h
 ·exact h.tail
 ·exact h.tail
 ·exact h.tail.tail
theorem fi_alloc9 (h : Sep w W (fiT t x L0 dn v)) (d9 : dn 9 = false) (d11 : dn 11 = false) : Sep w (W.alloc (.cells #[.int .i64 0] 3)) (fiT t x L0 (Mix3.more dn 9) (Mix3.updV v 9 (.pointer (some ⟨W.heap.size, 0, none⟩)))) := by
 have h2 := h.newCells #[.int .i64 0] 3
 have e : fiT t x L0 (Mix3.more dn 9) (Mix3.updV v 9 (.pointer (some ⟨W.heap.size, 0, none⟩))) = cellsT W.heap.size #[.int .i64 0] 3 :: fiT t x L0 dn v := by
  simp [fiT, Mix3.more, Mix3.updV, d9, d11, ptrBlk]
 rw [e]; exact h2
theorem fi_alloc10 (h : Sep w W (fiT t x L0 dn v)) (d10 : dn 10 = false) (d12 : dn 12 = false) : Sep w (W.alloc (.cells #[.int .i64 0] 2)) (fiT t x L0 (Mix3.more dn 10) (Mix3.updV v 10 (.pointer (some ⟨W.heap.size, 0, none⟩)))) := by
 have h2 := h.newCells #[.int .i64 0] 2
 refine h2.perm ?_
 cases d9 : dn 9
 ·simp [fiT, Mix3.more, Mix3.updV, d9, d10, d12, ptrBlk]
 ·simp [fiT, Mix3.more, Mix3.updV, d9, d10, d12, ptrBlk]
  exact List.Perm.swap _ _ _
theorem fi_at9 (t : Nat) (x : Int) (L0 : List Thing) {b : Nat} (d9 : dn 9 = true) (d11 : dn 11 = false) (hb : v 9 = .pointer (some ⟨b, 0, none⟩)) : (fiT t x L0 dn v)[0]? = some (cellsT b #[.int .i64 0] 3) := by
 simp [fiT, d9, d11, hb, ptrBlk]
theorem fi_at10 (t : Nat) (x : Int) (L0 : List Thing) {b : Nat} (d10 : dn 10 = true) (d12 : dn 12 = false) (hb : v 10 = .pointer (some ⟨b, 0, none⟩)) : (fiT t x L0 dn v)[if dn 9 = true then 1 else 0]? = some (cellsT b #[.int .i64 0] 2) := by
 cases d9 : dn 9 <;> simp [fiT, d9, d10, d12, hb, ptrBlk]
theorem fi_store9 {b : Nat} (h : Sep w W (fiT t x L0 dn v)) (d9 : dn 9 = true) (d11 : dn 11 = false) (hb : v 9 = .pointer (some ⟨b, 0, none⟩)) (y : Value) : Sep w (W.setCell ⟨b, 0, none⟩ (.int .i64 t)) (fiT t x L0 (Mix3.more dn 11) (Mix3.updV v 11 y)) := by
 have h2 := h.setCells 0 (fi_at9 t x L0 d9 d11 hb) 0 (.int .i64 t) #[.int .i64 t] rfl
 have e : fiT t x L0 (Mix3.more dn 11) (Mix3.updV v 11 y) = (fiT t x L0 dn v).set 0 (cellsT b #[.int .i64 t] 3) := by
  simp [fiT, Mix3.more, Mix3.updV, d9, hb, ptrBlk]
 rw [e]; exact h2
theorem fi_store10 {b : Nat} (h : Sep w W (fiT t x L0 dn v)) (d10 : dn 10 = true) (d12 : dn 12 = false) (hb : v 10 = .pointer (some ⟨b, 0, none⟩)) (y : Value) : Sep w (W.setCell ⟨b, 0, none⟩ (.int .i64 (-x))) (fiT t x L0 (Mix3.more dn 12) (Mix3.updV v 12 y)) := by
 have h2 := h.setCells _ (fi_at10 t x L0 d10 d12 hb) 0 (.int .i64 (-x)) #[.int .i64 (-x)] rfl
 have e : fiT t x L0 (Mix3.more dn 12) (Mix3.updV v 12 y) = (fiT t x L0 dn v).set (if dn 9 = true then 1 else 0) (cellsT b #[.int .i64 (-x)] 2) := by
  cases d9 : dn 9 <;> simp [fiT, Mix3.more, Mix3.updV, d9, d10, hb, ptrBlk]
 rw [e]; exact h2
end
/-- What a fill works on. -/
def fillL (M : Sol) (EX : List Thing) (BQ b8 b9 : Nat) (vb : Value) (r y : Int) (S : St) : List Thing :=
 cellsT (BQ + 1) #[vb] 60 :: cellsT BQ #[.pointer (some ⟨M.bs, 0, none⟩)] 79 :: cellsT b8 #[.int .i64 r] 3 :: cellsT b9 #[.int .i64 y] 2 :: solL (M.at EX) S
set_option maxRecDepth 100000 in
set_option maxHeartbeats 6000000 in
theorem fill_any (M : Sol) (S : St) (w0 w : World) (hsi : SI M.N S) (hst : S.steps ≤ 1000000) (hs : Sep w0 w (solL M S)) :
  Calls Try.prog 41 #[.pointer (some ⟨M.bs, 0, none⟩)] w fun e w' => (srcK S.ov M.N = [] ∧ e = .returned (.bool false) ∧ Sep w0 w' (solL M S)) ∨ (∃ S', FillR M.N S S' ∧ e = .returned (.bool true) ∧ Sep w0 w' (solL M S')) := by
 obtain ⟨hw, hr, hp, htt⟩ := fits_parts hsi.fits
 obtain ⟨hn1, hn40, hes, _, _⟩ := right_cap hr
 have HSI := Lib.hid hsi
 have HWI := Lib.hid hw
 have HR := Lib.hid hr
 have hN : M.N ≤ 40 := by omega
 have HLP := Lib.hid (show S.pot.length = M.N from by have := (pot_cap hp).1; omega)
 have hlov := hsi.lov
 refine (callsIn_wide (n := 6)).1 ?_
 refine callsIn_of_wp_marks Try.func41 rfl trivial ?_ rfl
 simp only [Try.ntmps41, List.size_toArray, List.length_cons, List.length_nil, Nat.reduceAdd, Nat.reduceSub, Array.replicate_succ, Array.replicate_zero, List.push_toArray, List.append_toArray, List.nil_append, List.cons_append]
 refine wpIn_wide.2 ?_
 have hs1 := sol_in ((sol_at hs).newCells #[.pointer (some ⟨M.bs, 0, none⟩)] 79)
 obtain ⟨B1, hB1⟩ : ∃ B1, B1 = w.heap.size := ⟨_, rfl⟩
 clear hsi hw hp htt
 have p0 := cell_of (hs1.cells 5 rfl) 0
 simp only [List.getElem?_toArray, List.getElem?_cons_zero, List.getElem?_cons_succ] at p0
 go_wp2_with fail
 rw [← hB1] at p0 hs1 ⊢
 clear hs
 refine (sources_x M _ S w0 _ hlov hN hs1).mono ?_
 clear hs1 hB1
 rintro en w2 ⟨u, rfl, hs⟩
 replace hs := sol_in hs
 have hru := hs.rdInts 5 rfl
 obtain ⟨au, cu, rfl⟩ := hru.shape
 have p0 := cell_of (hs.cells 6 rfl) 0
 simp only [List.getElem?_toArray, List.getElem?_cons_zero, List.getElem?_cons_succ] at p0
 have HK := Lib.hid (srcK_len S.ov M.N)
 cases hsr : srcK S.ov M.N with
 | nil =>
  rw [hsr] at hs hru
  simp only [List.length_nil] at hs ⊢
  go_wp2_with fail
  exact ⟨.bool false, by simp [results, Try.results41, go_sem], .inl ⟨hsr, rfl, (sol_out (sol_out hs).tail).tail⟩⟩
 | cons z zs =>
  have HSR := Lib.hid hsr
  rw [← hsr]
  have hne : ((srcK S.ov M.N).length == 0) = false := by rw [hsr]; simp
  have HNE := Lib.hid (show srcK S.ov M.N ≠ [] by rw [hsr]; simp)
  clear hsr
  have hki : ((srcK S.ov M.N).length : Int) ≤ 40 := by have := HK.out; omega
  obtain ⟨Z, hZ⟩ : ∃ Z, Z = srcK S.ov M.N := ⟨_, rfl⟩
  rw [← hZ] at hs hru hne hki ⊢
  have HZ := Lib.hid hZ
  clear hZ
  have hs0 := cell_of (hs.cells 0 rfl) 0
  have s0 := cell_of (hs.cells 0 rfl) 0
  have s1 := cell_of (hs.cells 0 rfl) 1
  have s2 := cell_of (hs.cells 0 rfl) 2
  have s3 := cell_of (hs.cells 0 rfl) 3
  have s4 := cell_of (hs.cells 0 rfl) 4
  simp only [Sol.cells, Sol.at, List.getElem?_toArray, List.getElem?_cons_zero, List.getElem?_cons_succ] at s0 s1 s2 s3 s4
  clear hs0
  go_wp2_with fail
  refine Mix.region [0, 0, 0, 0, 0, 0, 0, 0, 0, 0, 0, 0, 0, 2, 0, 0, 0, 0, 0, 0, 0] (fun _ => True) (by kernel_rfl) (by kernel_rfl) trivial ?_
  simp only [List.zip_cons_cons, List.zip_nil_right]
  iterate 13 (refine Mix.step0 fun K hK => ?_; go_simp; (try (go_bits; try go_simp)); first | ((with_reducible refine hK _ _ ?_); clear hK K) | ((try (simp only [IntWalk.iteOmega]; try go_simp)); (try go_bits); (with_reducible refine hK _ _ ?_); clear hK K))
  refine Mix.step2n (by first | rfl | simp [Region.wanted, yielded]) fun K hK => ?_
  go_wp2_with fail
  refine (ways_any M.N (some ⟨M.gE, 0, none⟩) M.cE S.es _ _ _ S.fl S.pot Z _ (hs.drew.rdRecs 4 rfl) (hs.drew.rdInts 1 rfl) (hs.drew.rdInts 2 rfl) (hs.drew.rdInts 5 rfl) (by omega)).mono ?_
  intro en w4 hP
  rcases hP with ⟨hF0, _, _⟩ | ⟨_, D, B, vd, vb, hws, rfl, k1⟩
  ·exfalso
   rw [HSI.out.fits, HZ.out, Int.toNat_natCast, src_fromB HNE.out] at hF0
   cases hF0
  rw [Int.toNat_natCast] at hws
  obtain ⟨ad, cd, rfl⟩ := (k1.rdInts 0 rfl).shape
  obtain ⟨ab, cb, rfl⟩ := (k1.rdInts 1 rfl).shape
  rw [hws.lD, hws.lB] at k1 ⊢
  have hs4 := hs.drew.join k1
  clear hs k1 s0 s1 s2 s3 s4 p0 hru
  rw [HZ.out] at hws
  have HWS := Lib.hid hws
  clear hws hne
  go_wp2_with fail
  refine Mix.post_mk (C := (fun _ => True)) trivial (hK _ _ ?_)
  clear hK K
  iterate 7 (refine Mix.step0 fun K hK => ?_; go_simp; (try (go_bits; try go_simp)); first | ((with_reducible refine hK _ _ ?_); clear hK K) | ((try (simp only [IntWalk.iteOmega]; try go_simp)); (try go_bits); (with_reducible refine hK _ _ ?_); clear hK K))
  refine Mix.done ?_
  have hs := sol_ins [_, _] hs4
  clear hs4
  simp only [List.cons_append, List.nil_append] at hs
  have p0 := cell_of (hs.cells 8 rfl) 0
  simp only [List.getElem?_toArray, List.getElem?_cons_zero, List.getElem?_cons_succ] at p0
  obtain ⟨H0, hh0⟩ := HWS.out.wh (by omega)
  obtain ⟨t, hnt, htN, hov, hdt⟩ := reach (N := M.N) (ov := S.ov) (H := H0) HWI.out HSI.out.ov HNE.out hh0
  clear hh0 H0
  have HLD := Lib.hid HWS.out.lD
  have HLB := Lib.hid HWS.out.lB
  have HFH := Lib.hid (show FH M.N S D B t from ⟨HSI.out, HNE.out, HWS.out, hnt⟩)
  have HNT := Lib.hid hnt
  have HFF := Lib.hid HFH.out.ff
  clear hnt hov hdt
  go_wp2_with fail
  refine (nearest_x M _ S w0 _ _ D hlov hN hs (hs.rdInts 5 rfl) HLD.out).mono ?_
  rintro en w5 ⟨rfl, rfl⟩
  rw [HNT.out]
  have htl : decide ((t : Int) < 0) = false := decide_eq_false (by omega)
  obtain ⟨x, hx⟩ : ∃ x, x = g S.ov t := ⟨_, rfl⟩
  have hxb := SI_ovb HSI.out htN
  rw [← hx] at hxb
  have htO : t < S.ov.length := by omega
  have HXE := Lib.hid hx
  obtain ⟨EX, hEX⟩ : ∃ EX, EX = [intsT .i64 2 (.slice ad M.N cd) D, intsT .i64 3 (.slice ab M.N cb) B, intsT .i64 3 (.slice au Z.length cu) Z, cellsT B1 #[.pointer (some ⟨M.bs, 0, none⟩)] 79] := ⟨_, rfl⟩
  clear p0 hx
  go_wp2_with fail
  go_upto_region 10 with fail
  refine Mix4.region (m := 13) [1, 1, 1, 1, 1, 1, 1, 1, 1, 2, 2, 2, 2] (FiJ M.bs M.gO M.N t x w0 (solL (M.at (intsT .i64 2 (.slice ad M.N cd) D :: intsT .i64 3 (.slice ab M.N cb) B :: intsT .i64 3 (.slice au Z.length cu) Z :: cellsT B1 #[.pointer (some ⟨M.bs, 0, none⟩)] 79 :: M.ex)) S)) (by kernel_rfl) (by kernel_rfl) ?hJ ?hstep ?hfin
  case hJ => exact ⟨hs.drew, by intro k q; cases q⟩
  case hstep =>
   clear hs
   intro i o ho him dn v W ρ hdn hdeps hcl hJ hev hbase hcst
   obtain ⟨hsp, hF⟩ := hJ
   have hs := fi_sol hsp
   rcases i with _ | _ | _ | _ | _ | _ | _ | _ | _ | _ | _ | _ | _ | i
   all_goals first | omega | skip
   ·obtain rfl := Option.some.inj ho
    have e0 := hbase 7 (by kernel_rfl) (by show (7 : Nat) < 147; decide)
    refine outR_of (v := (.int .i64 t)) (w' := W) ?_ ⟨by rw [fiT_same (by omega)]; exact hsp, FiJ.facts hF rfl⟩
    unfold execOp
    simp only [e0]
    go_simp
   ·obtain rfl := Option.some.inj ho
    have e0 := hbase 1 (by kernel_rfl) (by show (1 : Nat) < 147; decide)
    have p0 := cell_of (hs.cells 8 rfl) 0
    simp only [List.getElem?_toArray, List.getElem?_cons_zero, List.getElem?_cons_succ] at p0
    refine outR_of (v := (.pointer (some ⟨M.bs, 0, none⟩))) (w' := W) ?_ ⟨by rw [fiT_same (by omega)]; exact hsp, FiJ.facts hF rfl⟩
    unfold execOp
    simp only [e0]
    go_simp
   ·obtain rfl := Option.some.inj ho
    have d0 : dn 1 = true := hdeps { on := 1, ground := .data } (by simp) (by rfl)
    have e0 := (hev 44 1 (by kernel_rfl) d0 (by show (44 : Nat) < 147; decide)).trans (hF 1 d0)
    refine outR_of (v := (.pointer (some ⟨M.bs, 0, none⟩))) (w' := W) ?_ ⟨by rw [fiT_same (by omega)]; exact hsp, FiJ.facts hF rfl⟩
    unfold execOp
    simp only [e0]
    go_simp
   ·obtain rfl := Option.some.inj ho
    have d0 : dn 2 = true := hdeps { on := 2, ground := .data } (by simp) (by rfl)
    have e0 := (hev 45 2 (by kernel_rfl) d0 (by show (45 : Nat) < 147; decide)).trans (hF 2 d0)
    refine outR_of (v := (.pointer (some ⟨M.bs, 4, none⟩))) (w' := W) ?_ ⟨by rw [fiT_same (by omega)]; exact hsp, FiJ.facts hF rfl⟩
    unfold execOp
    simp only [e0]
    go_simp
   ·obtain rfl := Option.some.inj ho
    have d0 : dn 3 = true := hdeps { on := 3, ground := .data } (by simp) (by rfl)
    have e0 := (hev 46 3 (by kernel_rfl) d0 (by show (46 : Nat) < 147; decide)).trans (hF 3 d0)
    have s0 := cell_of (hs.cells 0 rfl) 0
    have s1 := cell_of (hs.cells 0 rfl) 1
    have s2 := cell_of (hs.cells 0 rfl) 2
    have s3 := cell_of (hs.cells 0 rfl) 3
    have s4 := cell_of (hs.cells 0 rfl) 4
    simp only [Sol.cells, Sol.at, List.getElem?_toArray, List.getElem?_cons_zero, List.getElem?_cons_succ] at s0 s1 s2 s3 s4
    refine outR_of (v := (.slice (some ⟨M.gO, 0, none⟩) M.N M.N)) (w' := W) ?_ ⟨by rw [fiT_same (by omega)]; exact hsp, FiJ.facts hF rfl⟩
    unfold execOp
    simp only [e0]
    go_simp
   ·obtain rfl := Option.some.inj ho
    have e0 := hbase 7 (by kernel_rfl) (by show (7 : Nat) < 147; decide)
    refine outR_of (v := (.int .i64 t)) (w' := W) ?_ ⟨by rw [fiT_same (by omega)]; exact hsp, FiJ.facts hF rfl⟩
    unfold execOp
    simp only [e0]
    go_simp
   ·obtain rfl := Option.some.inj ho
    have d0 : dn 4 = true := hdeps { on := 4, ground := .data } (by simp) (by rfl)
    have d1 : dn 5 = true := hdeps { on := 5, ground := .data } (by simp) (by rfl)
    have e0 := (hev 47 4 (by kernel_rfl) d0 (by show (47 : Nat) < 147; decide)).trans (hF 4 d0)
    have e1 := (hev 48 5 (by kernel_rfl) d1 (by show (48 : Nat) < 147; decide)).trans (hF 5 d1)
    refine outR_of (v := (.pointer (some ⟨M.gO, t, none⟩))) (w' := W) ?_ ⟨by rw [fiT_same (by omega)]; exact hsp, FiJ.facts hF rfl⟩
    unfold execOp
    simp only [e0, e1]
    go_simp
   ·obtain rfl := Option.some.inj ho
    have d0 : dn 6 = true := hdeps { on := 6, ground := .data } (by simp) (by rfl)
    have e0 := (hev 49 6 (by kernel_rfl) d0 (by show (49 : Nat) < 147; decide)).trans (hF 6 d0)
    obtain ⟨_, _, eqz, _, x1⟩ := (hs.rdInts 3 rfl).at t htO
    injection eqz with eqz
    injection eqz with eqz eqo
    subst eqz
    subst eqo
    rw [Nat.zero_add] at x1
    rw [show S.ov.getD t 0 = x from HXE.out.symm] at x1
    dsimp only [Sol.at] at x1
    refine outR_of (v := (.int .i64 x)) (w' := W) ?_ ⟨by rw [fiT_same (by omega)]; exact hsp, FiJ.facts hF rfl⟩
    unfold execOp
    simp only [e0]
    go_simp
   ·obtain rfl := Option.some.inj ho
    have d0 : dn 7 = true := hdeps { on := 7, ground := .data } (by simp) (by rfl)
    have e0 := (hev 50 7 (by kernel_rfl) d0 (by show (50 : Nat) < 147; decide)).trans (hF 7 d0)
    refine outR_of (v := (.int .i64 (-x))) (w' := W) ?_ ⟨by rw [fiT_same (by omega)]; exact hsp, FiJ.facts hF rfl⟩
    unfold execOp
    simp only [e0]
    go_simp
    rw [IntKind.wrap_i64]; omega
   ·have d11 : dn 11 = false := by
     cases hq : dn 11
     ·rfl
     ·have := hcl 11 _ rfl hq { on := 9, ground := .data } (by simp) (by rfl)
      rw [hdn] at this; cases this
    obtain rfl := Option.some.inj ho
    refine outR_of (v := .pointer (some ⟨W.heap.size, 0, none⟩)) (w' := W.alloc (.cells #[.int .i64 0] 3)) ?_ ⟨fi_alloc9 hsp hdn d11, FiJ.facts hF ⟨_, rfl⟩⟩
    unfold execOp
    go_simp
   ·have d12 : dn 12 = false := by
     cases hq : dn 12
     ·rfl
     ·have := hcl 12 _ rfl hq { on := 10, ground := .data } (by simp) (by rfl)
      rw [hdn] at this; cases this
    obtain rfl := Option.some.inj ho
    refine outR_of (v := .pointer (some ⟨W.heap.size, 0, none⟩)) (w' := W.alloc (.cells #[.int .i64 0] 2)) ?_ ⟨fi_alloc10 hsp hdn d12, FiJ.facts hF ⟨_, rfl⟩⟩
    unfold execOp
    go_simp
   ·obtain rfl := Option.some.inj ho
    have d0 : dn 9 = true := hdeps { on := 9, ground := .data } (by simp) (by rfl)
    have d1 : dn 0 = true := hdeps { on := 0, ground := .data } (by simp) (by rfl)
    obtain ⟨b, hb⟩ := hF 9 d0
    have e0 := (hev 8 9 (by kernel_rfl) d0 (by show (8 : Nat) < 147; decide)).trans hb
    have e1 := (hev 43 0 (by kernel_rfl) d1 (by show (43 : Nat) < 147; decide)).trans (hF 0 d1)
    have y0 := cell_of (hsp.cells 0 (fi_at9 t x _ d0 hdn hb)) 0
    simp only [List.getElem?_toArray, List.getElem?_cons_zero, List.getElem?_cons_succ] at y0
    have yf := frozen_of (hsp.cells 0 (fi_at9 t x _ d0 hdn hb)) 0
    refine outR_skip (w' := W.setCell ⟨b, 0, none⟩ (.int .i64 t)) ?_ ⟨fi_store9 hsp d0 hdn hb _, FiJ.facts hF trivial⟩
    unfold execOp
    simp only [e0, e1]
    go_simp
   ·obtain rfl := Option.some.inj ho
    have d0 : dn 10 = true := hdeps { on := 10, ground := .data } (by simp) (by rfl)
    have d1 : dn 8 = true := hdeps { on := 8, ground := .data } (by simp) (by rfl)
    obtain ⟨b, hb⟩ := hF 10 d0
    have e0 := (hev 9 10 (by kernel_rfl) d0 (by show (9 : Nat) < 147; decide)).trans hb
    have e1 := (hev 51 8 (by kernel_rfl) d1 (by show (51 : Nat) < 147; decide)).trans (hF 8 d1)
    have y0 := cell_of (hsp.cells _ (fi_at10 t x _ d0 hdn hb)) 0
    simp only [List.getElem?_toArray, List.getElem?_cons_zero, List.getElem?_cons_succ] at y0
    have yf := frozen_of (hsp.cells _ (fi_at10 t x _ d0 hdn hb)) 0
    refine outR_skip (w' := W.setCell ⟨b, 0, none⟩ (.int .i64 (-x))) ?_ ⟨fi_store10 hsp d0 hdn hb _, FiJ.facts hF trivial⟩
    unfold execOp
    simp only [e0, e1]
    go_simp
  case hfin =>
   clear hs
   intro v W hJ
   obtain ⟨hsp, hF⟩ := hJ
   have q0 := hF 0 rfl
   have q1 := hF 1 rfl
   have q2 := hF 2 rfl
   have q3 := hF 3 rfl
   have q4 := hF 4 rfl
   have q5 := hF 5 rfl
   have q6 := hF 6 rfl
   have q7 := hF 7 rfl
   have q8 := hF 8 rfl
   obtain ⟨b8, q9⟩ := hF 9 rfl
   obtain ⟨b9, q10⟩ := hF 10 rfl
   simp only [FI] at q0 q1 q2 q3 q4 q5 q6 q7 q8
   have hs := hsp
   clear hsp
   simp only [fiT, q9, q10, ptrBlk, show Nat.blt 9 13 = true from rfl, show Nat.blt 10 13 = true from rfl, show Nat.blt 11 13 = true from rfl, show Nat.blt 12 13 = true from rfl, if_true, List.cons_append, List.nil_append] at hs
   refine ⟨fun _ => True, trivial, ?_⟩
   simp only [Mix3.actD, Mix3.apD, q0, q1, q2, q3, q4, q5, q6, q7, q8, q9, q10, Nat.zero_add, Nat.reduceAdd, show ∀ a b, Nat.blt a b = decide (a < b) from fun a b => by rw [Bool.eq_iff_iff, Nat.blt_eq, decide_eq_true_eq], Nat.reduceLT, decide_true, decide_false, if_true, Bool.false_eq_true, if_false, List.setIfInBounds_toArray, List.set_cons_zero, List.set_cons_succ]
   clear q0 q1 q2 q3 q4 q5 q6 q7 q8 q9 q10 hF
   clear v
   simp only [List.zip_cons_cons, List.zip_nil_right, List.drop_succ_cons, List.drop_zero]
   refine Mix.done ?_
   have p0 := cell_of (hs.cells 10 rfl) 0
   simp only [List.getElem?_toArray, List.getElem?_cons_zero, List.getElem?_cons_succ] at p0
   go_wp2_with fail
   refine (sback_any M.bs ab M.N cb t _).mono ?_
   rintro en w6 ⟨rfl, rfl⟩
   have hs4 := ((hs.newCells #[.pointer (some ⟨M.bs, 0, none⟩)] 79).newCells #[.slice ab M.N cb] 60).newCells #[.int .i64 t] 3
   simp only [World.size_alloc] at hs4
   clear hs p0
   go_wp2_with fail
   obtain ⟨W0, hW0⟩ : ∃ W0, W0 = ((W.alloc (.cells #[.pointer (some ⟨M.bs, 0, none⟩)] 79)).alloc (.cells #[.slice ab M.N cb] 60)).alloc (.cells #[.int .i64 t] 3) := ⟨_, rfl⟩
   rw [← hW0] at hs4 ⊢
   clear hW0
   obtain ⟨BQ, hBQ⟩ : ∃ BQ, BQ = W.heap.size := ⟨_, rfl⟩
   rw [← hBQ] at hs4 ⊢
   clear hBQ
   refine (wpIn_wide (n := 6)).1 ?_
   refine nameRF (m := 6) fun a0 ha0 => ?_
   refine wpIn_rangeV rfl (by decide) (gf := 84) (lb := #[.pointer (some ⟨BQ + 1, 0, none⟩), .pointer (some ⟨BQ + 2, 0, none⟩), .pointer (some ⟨BQ, 0, none⟩)]) (by rw [ha0]; rfl) trivial (enters_of Try.func84 (by kernel_rfl) rfl) encP (fun _ => rfl)
    (fun pre => cellsT (BQ + 1) #[.slice ab M.N cb] 60 :: cellsT BQ #[.pointer (some ⟨M.bs, 0, none⟩)] 79 :: cellsT b8 #[.int .i64 (rootF t pre)] 3 :: cellsT b9 #[.int .i64 (botF S.es S.fl pre (-x))] 2 :: solL (M.at (intsT .i64 2 (.slice ad M.N cd) D :: intsT .i64 3 (.slice ab M.N cb) B :: intsT .i64 3 (.slice au Z.length cu) Z :: cellsT B1 #[.pointer (some ⟨M.bs, 0, none⟩)] 79 :: M.ex)) S)
    (BQ + 2) 3 #[.int .i64 t] hs4 (wayT M.N S B t)
    (fun J W1 hJb hJd hJv hJs hJy h0 => back1_in (6 - 1) (by decide) _ w0 BQ (BQ + 1) (BQ + 2) M.bs 0 1 4 8 10 M.N S.es.length S.steps M.cE M.gE S.es B _ _ _ _ t (wayT M.N S B t) _ hN (by omega) rfl ?hke HR.out HLB.out (fun _ => rfl) (fun _ => rfl) (fun _ => rfl) (fun _ => rfl) (fun _ => rfl) HFH.out.bk J W1 hJb hJd hJv hJs hJy h0)
    (fun p => { tmps := (((a0.tmps.setIfInBounds 56 (.int .i64 p.1)).setIfInBounds 57 (.int .i64 p.2)).setIfInBounds 10 (.int .i64 p.1)).setIfInBounds 11 (.int .i64 p.2), defers := [] })
    ?assign ?body ?done
   case hke => intro e he; have := (edgeB_iff _ _).1 ((right_cap HR.out).2.2.2.2 _ he); exact ⟨this.2.2.2.2.1, this.2.2.2.2.2⟩
   case assign =>
    rintro l ⟨pa, pu⟩ W K hK
    clear hs4
    subst ha0
    dsimp only [encP]
    gi_wp2
    exact hK
   case body =>
    rintro l DL o1 o2 cs pre ⟨pa, pu⟩ W hpl hs
    clear hs4
    obtain ⟨c1, c2, _, c4⟩ := HFH.out.arc hpl 0
    dsimp only at c1 c2
    have HMB := Lib.hid (HFH.out.bots (pre := pre) (List.IsPrefix.trans ⟨[(pa, pu)], rfl⟩ hpl))
    have HBS := Lib.hid (botF_snoc S.es S.fl pre (-x) (pa, pu))
    have HRS := Lib.hid (rootF_snoc t pre (pa, pu))
    have HRM := Lib.hid (roomV_of (n := (M.N : Int)) (a := pa) HWI.out c1)
    obtain ⟨y, hy⟩ : ∃ y, y = botF S.es S.fl pre (-x) := ⟨_, rfl⟩
    rw [← hy] at HBS
    obtain ⟨r, hr⟩ : ∃ r, r = roomE S.es S.fl pa := ⟨_, rfl⟩
    rw [← hr] at HRM
    dsimp only at HBS HRS
    rw [← hr] at HBS
    have z2 := cell_of (hs.cells 5 rfl) 0
    have z3 := cell_of (hs.cells 6 rfl) 0
    simp only [List.getElem?_toArray, List.getElem?_cons_zero, List.getElem?_cons_succ] at z2 z3
    rw [← hy] at z3
    have zf2 := frozen_of (hs.cells 5 rfl) 0
    have zf3 := frozen_of (hs.cells 6 rfl) 0
    have s0 := cell_of (hs.cells 7 rfl) 0
    have s1 := cell_of (hs.cells 7 rfl) 1
    have s2 := cell_of (hs.cells 7 rfl) 2
    have s3 := cell_of (hs.cells 7 rfl) 3
    have s4 := cell_of (hs.cells 7 rfl) 4
    simp only [Sol.cells, Sol.at, List.getElem?_toArray, List.getElem?_cons_zero, List.getElem?_cons_succ] at s0 s1 s2 s3 s4
    have p0 := cell_of (hs.cells 15 rfl) 0
    simp only [List.getElem?_toArray, List.getElem?_cons_zero, List.getElem?_cons_succ] at p0
    have hdep : (Fence.inRound Fence.wide l).depth = none := rfl
    subst ha0
    have HY := Lib.hid hy
    clear hy hr
    by_cases hc : r < y
    ·have hd : decide (r < y) = true := decide_eq_true hc
     have HC := Lib.hid hc
     have hCW : (fun W : World => W.cell? ⟨b9, 0, none⟩ = some (.int .i64 y)) W.drew := z3
     gi_wp2_with fail
     refine MixI.region2 hdep 14 [1, 1, 0, 0, 0, 0, 0, 0, 0, 0, 0, 2, 1, 2, 2] (fun W : World => W.cell? ⟨b9, 0, none⟩ = some (.int .i64 y)) (by kernel_rfl) (by kernel_rfl) hCW ?_
     simp only [List.zip_cons_cons, List.zip_nil_right, List.take_succ_cons, List.take_zero, List.drop_succ_cons, List.drop_zero]
     (refine MixI.step1 fun K hK => ?_; go_simp; (try (go_bits; try go_simp)); first | ((with_reducible refine hK _ _ ?_); clear hK K) | ((try (simp only [IntWalk.iteOmega]; try go_simp)); (try go_bits); (with_reducible refine hK _ _ ?_); clear hK K))
     (refine MixI.step1 fun K hK => ?_; go_simp; refine ⟨fun W => ?_, hK _ _ ?_⟩; (intro hW1; (try intro hW2); (try intro hW3); (try intro hW4); (try intro hW5); (try intro hW6); (try intro hW7); (try intro hW8); go_simp); clear hK K)
     iterate 9 (refine MixI.step0 fun K hK => ?_; go_simp; (try (go_bits; try go_simp)); first | ((with_reducible refine hK _ _ ?_); clear hK K) | ((try (simp only [IntWalk.iteOmega]; try go_simp)); (try go_bits); (with_reducible refine hK _ _ ?_); clear hK K))
     refine MixI.step2n (by first | rfl | simp [Region.wanted, yielded]) fun K hK => ?_
     gi_wp2_with fail
     refine ⟨trivial, ((callsIn_wide.2 (roomX_any M.N (some ⟨M.gE, 0, none⟩) M.cE S.es _ S.fl pa _ (hs.drew.rdRecs 11 rfl) (hs.drew.rdInts 8 rfl) (by omega))).inRound l).mono ?_⟩
     rintro en w5 ⟨rfl, hb⟩
     rw [HRM.out]
     have hs5 := hs.drew.belowStep hb
     clear hb hs z2 z3 zf2 zf3 s0 s1 s2 s3 s4 p0 hCW
     have z2 := cell_of (hs5.cells 5 rfl) 0
     have z3 := cell_of (hs5.cells 6 rfl) 0
     simp only [List.getElem?_toArray, List.getElem?_cons_zero, List.getElem?_cons_succ] at z2 z3
     rw [← HY.out] at z3
     have zf2 := frozen_of (hs5.cells 5 rfl) 0
     have zf3 := frozen_of (hs5.cells 6 rfl) 0
     have hCW : (fun W : World => W.cell? ⟨b9, 0, none⟩ = some (.int .i64 y)) w5 := z3
     gi_wp2_with fail
     refine MixI.post_mk (C := (fun W : World => W.cell? ⟨b9, 0, none⟩ = some (.int .i64 y))) (by first | exact hCW | exact HCW.out _) (hK _ _ ?_)
     clear hK K
     (refine MixI.step1 fun K hK => ?_; go_simp; (try (go_bits; try go_simp)); first | ((with_reducible refine hK _ _ ?_); clear hK K) | ((try (simp only [IntWalk.iteOmega]; try go_simp)); (try go_bits); (with_reducible refine hK _ _ ?_); clear hK K))
     refine MixI.step2n (by first | rfl | simp [Region.wanted, yielded]) fun K hK => ?_
     gi_wp2_with fail
     have hs6 := hs5.setCells 5 rfl 0 (.int .i64 pu) #[.int .i64 pu] rfl
     simp only [List.set_cons_zero, List.set_cons_succ] at hs6
     clear hs5 z2 z3 zf2 zf3 hCW
     have z3 := cell_of (hs6.cells 6 rfl) 0
     simp only [List.getElem?_toArray, List.getElem?_cons_zero, List.getElem?_cons_succ] at z3
     rw [← HY.out] at z3
     have zf3 := frozen_of (hs6.cells 6 rfl) 0
     have hCW : (fun W : World => W.cell? ⟨b9, 0, none⟩ = some (.int .i64 y)) (w5.setCell ⟨b8, 0, none⟩ (.int .i64 pu)) := z3
     refine MixI.post_mk (C := (fun W : World => W.cell? ⟨b9, 0, none⟩ = some (.int .i64 y))) (by first | exact hCW | exact HCW.out _) (hK _ _ ?_)
     clear hK K
     refine MixI.done ?_
     refine MixI.step2n (by first | rfl | simp [Region.wanted, yielded]) fun K hK => ?_
     gi_wp2_with fail
     refine MixI.post_mk (C := (fun _ => True)) trivial (hK _ _ ?_)
     clear hK K
     refine MixI.done ?_
     have hs7 := hs6.setCells 6 rfl 0 (.int .i64 r) #[.int .i64 r] rfl
     simp only [List.set_cons_zero, List.set_cons_succ] at hs7
     have HF := Lib.hid (show botF S.es S.fl (pre ++ [(pa, pu)]) (-x) = r by rw [HBS.out]; have := HC.out; omega)
     clear hs6 hCW z3 zf3
     gi_wp2
     show Sep _ _ _
     rw [HF.out, HRS.out]
     exact hs7
    ·have hd : decide (r < y) = false := decide_eq_false hc
     have HC := Lib.hid hc
     have hCW : (fun W : World => W.cell? ⟨b9, 0, none⟩ = some (.int .i64 y)) W.drew := z3
     gi_wp2_with fail
     refine MixI.region2 hdep 14 [1, 1, 0, 0, 0, 0, 0, 0, 0, 0, 0, 2, 1, 2, 2] (fun W : World => W.cell? ⟨b9, 0, none⟩ = some (.int .i64 y)) (by kernel_rfl) (by kernel_rfl) hCW ?_
     simp only [List.zip_cons_cons, List.zip_nil_right, List.take_succ_cons, List.take_zero, List.drop_succ_cons, List.drop_zero]
     (refine MixI.step1 fun K hK => ?_; go_simp; (try (go_bits; try go_simp)); first | ((with_reducible refine hK _ _ ?_); clear hK K) | ((try (simp only [IntWalk.iteOmega]; try go_simp)); (try go_bits); (with_reducible refine hK _ _ ?_); clear hK K))
     (refine MixI.step1 fun K hK => ?_; go_simp; refine ⟨fun W => ?_, hK _ _ ?_⟩; (intro hW1; (try intro hW2); (try intro hW3); (try intro hW4); (try intro hW5); (try intro hW6); (try intro hW7); (try intro hW8); go_simp); clear hK K)
     iterate 9 (refine MixI.step0 fun K hK => ?_; go_simp; (try (go_bits; try go_simp)); first | ((with_reducible refine hK _ _ ?_); clear hK K) | ((try (simp only [IntWalk.iteOmega]; try go_simp)); (try go_bits); (with_reducible refine hK _ _ ?_); clear hK K))
     refine MixI.step2n (by first | rfl | simp [Region.wanted, yielded]) fun K hK => ?_
     gi_wp2_with fail
     refine ⟨trivial, ((callsIn_wide.2 (roomX_any M.N (some ⟨M.gE, 0, none⟩) M.cE S.es _ S.fl pa _ (hs.drew.rdRecs 11 rfl) (hs.drew.rdInts 8 rfl) (by omega))).inRound l).mono ?_⟩
     rintro en w5 ⟨rfl, hb⟩
     rw [HRM.out]
     have hs5 := hs.drew.belowStep hb
     clear hb hs z2 z3 zf2 zf3 s0 s1 s2 s3 s4 p0 hCW
     have z2 := cell_of (hs5.cells 5 rfl) 0
     have z3 := cell_of (hs5.cells 6 rfl) 0
     simp only [List.getElem?_toArray, List.getElem?_cons_zero, List.getElem?_cons_succ] at z2 z3
     rw [← HY.out] at z3
     have zf2 := frozen_of (hs5.cells 5 rfl) 0
     have zf3 := frozen_of (hs5.cells 6 rfl) 0
     have hCW : (fun W : World => W.cell? ⟨b9, 0, none⟩ = some (.int .i64 y)) w5 := z3
     gi_wp2_with fail
     refine MixI.post_mk (C := (fun W : World => W.cell? ⟨b9, 0, none⟩ = some (.int .i64 y))) (by first | exact hCW | exact HCW.out _) (hK _ _ ?_)
     clear hK K
     (refine MixI.step1 fun K hK => ?_; go_simp; (try (go_bits; try go_simp)); first | ((with_reducible refine hK _ _ ?_); clear hK K) | ((try (simp only [IntWalk.iteOmega]; try go_simp)); (try go_bits); (with_reducible refine hK _ _ ?_); clear hK K))
     refine MixI.step2n (by first | rfl | simp [Region.wanted, yielded]) fun K hK => ?_
     gi_wp2_with fail
     have hs6 := hs5.setCells 5 rfl 0 (.int .i64 pu) #[.int .i64 pu] rfl
     simp only [List.set_cons_zero, List.set_cons_succ] at hs6
     clear hs5 z2 z3 zf2 zf3 hCW
     have z3 := cell_of (hs6.cells 6 rfl) 0
     simp only [List.getElem?_toArray, List.getElem?_cons_zero, List.getElem?_cons_succ] at z3
     rw [← HY.out] at z3
     have zf3 := frozen_of (hs6.cells 6 rfl) 0
     have hCW : (fun W : World => W.cell? ⟨b9, 0, none⟩ = some (.int .i64 y)) (w5.setCell ⟨b8, 0, none⟩ (.int .i64 pu)) := z3
     refine MixI.post_mk (C := (fun W : World => W.cell? ⟨b9, 0, none⟩ = some (.int .i64 y))) (by first | exact hCW | exact HCW.out _) (hK _ _ ?_)
     clear hK K
     refine MixI.done ?_
     refine MixI.step2n (by first | rfl | simp [Region.wanted, yielded]) fun K hK => ?_
     gi_wp2_with fail
     refine MixI.post_mk (C := (fun _ => True)) trivial (hK _ _ ?_)
     clear hK K
     refine MixI.done ?_
     have hs7 := hs6.setCells 6 rfl 0 (.int .i64 y) #[.int .i64 y] rfl
     simp only [List.set_cons_zero, List.set_cons_succ] at hs7
     have HF := Lib.hid (show botF S.es S.fl (pre ++ [(pa, pu)]) (-x) = y by rw [HBS.out]; have := HC.out; omega)
     clear hs6 hCW z3 zf3
     gi_wp2
     show Sep _ _ _
     rw [HF.out, HRS.out]
     exact hs7
   case done =>
    rintro l DL o1 cs W hs
    clear hs4
    subst ha0
    have z2 := cell_of (hs.cells 5 rfl) 0
    have z3 := cell_of (hs.cells 6 rfl) 0
    simp only [List.getElem?_toArray, List.getElem?_cons_zero, List.getElem?_cons_succ] at z2 z3
    have zf3 := frozen_of (hs.cells 6 rfl) 0
    have s0 := cell_of (hs.cells 7 rfl) 0
    have s1 := cell_of (hs.cells 7 rfl) 1
    have s2 := cell_of (hs.cells 7 rfl) 2
    have s3 := cell_of (hs.cells 7 rfl) 3
    have s4 := cell_of (hs.cells 7 rfl) 4
    simp only [Sol.cells, Sol.at, List.getElem?_toArray, List.getElem?_cons_zero, List.getElem?_cons_succ] at s0 s1 s2 s3 s4
    have p0 := cell_of (hs.cells 15 rfl) 0
    simp only [List.getElem?_toArray, List.getElem?_cons_zero, List.getElem?_cons_succ] at p0
    have hR := HFF.out.root
    have HM := Lib.hid (show mostT M.N S B t = min (botF S.es S.fl (wayT M.N S B t) (-x)) (g S.ov (rootF t (wayT M.N S B t))) by unfold mostT; rw [HXE.out])
    obtain ⟨R, hRe⟩ : ∃ R, R = rootF t (wayT M.N S B t) := ⟨_, rfl⟩
    rw [← hRe] at hR z2
    have HRE := Lib.hid hRe
    rw [← hRe] at HM
    obtain ⟨y, hy⟩ : ∃ y, y = botF S.es S.fl (wayT M.N S B t) (-x) := ⟨_, rfl⟩
    rw [← hy] at z3 HM
    obtain ⟨_, _, eqz, _, x1⟩ := (hs.rdInts 10 rfl).at R (by rw [hlov]; exact hR)
    injection eqz with eqz
    injection eqz with eqz eqo
    subst eqz
    subst eqo
    rw [Nat.zero_add] at x1
    obtain ⟨q, hq⟩ : ∃ q, q = g S.ov R := ⟨_, rfl⟩
    rw [show S.ov.getD R 0 = q from hq.symm] at x1
    rw [← hq] at HM
    have hRI : (R : Int) < S.ov.length := by omega
    clear hq hy hRe
    dsimp only [Sol.at] at x1
    have HS := Lib.hid hs
    clear hs
    go_upto_region 15 with fail
    refine wp_cutM [none, none, none, none, none, none, none, none, none, none, none, none, none, none, none, none, none, none, none, none, none, none, none, none, none, none, none, none, none, none, none, none, none, none, none, none, none, none, none, none, none, none, none, none, none, none, none, none, none, none, none, none, none, none, none, none, none, none, none, none, none, none, none, none, none, none, none, none, none, none, none, some 71, some 72, some 73, some 74, some 75, some 76, some 77, some 78, some 79, none, none, none, none, none, none, none, none, none, none, none, none, none, none, none, none, none, none, none, none, none, none, none, none, none, none, none, none, none, none, none, none, none, none, none, none, none, none, none, none, none, none, none, none, none, none, none, none, none, none, none, none, none, none, none, none, none, none, none, none, none, none, none, none, none, none, none] (fun (f : Nat → Value) (wq : World) => Sep w0 wq (defT l o1 :: defT DL (.deferred (some [])) :: cellsT (BQ + 2) cs 3 :: fillL M (intsT .i64 2 (.slice ad M.N cd) D :: intsT .i64 3 (.slice ab M.N cb) B :: intsT .i64 3 (.slice au Z.length cu) Z :: cellsT B1 #[.pointer (some ⟨M.bs, 0, none⟩)] 79 :: M.ex) BQ b8 b9 (.slice ab M.N cb) R (mostT M.N S B t) S)) ?first1 ?rest1
    case' first1 => intro JC KC hJC hKC
    case' rest1 =>
     intro f wr l hl hrel
     (try simp only [mask] at hl)
     subst hl
     (try dsimp only at hrel)
    case first1 =>
     by_cases hc : q < y
     ·have hd : decide (q < y) = true := decide_eq_true hc
      refine Mix.region [0, 0, 0, 0, 0, 0, 0, 0, 0, 2] (fun _ => True) (by kernel_rfl) (by kernel_rfl) trivial ?_
      simp only [List.zip_cons_cons, List.zip_nil_right]
      iterate 9 (refine Mix.step0 fun K hK => ?_; go_simp; (try (go_bits; try go_simp)); first | ((with_reducible refine hK _ _ ?_); clear hK K) | ((try (simp only [IntWalk.iteOmega]; try go_simp)); (try go_bits); (with_reducible refine hK _ _ ?_); clear hK K))
      refine Mix.step2n (by first | rfl | simp [Region.wanted, yielded]) fun K hK => ?_
      go_wp2_with fail
      refine Mix.post_mk (C := (fun _ => True)) trivial (hK _ _ ?_)
      clear hK K
      refine Mix.done ?_
      have hs7 := HS.out.drew.setCells 6 rfl 0 (.int .i64 q) #[.int .i64 q] rfl
      simp only [List.set_cons_zero, List.set_cons_succ] at hs7
      have hm : mostT M.N S B t = q := by rw [HM.out]; omega
      go_wp2_with fail
      refine Meet.intro (by kernel_rfl) (hJC _ _ ?rel2)
      case' rel2 => (try dsimp only [nthV])
      rw [hm, HRE.out]
      exact hs7
     ·have hd : decide (q < y) = false := decide_eq_false hc
      refine Mix.region [0, 0, 0, 0, 0, 0, 0, 0, 0, 2] (fun _ => True) (by kernel_rfl) (by kernel_rfl) trivial ?_
      simp only [List.zip_cons_cons, List.zip_nil_right]
      iterate 9 (refine Mix.step0 fun K hK => ?_; go_simp; (try (go_bits; try go_simp)); first | ((with_reducible refine hK _ _ ?_); clear hK K) | ((try (simp only [IntWalk.iteOmega]; try go_simp)); (try go_bits); (with_reducible refine hK _ _ ?_); clear hK K))
      refine Mix.step2n (by first | rfl | simp [Region.wanted, yielded]) fun K hK => ?_
      go_wp2_with fail
      refine Mix.post_mk (C := (fun _ => True)) trivial (hK _ _ ?_)
      clear hK K
      refine Mix.done ?_
      have hs7 := HS.out.drew.setCells 6 rfl 0 (.int .i64 y) #[.int .i64 y] rfl
      simp only [List.set_cons_zero, List.set_cons_succ] at hs7
      have hm : mostT M.N S B t = y := by rw [HM.out]; omega
      go_wp2_with fail
      refine Meet.intro (by kernel_rfl) (hJC _ _ ?rel3)
      case' rel3 => (try dsimp only [nthV])
      rw [hm, HRE.out]
      exact hs7
    case rest1 =>
     clear HS x1 z2 z3 zf3 s0 s1 s2 s3 s4 p0 HM hRI
     have hm0 := HFF.out.m0
     have hm1 := HFF.out.m1
     obtain ⟨m, hm⟩ : ∃ m, m = mostT M.N S B t := ⟨_, rfl⟩
     rw [← hm] at hrel hm0 hm1
     have HME := Lib.hid hm
     clear hm
     have hs := hrel
     clear hrel
     unfold fillL at hs
     have p0 := cell_of (hs.cells 15 rfl) 0
     simp only [List.getElem?_toArray, List.getElem?_cons_zero, List.getElem?_cons_succ] at p0
     go_wp2_with fail
     refine (sback_any M.bs ab M.N cb t _).mono ?_
     rintro en w7 ⟨rfl, rfl⟩
     have hs4 := ((hs.newCells #[.pointer (some ⟨M.bs, 0, none⟩)] 79).newCells #[.slice ab M.N cb] 60).newCells #[.int .i64 t] 3
     simp only [World.size_alloc] at hs4
     clear hs p0
     go_wp2_with fail
     obtain ⟨W1, hW1⟩ : ∃ W1, W1 = ((wr.alloc (.cells #[.pointer (some ⟨M.bs, 0, none⟩)] 79)).alloc (.cells #[.slice ab M.N cb] 60)).alloc (.cells #[.int .i64 t] 3) := ⟨_, rfl⟩
     rw [← hW1] at hs4 ⊢
     clear hW1
     obtain ⟨BR, hBR⟩ : ∃ BR, BR = wr.heap.size := ⟨_, rfl⟩
     rw [← hBR] at hs4 ⊢
     clear hBR
     refine (wpIn_wide (n := 6)).1 ?_
     refine nameRF (m := 6) fun a0 ha0 => ?_
     refine wpIn_rangeV rfl (by decide) (gf := 84) (lb := #[.pointer (some ⟨BR + 1, 0, none⟩), .pointer (some ⟨BR + 2, 0, none⟩), .pointer (some ⟨BR, 0, none⟩)]) (by rw [ha0]; rfl) trivial (enters_of Try.func84 (by kernel_rfl) rfl) encP (fun _ => rfl)
      (fun pre => cellsT (BR + 1) #[.slice ab M.N cb] 60 :: cellsT BR #[.pointer (some ⟨M.bs, 0, none⟩)] 79 :: defT l o1 :: defT DL (.deferred (some [])) :: cellsT (BQ + 2) cs 3 :: cellsT (BQ + 1) #[.slice ab M.N cb] 60 :: cellsT BQ #[.pointer (some ⟨M.bs, 0, none⟩)] 79 :: cellsT b8 #[.int .i64 R] 3 :: cellsT b9 #[.int .i64 m] 2 :: solL (M.at (intsT .i64 2 (.slice ad M.N cd) D :: intsT .i64 3 (.slice ab M.N cb) B :: intsT .i64 3 (.slice au Z.length cu) Z :: cellsT B1 #[.pointer (some ⟨M.bs, 0, none⟩)] 79 :: M.ex)) { S with fl := pushP S.fl pre m })
      (BR + 2) 3 #[.int .i64 t] hs4 (wayT M.N S B t)
      (fun J W1 hJb hJd hJv hJs hJy h0 => back1_in (6 - 1) (by decide) _ w0 BR (BR + 1) (BR + 2) M.bs 0 1 9 13 15 M.N S.es.length S.steps M.cE M.gE S.es B _ (.slice (some ⟨M.gF, 0, none⟩) S.es.length S.es.length) (.slice (some ⟨M.gP, 0, none⟩) M.N M.N) (.slice (some ⟨M.gO, 0, none⟩) M.N M.N) t (wayT M.N S B t) _ hN (by omega) rfl ?hke2 HR.out HLB.out (fun _ => rfl) (fun _ => rfl) (fun _ => rfl) (fun _ => rfl) (fun _ => rfl) HFH.out.bk J W1 hJb hJd hJv hJs hJy h0)
      (fun p => { tmps := ((a0.tmps.setIfInBounds 84 (.int .i64 p.1)).setIfInBounds 85 (.int .i64 p.2)).setIfInBounds 12 (.int .i64 p.1), defers := [] })
      ?assign2 ?body2 ?done2
     case hke2 => intro e he; have := (edgeB_iff _ _).1 ((right_cap HR.out).2.2.2.2 _ he); exact ⟨this.2.2.2.2.1, this.2.2.2.2.2⟩
     case assign2 =>
      rintro l ⟨pa, pu⟩ W K hK
      clear hs4
      subst ha0
      dsimp only [encP]
      gi_wp2
      exact hK
     case body2 =>
      rintro l2 DL2 o3 o4 cs2 pre ⟨pa, pu⟩ W hpl hs
      clear hs4
      obtain ⟨c1, c2, c3, c4⟩ := HFH.out.arc hpl m
      dsimp only at c1 c2 c3
      have hwa := within_at HWI.out (show pa / 2 < S.es.length by omega)
      have hwc := (edgeB_iff _ _).1 ((right_cap HR.out).2.2.2.2 _ (List.getElem_mem (show pa / 2 < S.es.length by omega)))
      obtain ⟨f, hf⟩ : ∃ f, f = g S.fl (pa / 2) := ⟨_, rfl⟩
      rw [show S.fl.getD (pa / 2) 0 = f from hf.symm] at hwa
      have hfb : 0 ≤ f ∧ f ≤ 4503599627370496 := by omega
      rw [← hf] at c3
      have HPS := Lib.hid (show pushP S.fl (pre ++ [(pa, pu)]) m = (pushP S.fl pre m).set (pa / 2) (f + if oddB pa = true then -m else m) by
       rw [pushP_snoc]; unfold pushL sgn; dsimp only; rw [show (pushP S.fl pre m).getD (pa / 2) 0 = f from c3])
      have hlen : (pushP S.fl pre m).length = S.es.length := by rw [pushP_len, (within_cap HWI.out).1]
      clear hwa hwc hf
      have hb := and1_i64 pa (by omega)
      have ha : pa ≤ 1000000 := by omega
      unfold solL at hs
      have s0 := cell_of (hs.cells 12 rfl) 0
      have s1 := cell_of (hs.cells 12 rfl) 1
      have s2 := cell_of (hs.cells 12 rfl) 2
      have s3 := cell_of (hs.cells 12 rfl) 3
      have s4 := cell_of (hs.cells 12 rfl) 4
      simp only [Sol.cells, Sol.at, List.getElem?_toArray, List.getElem?_cons_zero, List.getElem?_cons_succ] at s0 s1 s2 s3 s4
      have p0 := cell_of (hs.cells 20 rfl) 0
      have z3 := cell_of (hs.cells 11 rfl) 0
      simp only [List.getElem?_toArray, List.getElem?_cons_zero, List.getElem?_cons_succ] at p0 z3
      obtain ⟨g', cg', eg, _, hcR, xf⟩ := (hs.ints 13 rfl).get (pa / 2) (by show pa / 2 < (pushP S.fl pre m).length; rw [hlen]; omega)
      injection eg with eg q1 q2
      injection eg with eg
      injection eg with eg
      subst eg
      have x1 := hcR (pa / 2) (by show pa / 2 < (pushP S.fl pre m).length; rw [hlen]; omega)
      clear q1 q2 hcR
      (try dsimp only [Sol.at] at x1 xf)
      rw [show (pushP S.fl pre m).getD (pa / 2) 0 = f from c3] at x1
      have hhf : pa / 2 < S.es.length := by omega
      have hhi : (pa : Int) / 2 < S.es.length := by omega
      have hdep : (Fence.inRound Fence.wide l2).depth = none := rfl
      subst ha0
      clear c3 hlen
      cases ho : oddB pa
      ·rw [ho] at HPS
       have hmod : ((pa : Int) % 2 == 0) = true := by unfold oddB at ho; simp at ho ⊢; omega
       clear ho
       gi_wp2_with fail
       refine MixI.region hdep [0, 0, 0, 0, 0, 0, 0, 0, 0, 0, 0, 2] (fun _ => True) (by kernel_rfl) (by kernel_rfl) trivial ?_
       simp only [List.zip_cons_cons, List.zip_nil_right]
       iterate 11 (refine MixI.step0 fun K hK => ?_; go_simp; (try (go_bits; try go_simp)); first | ((with_reducible refine hK _ _ ?_); clear hK K) | ((try (simp only [IntWalk.iteOmega]; try go_simp)); (try go_bits); (with_reducible refine hK _ _ ?_); clear hK K))
       refine MixI.step2n (by first | rfl | simp [Region.wanted, yielded]) fun K hK => ?_
       gi_wp2_with fail
       refine MixI.post_mk (C := (fun _ => True)) trivial (hK _ _ ?_)
       clear hK K
       refine MixI.done ?_
       have hs3 := (hs.setInts (j := pa / 2) 13 rfl (f + m)).drew
       simp only [List.set_cons_zero, List.set_cons_succ] at hs3
       (try dsimp only at hs3)
       rw [show (pushP S.fl pre m).set (pa / 2) (f + m) = pushP S.fl (pre ++ [(pa, pu)]) m from HPS.out.symm] at hs3
       clear hs x1 xf s0 s1 s2 s3 s4 p0 z3
       gi_wp2
       exact hs3
      ·rw [ho] at HPS
       have hmod : ((pa : Int) % 2 == 0) = false := by unfold oddB at ho; simp at ho ⊢; omega
       clear ho
       gi_wp2_with fail
       refine MixI.region hdep [0, 0, 0, 0, 0, 0, 0, 0, 0, 0, 0, 2] (fun _ => True) (by kernel_rfl) (by kernel_rfl) trivial ?_
       simp only [List.zip_cons_cons, List.zip_nil_right]
       iterate 11 (refine MixI.step0 fun K hK => ?_; go_simp; (try (go_bits; try go_simp)); first | ((with_reducible refine hK _ _ ?_); clear hK K) | ((try (simp only [IntWalk.iteOmega]; try go_simp)); (try go_bits); (with_reducible refine hK _ _ ?_); clear hK K))
       refine MixI.step2n (by first | rfl | simp [Region.wanted, yielded]) fun K hK => ?_
       gi_wp2_with fail
       refine MixI.post_mk (C := (fun _ => True)) trivial (hK _ _ ?_)
       clear hK K
       refine MixI.done ?_
       have hs3 := (hs.setInts (j := pa / 2) 13 rfl (f - m)).drew
       simp only [List.set_cons_zero, List.set_cons_succ] at hs3
       (try dsimp only at hs3)
       rw [show (pushP S.fl pre m).set (pa / 2) (f - m) = pushP S.fl (pre ++ [(pa, pu)]) m from by rw [HPS.out]; rfl] at hs3
       clear hs x1 xf s0 s1 s2 s3 s4 p0 z3
       gi_wp2
       exact hs3
     case done2 =>
      rintro l2 DL2 o3 cs2 W hs
      clear hs4
      subst ha0
      replace hs := sol_ins [_, _, _, _, _, _, _, _, _, _, _, _] hs
      simp only [List.cons_append, List.nil_append] at hs
      rw [show pushP S.fl (wayT M.N S B t) m = flT M.N S B t by unfold flT; rw [HME.out]] at hs
      have hRt : R ≠ t := by intro e; have := HFF.out.ovr; have h2 := HFF.out.ovt; rw [← HRE.out, e] at this; omega
      obtain ⟨q, hq⟩ : ∃ q, q = g S.ov R := ⟨_, rfl⟩
      have hqb := SI_ovb HSI.out hR
      rw [← hq] at hqb
      have HOV := Lib.hid (show ovT M.N S B t = (S.ov.set R (q - m)).set t (x + m) by
       unfold ovT
       rw [← HRE.out, ← HME.out, ← hq, g_set (by rw [hlov]; exact hR), upd_ne _ _ hRt, HXE.out])
      have hxt : g (S.ov.set R (q - m)) t = x := by rw [g_set (by rw [hlov]; exact hR), upd_ne _ _ hRt, HXE.out]
      have HQ := Lib.hid hq
      have HXT := Lib.hid hxt
      clear hq hxt hRt
      have hRO : R < S.ov.length := by rw [hlov]; exact hR
      have hRI : (R : Int) < M.N := by omega
      have htI : (t : Int) < M.N := by omega
      have HS := Lib.hid hs
      unfold solL at hs
      have s0 := cell_of (hs.cells 0 rfl) 0
      have s1 := cell_of (hs.cells 0 rfl) 1
      have s2 := cell_of (hs.cells 0 rfl) 2
      have s3 := cell_of (hs.cells 0 rfl) 3
      have s4 := cell_of (hs.cells 0 rfl) 4
      simp only [Sol.cells, Sol.at, List.getElem?_toArray, List.getElem?_cons_zero, List.getElem?_cons_succ] at s0 s1 s2 s3 s4
      have p0 := cell_of (hs.cells 20 rfl) 0
      have z2 := cell_of (hs.cells 15 rfl) 0
      have z3 := cell_of (hs.cells 16 rfl) 0
      simp only [List.getElem?_toArray, List.getElem?_cons_zero, List.getElem?_cons_succ] at p0 z2 z3
      obtain ⟨g', cg', eg, _, hcR, xf⟩ := (hs.ints 3 rfl).get R hRO
      injection eg with eg q1 q2
      injection eg with eg
      injection eg with eg
      subst eg
      have x1 := hcR R hRO
      clear q1 q2 hcR
      (try dsimp only [Sol.at] at x1 xf)
      rw [show S.ov.getD R 0 = q from HQ.out.symm] at x1
      go_wp2_with fail
      refine Mix.region [0, 0, 0, 0, 0, 0, 0, 0, 0, 0, 2] (fun _ => True) (by kernel_rfl) (by kernel_rfl) trivial ?_
      simp only [List.zip_cons_cons, List.zip_nil_right]
      iterate 10 (refine Mix.step0 fun K hK => ?_; go_simp; (try (go_bits; try go_simp)); first | ((with_reducible refine hK _ _ ?_); clear hK K) | ((try (simp only [IntWalk.iteOmega]; try go_simp)); (try go_bits); (with_reducible refine hK _ _ ?_); clear hK K))
      refine Mix.step2n (by first | rfl | simp [Region.wanted, yielded]) fun K hK => ?_
      go_wp2_with fail
      refine Mix.post_mk (C := (fun _ => True)) trivial (hK _ _ ?_)
      clear hK K
      refine Mix.done ?_
      have hs3 := (hs.setInts (j := R) 3 rfl (q - m)).drew
      simp only [List.set_cons_zero, List.set_cons_succ] at hs3
      clear hs HS x1 xf s0 s1 s2 s3 s4 p0 z2 z3
      (try dsimp only [Sol.at] at hs3)
      generalize World.drew _ = W5 at hs3 ⊢
      have hs := hs3
      clear hs3
      have s0 := cell_of (hs.cells 0 rfl) 0
      have s1 := cell_of (hs.cells 0 rfl) 1
      have s2 := cell_of (hs.cells 0 rfl) 2
      have s3 := cell_of (hs.cells 0 rfl) 3
      have s4 := cell_of (hs.cells 0 rfl) 4
      simp only [Sol.cells, Sol.at, List.getElem?_toArray, List.getElem?_cons_zero, List.getElem?_cons_succ] at s0 s1 s2 s3 s4
      have p0 := cell_of (hs.cells 20 rfl) 0
      have z3 := cell_of (hs.cells 16 rfl) 0
      simp only [List.getElem?_toArray, List.getElem?_cons_zero, List.getElem?_cons_succ] at p0 z3
      obtain ⟨g', cg', eg, _, hcR, xf⟩ := (hs.ints 3 rfl).get t (by rw [List.length_set]; exact htO)
      injection eg with eg q1 q2
      injection eg with eg
      injection eg with eg
      subst eg
      have x1 := hcR t (by rw [List.length_set]; exact htO)
      clear q1 q2 hcR
      (try dsimp only [Sol.at] at x1 xf)
      rw [show (S.ov.set R (q - m)).getD t 0 = x from HXT.out] at x1
      go_wp2_with fail
      refine Mix.region [0, 0, 0, 0, 0, 0, 0, 0, 0, 0, 2] (fun _ => True) (by kernel_rfl) (by kernel_rfl) trivial ?_
      simp only [List.zip_cons_cons, List.zip_nil_right]
      iterate 10 (refine Mix.step0 fun K hK => ?_; go_simp; (try (go_bits; try go_simp)); first | ((with_reducible refine hK _ _ ?_); clear hK K) | ((try (simp only [IntWalk.iteOmega]; try go_simp)); (try go_bits); (with_reducible refine hK _ _ ?_); clear hK K))
      refine Mix.step2n (by first | rfl | simp [Region.wanted, yielded]) fun K hK => ?_
      go_wp2_with fail
      refine Mix.post_mk (C := (fun _ => True)) trivial (hK _ _ ?_)
      clear hK K
      refine Mix.done ?_
      have hs3 := (hs.setInts (j := t) 3 rfl (x + m)).drew
      simp only [List.set_cons_zero, List.set_cons_succ] at hs3
      rw [← HOV.out] at hs3
      clear hs x1 xf s0 s1 s2 s3 s4 p0 z3
      (try dsimp only [Sol.at] at hs3)
      generalize World.drew _ = W6 at hs3 ⊢
      replace hs3 : Sep w0 W6 (solL (M.at _) { S with fl := flT M.N S B t, ov := ovT M.N S B t }) := hs3
      have HDT := Lib.hid HFF.out.dt0
      have HDT1 := Lib.hid HFF.out.dt1
      obtain ⟨dt, hdt⟩ : ∃ dt, dt = g D t := ⟨_, rfl⟩
      rw [← hdt] at HDT HDT1
      obtain ⟨bd, od, eqd, _, x1⟩ := (hs3.rdInts 17 rfl).at t (by rw [HLD.out]; exact htN)
      rw [show D.getD t 0 = dt from hdt.symm] at x1
      have HDE := Lib.hid hdt
      clear hdt
      subst eqd
      have p0 := cell_of (hs3.cells 20 rfl) 0
      simp only [List.getElem?_toArray, List.getElem?_cons_zero, List.getElem?_cons_succ] at p0
      go_wp2_with fail
      refine Mix.region [0, 0, 0, 0, 0, 0, 2] (fun _ => True) (by kernel_rfl) (by kernel_rfl) trivial ?_
      simp only [List.zip_cons_cons, List.zip_nil_right]
      iterate 6 (refine Mix.step0 fun K hK => ?_; go_simp; (try (go_bits; try go_simp)); first | ((with_reducible refine hK _ _ ?_); clear hK K) | ((try (simp only [IntWalk.iteOmega]; try go_simp)); (try go_bits); (with_reducible refine hK _ _ ?_); clear hK K))
      refine Mix.step2n (by first | rfl | simp [Region.wanted, yielded]) fun K hK => ?_
      go_wp2_with fail
      refine (raise_x M _ { S with fl := flT M.N S B t, ov := ovT M.N S B t } w0 _ _ D dt HLP.out hN HSI.out.small HDT.out HDT1.out hs3.drew 17 (by intro _; rfl) HLD.out).mono ?_
      rintro en w8 ⟨⟨v8, rfl⟩, hs8⟩
      clear hs3 x1 p0
      have p0 := cell_of (hs8.cells 20 rfl) 0
      simp only [List.getElem?_toArray, List.getElem?_cons_zero, List.getElem?_cons_succ] at p0
      go_wp2_with fail
      refine Mix.post_mk (C := (fun _ => True)) trivial (hK _ _ ?_)
      clear hK K
      refine Mix.done ?_
      go_wp2_with fail
      refine (narrow_x M _ { S with fl := flT M.N S B t, ov := ovT M.N S B t, pot := raiseN S.pot D dt M.N } w0 _ HFF.out.within (by rw [HDE.out]; exact HFF.out.tight) (by show (raiseN S.pot D dt M.N).length = M.N; rw [raiseN_len]; exact HLP.out) hs8).mono ?_
      rintro en w9 ⟨⟨v9, rfl⟩, hs9⟩
      clear hs8 p0
      have p0 := cell_of (hs9.cells 20 rfl) 0
      have s5 := cell_of (hs9.cells 0 rfl) 5
      simp only [Sol.at, Sol.cells, List.getElem?_toArray, List.getElem?_cons_zero, List.getElem?_cons_succ] at p0 s5
      have sf := frozen_of (hs9.cells 0 rfl) 5
      (try dsimp only [Sol.at] at sf)
      go_wp2_with fail
      have hs10 := hs9.setCells 0 rfl 5 (.int .i64 ((S.steps : Int) + 1)) ((M.at []).cells S.es.length (S.steps + 1)) (by simp [Sol.cells, Sol.at])
      clear hs9 p0 s5 sf
      have hs11 := show Sep w0 _ (solL (M.at _) { S with fl := flT M.N S B t, ov := ovT M.N S B t, pot := narrowF S.es (flT M.N S B t) (raiseN S.pot D dt M.N) M.N, steps := S.steps + 1 }) from hs10
      clear hs10
      rw [show ({ S with fl := flT M.N S B t, ov := ovT M.N S B t, pot := narrowF S.es (flT M.N S B t) (raiseN S.pot D dt M.N) M.N, steps := S.steps + 1 } : St) = fillS M.N S D B t by unfold fillS; rw [← HDE.out]] at hs11
      have HD2 := Lib.hid (hs11.obj_ 6 rfl)
      have hs12 := hs11.putD (o' := .deferred none) 6 rfl
      simp only [solL, Sol.at, List.set_cons_zero, List.set_cons_succ] at hs12
      have HD3 := Lib.hid (hs12.obj_ 11 rfl)
      have hs13 := hs12.putD (o' := .deferred none) 11 rfl
      simp only [List.set_cons_zero, List.set_cons_succ] at hs13
      have hs14 := sol_outs [_, _, _, _, _, _, _, _, _, _, _, _, _, _, _, _] (M := M) (ex := M.ex) (S := fillS M.N S D B t) hs13
      refine ⟨by simp, .inl ⟨_, _, rfl, run_takeDeferred HD2.out, ?_⟩⟩
      refine ⟨by simp, .inl ⟨_, _, rfl, run_takeDeferred HD3.out, ?_⟩⟩
      exact ⟨.bool true, by simp [results, Try.results41, go_sem], .inr ⟨_, ⟨D, B, t, HFH.out, rfl⟩, rfl, hs14.tail.tail.tail.tail.tail.tail.tail.tail.tail.tail.tail.tail.tail.tail.tail.tail⟩⟩
end Go.Proofs.Ytjijhpflkkicaaa
