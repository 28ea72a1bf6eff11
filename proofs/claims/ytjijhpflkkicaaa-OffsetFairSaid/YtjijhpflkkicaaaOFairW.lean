/-
 OffsetFair, walked.
-/
import Derived.Test.YtjijhpflkkicaaaOAgainW
import Derived.Test.YtjijhpflkkicaaaBBestW
set_option linter.unusedVariables false
set_option linter.unusedSimpArgs false
namespace Go.OffP
open Go Go.Mem Go.MoneyP Go.BuildP
def noRooms : List Int := List.replicate 16 0
theorem noRooms_at (i : Nat) : noRooms.getD i 0 = 0 := rep_getD 16 i
theorem good_right {l : List Du} (h : GoodN 16 l) : rightR noRooms l = true := by
 have h1 := h.sum
 unfold sumX at h1
 have h2 := h.len
 unfold rightR
 simp only [Bool.and_eq_true, decide_eq_true_eq, List.all_eq_true]
 refine ⟨⟨⟨⟨by decide, h2⟩, by decide⟩, fun d hd => ⟨(mayD_iff d).2 (h.may d hd), ?_⟩⟩, h1⟩
 have := h.inn d hd
 unfold inD
 simp only [Bool.and_eq_true, decide_eq_true_eq]
 exact this
theorem out_flow (j : Nat) : ∀ (Q : List (Du × Int)) (o : List Int), o.length = 16 → (∀ q ∈ Q, MayD q.1 ∧ q.1.f < 16 ∧ q.1.t < 16) → (Q.foldl stepO o).getD j 0 = o.getD j 0 + (Q.map fun q => flowD (j : Int) q.1 q.2).sum
 | [], o, _, _ => by simp
 | q :: Q, o, ho, hQ => by
  obtain ⟨m1, m2, m3⟩ := hQ q (by simp)
  have f0 := m1.f0
  have t0 := m1.t0
  have hl : (stepO o q).length = o.length := by unfold stepO; rw [List.length_set, List.length_set]
  rw [List.foldl_cons, out_flow j Q _ (by rw [hl]; exact ho) (fun q hq => hQ q (List.mem_cons_of_mem _ hq)), stepO_at m1 (by rw [ho]; exact m2) (by rw [ho]; exact m3) j, List.map_cons, List.sum_cons]
  unfold flowD
  have e1 : (q.1.f.toNat = j) = (q.1.f = (j : Int)) := by apply propext; omega
  have e2 : (q.1.t.toNat = j) = (q.1.t = (j : Int)) := by apply propext; omega
  simp only [e1, e2]
  omega
theorem fair_permit {l : List Du} {ps : List Int} (h : GoodN 16 l) (hp : PayOk (openL l) ps) (hb : ∀ a, bal (openL l) ps a = 0) : permitB noRooms l true ps = true := by
 have hO := good_open h
 have hz : ∀ q ∈ (openL l).zip ps, MayD q.1 ∧ q.1.f < 16 ∧ q.1.t < 16 := fun q hq => hO q.1 (List.of_mem_zip hq).1
 unfold permitB permitQ
 rw [good_right h, Bool.true_and, Bool.and_eq_true, decide_eq_true_eq, Bool.and_eq_true]
 refine ⟨hp.len.symm, all_pay hp.len.symm fun i hi => ⟨hp.lo i hi, by have := hp.hi i hi; rwa [getDu hi] at this⟩, List.all_eq_true.2 fun i hi => ?_⟩
 have e : (outQ noRooms.length ((openL l).zip ps)).getD i 0 = 0 := by
  unfold outQ
  rw [out_flow i _ _ (by simp [noRooms]) hz, rep_getD]
  have := hb i
  unfold bal at this
  rw [this]; rfl
 unfold fitI
 rw [e, noRooms_at]
 rfl
end Go.OffP
namespace Go.Proofs.Ytjijhpflkkicaaa
open Go Go.RowKit Go.Mem Go.MoneyP Go.NetP Go.BuildP Go.CertP Go.OffP Go.Shelf
theorem NetsD.yes {n : Int} {l : List Du} {w w' : World} {en : Ending} (h : NetsD n l w en w') (h0 : netsE n l = 0) : ∃ v, en = .returned (.tuple #[v, .int .i64 0]) ∧ Sep w w' [intsT .i64 2 v (netsF n.toNat l)] := by
 rcases h with ⟨h1, _, _⟩ | ⟨_, v, rfl, hs⟩
 ·exact absurd h0 h1
 ·exact ⟨v, rfl, hs⟩
theorem TableD.yes {n : Int} {l : List Du} {w w' : World} {en : Ending} (h : TableD n l w en w') (h0 : netsE n l = 0) : ∃ v, en = .returned (.tuple #[v, .int .i64 0]) ∧ GridR w' v (tableM n.toNat (openL l)) ∧ Below w.heap.size w w' := by
 obtain ⟨v, e, g, b⟩ := TableD.uni h
 unfold tabR at g
 rw [if_pos h0] at g
 rw [h0] at e
 exact ⟨v, e, g, b⟩
theorem FindD.no {l : List Du} {w w' : World} {en : Ending} (h : FindD l w en w') (ha : Acyc l) : en = .returned (.tuple #[.slice none 0 0, .bool false]) ∧ Below w.heap.size w w' := by
 rcases h with ⟨a, n, c, q, _, hr, _⟩ | ⟨e, _, hb⟩
 ·exact absurd hr (ha.noRing q)
 ·exact ⟨e, hb⟩
set_option maxRecDepth 100000 in
set_option maxHeartbeats 8000000 in
theorem offsetFair_any (l : List Du) (vl : Value) (w : World) (h : RdG duR w vl l) :
  Calls Try.prog 6 #[vl] w fun e w' => e = .returned (.bool true) ∧ Below w.heap.size w w' := by
 obtain ⟨i0, hi0, hz0, hz1, hz2⟩ := info_parts Try.infoI64o
 obtain ⟨al, cl, rfl⟩ := h.shape
 have hle := h.le'
 have HM := Lib.hid (rmay29_any 16 l _ w h)
 cases hm : may29 16 l
 ·rw [hm] at HM
  clear hm
  go_enter Try.func6, Try.ntmps6
  go_wp2_with fail
  refine HM.out.mono ?_
  rintro en w1 ⟨rfl, hb⟩
  have hs := (Sep.start w).belowStep hb
  clear hb
  go_wp2_with fail
  refine (oworks_any _).mono ?_
  rintro en w9 ⟨rfl, hb⟩
  go_wp2_with fail
  go_ret
  exact ⟨rfl, (hs.belowStep hb).below⟩
 rw [hm] at HM
 have hl64 := (all_parts (may29_parts hm).2.1).1
 have HME := Lib.hid (may29_nets hm)
 clear hm
 go_enter Try.func6, Try.ntmps6
 go_wp2_with fail
 refine HM.out.mono ?_
 rintro en w1 ⟨rfl, hb⟩
 have hs := (Sep.start w).belowStep hb
 clear hb HM
 go_wp2_with fail
 refine (nets_any 16 l _ _ (hs.rdG h)).mono ?_
 intro en w2 hP
 rcases HME.out with hE | hE
 rotate_left
 ·rcases hP with ⟨_, rfl, hb⟩ | ⟨h0, _⟩
  rotate_left
  ·rw [hE] at h0; cases h0
  replace hs := hs.belowStep hb
  rw [hE]
  clear hb hE HME
  go_wp2_with fail
  refine (oworks_any _).mono ?_
  rintro en w9 ⟨rfl, hb⟩
  go_wp2_with fail
  go_ret
  exact ⟨rfl, (hs.belowStep hb).below⟩
 obtain ⟨N, hN, hgood⟩ := netsE_good hE
 obtain rfl : N = 16 := by omega
 have HE := Lib.hid hE
 have HGO := Lib.hid hgood
 obtain ⟨vn, rfl, k1⟩ := NetsD.yes hP hE
 clear hE hN HME hP
 replace hs := hs.join k1
 simp only [List.cons_append, List.nil_append] at hs
 clear k1
 have HRT := Lib.hid (good_right hgood)
 have HNET := Lib.hid (right_net (good_right hgood) true)
 have HBP := Lib.hid (fun fl pot => best_pays (c := true) (fl := fl) (pot := pot) (good_right hgood))
 have HOL := Lib.hid (show (openL l).length ≤ 64 by have := open_le l; omega)
 clear hgood
 obtain ⟨an, cn, rfl⟩ := (hs.rdInts 0 rfl).shape
 obtain ⟨NF, hNF⟩ : ∃ NF, NF = netsF (16 : Int).toNat l := ⟨_, rfl⟩
 have HNF := Lib.hid hNF
 rw [← hNF] at hs ⊢
 clear hNF
 go_wp2_with (at_make; refine wpList_makeInts rfl _ _ 23 rfl 2 i0 .i64 8 Try.underlying23 hi0 hz0 hz1 hz2 16 .i64 .i64 rfl rfl hs ?m1 ?m2 ?m3)
 case m1 => (try simp); (try simp only [maxLen]); (try omega)
 case m2 => (try simp); (try simp only [maxLen]); (try omega)
 case m3 =>
  intro w3 gr hs2
  clear hs
  have hs : Sep w w3 [intsT .i64 2 (.slice (some ⟨gr, 0, none⟩) 16 16) noRooms, intsT .i64 2 (.slice an NF.length cn) NF] := hs2
  clear hs2
  go_wp2_with fail
  refine (round_any noRooms l true _ _ _ (hs.rdInts 0 rfl) (hs.rdG h) (by omega)).mono ?_
  rintro en w4 (⟨h0, _, _⟩ | ⟨_, ve, vi, rfl, k1⟩)
  ·exact absurd (HRT.out.symm.trans h0) (by decide)
  replace hs := hs.join k1
  clear k1
  simp only [List.cons_append, List.nil_append] at hs
  obtain ⟨ae, ce, rfl⟩ := (hs.rdRecs 0 rfl).shape
  obtain ⟨ai, ci, rfl⟩ := (hs.rdInts 1 rfl).shape
  obtain ⟨O, hO⟩ : ∃ O, O = openL l := ⟨_, rfl⟩
  obtain ⟨E, hE⟩ : ∃ E, E = edgesL noRooms l true := ⟨_, rfl⟩
  rw [← hO, ← hE] at hs
  rw [List.length_map] at hs ⊢
  rw [← hO]
  rw [← hE] at HNET HBP ⊢
  rw [← hO] at HBP HOL
  have HO := Lib.hid hO
  clear hO hE
  replace hs := hs.newCells #[.int .i64 (noRooms.length + 1), .slice ae E.length ce] 48
  go_upto_region 8 with fail
  obtain ⟨B1, hB1⟩ : ∃ B1, B1 = w4.heap.size := ⟨_, rfl⟩
  rw [← hB1] at hs ⊢
  clear hB1
  generalize World.alloc w4 _ = W3 at hs ⊢
  have n0 := cell_of (hs.cells 0 rfl) 0
  have n1 := cell_of (hs.cells 0 rfl) 1
  simp only [List.getElem?_toArray, List.getElem?_cons_zero, List.getElem?_cons_succ] at n0 n1
  go_wp2_with fail
  refine (best_uni (noRooms.length + 1) ae ce E _ (hs.rdRecs 1 rfl)).mono ?_
  rintro en w5 ⟨af, cf, aq, cq, fl, pot, st, er, hbd, rfl, k1⟩
  obtain ⟨rfl, hck, _, _, hfl⟩ := hbd.yes HNET.out
  clear hfl hbd
  obtain ⟨g1, g2, g3⟩ := HBP.out fl pot hck
  have HG3 := Lib.hid g3
  have HPT := Lib.hid (show fl.take (payN (O.length : Int) fl.length) = fl.take O.length by unfold payN; rw [Int.toNat_natCast, Nat.min_eq_left g2])
  have HPQ := Lib.hid (show PayQ O (fl.take O.length) by rw [HO.out] at g1 ⊢; exact payQ_of g1)
  have hfl5 : fl.length ≤ 1000000 := by
   have q1 := (within_cap (flows_within (check_flows hck).2.1)).1
   have q2 := (right_cap HNET.out).2.2.1
   omega
  have HFL5 := Lib.hid hfl5
  clear hck g1 g2 g3 HBP hfl5
  replace hs := (hs.join k1).newCells #[.slice af fl.length cf, .slice aq pot.length cq] 53
  simp only [List.cons_append, List.nil_append] at hs
  clear k1 n0 n1
  go_upto_region 11 with fail
  obtain ⟨B4, hB4⟩ : ∃ B4, B4 = w5.heap.size := ⟨_, rfl⟩
  rw [← hB4] at hs ⊢
  clear hB4
  generalize World.alloc w5 _ = W4 at hs ⊢
  go_wp2_with fail
  refine (opays_any 16 l _ _ (hs.rdG h)).mono ?_
  intro en w6 hP
  obtain ⟨v1, rfl, k1⟩ := PaysD.yes hP HE.out
  clear hP
  replace hs := hs.join k1
  simp only [List.cons_append, List.nil_append] at hs
  clear k1
  go_wp2_with fail
  refine (rings_any 16 l _ _ (hs.rdG h)).mono ?_
  intro en w7 hP
  obtain ⟨v2, rs, rn, rfl, hR, k1⟩ := RingsD.yes hP HE.out
  clear hP
  replace hs := hs.join k1
  simp only [List.cons_append, List.nil_append] at hs
  clear k1
  have HR := Lib.hid hR
  have hrn : (rn : Int) ≤ l.length := by have := hR.cnt; have := open_le l; omega
  clear hR
  obtain ⟨a1, c1, rfl⟩ := (hs.rdInts 1 rfl).shape
  obtain ⟨a2, c2, rfl⟩ := (hs.rdInts 0 rfl).shape
  obtain ⟨P, hP⟩ : ∃ P, P = paysL (16 : Int).toNat (openL l) := ⟨_, rfl⟩
  have HP := Lib.hid hP
  rw [← hP] at hs ⊢
  clear hP
  go_upto_region 15 with fail
  go_wp2_with fail
  replace hs := hs.drew
  have hCW : (fun W : World => W.cell? ⟨B1, 0, none⟩ = some (.int .i64 (noRooms.length + 1)) ∧ W.cell? ⟨B1, 1, none⟩ = some (.slice ae E.length ce) ∧ W.cell? ⟨B4, 0, none⟩ = some (.slice af fl.length cf)) _ := ⟨cell_of (hs.cells 5 rfl) 0, cell_of (hs.cells 5 rfl) 1, cell_of (hs.cells 2 rfl) 0⟩
  refine Mix.region [1, 1, 1, 1, 0, 2, 0, 2, 2, 0] (fun W : World => W.cell? ⟨B1, 0, none⟩ = some (.int .i64 (noRooms.length + 1)) ∧ W.cell? ⟨B1, 1, none⟩ = some (.slice ae E.length ce) ∧ W.cell? ⟨B4, 0, none⟩ = some (.slice af fl.length cf)) (by kernel_rfl) (by kernel_rfl) hCW ?_
  simp only [List.zip_cons_cons, List.zip_nil_right]
  (refine Mix.step1 fun K hK => ?_; go_simp; (try (go_bits; try go_simp)); first | ((with_reducible refine hK _ _ ?_); clear hK K) | ((try (simp only [IntWalk.iteOmega]; try go_simp)); (try go_bits); (with_reducible refine hK _ _ ?_); clear hK K))
  (refine Mix.step1 fun K hK => ?_; go_simp; refine ⟨fun W => ?_, hK _ _ ?_⟩; (intro hW1; (try intro hW2); (try intro hW3); (try intro hW4); (try intro hW5); (try intro hW6); (try intro hW7); (try intro hW8); go_simp); clear hK K)
  (refine Mix.step1 fun K hK => ?_; go_simp; (try (go_bits; try go_simp)); first | ((with_reducible refine hK _ _ ?_); clear hK K) | ((try (simp only [IntWalk.iteOmega]; try go_simp)); (try go_bits); (with_reducible refine hK _ _ ?_); clear hK K))
  (refine Mix.step1 fun K hK => ?_; go_simp; refine ⟨fun W => ?_, hK _ _ ?_⟩; (intro hW1; (try intro hW2); (try intro hW3); (try intro hW4); (try intro hW5); (try intro hW6); (try intro hW7); (try intro hW8); go_simp); clear hK K)
  iterate 1 (refine Mix.step0 fun K hK => ?_; go_simp; (try (go_bits; try go_simp)); first | ((with_reducible refine hK _ _ ?_); clear hK K) | ((try (simp only [IntWalk.iteOmega]; try go_simp)); (try go_bits); (with_reducible refine hK _ _ ?_); clear hK K))
  refine Mix.step2n (by first | rfl | simp [Region.wanted, yielded]) fun K hK => ?_
  go_wp2_with fail
  refine (ropen_any l _ _ (hs.rdG h) (by omega)).mono ?_
  rintro en w8 ⟨u, rfl, k1⟩
  rw [← HO.out] at k1
  obtain ⟨ao, co, rfl⟩ := (k1.rdRecs 0 rfl).shape
  replace hs := hs.join k1
  clear k1 hCW
  simp only [List.cons_append, List.nil_append] at hs
  have hCW : (fun W : World => W.cell? ⟨B1, 0, none⟩ = some (.int .i64 (noRooms.length + 1)) ∧ W.cell? ⟨B1, 1, none⟩ = some (.slice ae E.length ce) ∧ W.cell? ⟨B4, 0, none⟩ = some (.slice af fl.length cf)) _ := ⟨cell_of (hs.cells 6 rfl) 0, cell_of (hs.cells 6 rfl) 1, cell_of (hs.cells 3 rfl) 0⟩
  go_wp2_with fail
  refine Mix.post_mk (C := (fun W : World => W.cell? ⟨B1, 0, none⟩ = some (.int .i64 (noRooms.length + 1)) ∧ W.cell? ⟨B1, 1, none⟩ = some (.slice ae E.length ce) ∧ W.cell? ⟨B4, 0, none⟩ = some (.slice af fl.length cf))) (by first | exact hCW | exact HCW.out _) (hK _ _ ?_)
  clear hK K
  iterate 1 (refine Mix.step0 fun K hK => ?_; go_simp; (try (go_bits; try go_simp)); first | ((with_reducible refine hK _ _ ?_); clear hK K) | ((try (simp only [IntWalk.iteOmega]; try go_simp)); (try go_bits); (with_reducible refine hK _ _ ?_); clear hK K))
  refine Mix.step2n (by first | rfl | simp [Region.wanted, yielded]) fun K hK => ?_
  go_wp2_with fail
  refine (pays_any (noRooms.length + 1) ae E.length ce _ fl O.length _ (hs.rdInts 4 rfl) (hs.ints 4 rfl).capO HFL5.out).mono ?_
  rintro en w9 ⟨up, rfl, k2⟩
  rw [HPT.out] at k2
  replace hs := hs.join k2
  clear k2 hCW
  simp only [List.cons_append, List.nil_append] at hs
  have hCW : (fun W : World => W.cell? ⟨B1, 0, none⟩ = some (.int .i64 (noRooms.length + 1)) ∧ W.cell? ⟨B1, 1, none⟩ = some (.slice ae E.length ce) ∧ W.cell? ⟨B4, 0, none⟩ = some (.slice af fl.length cf)) _ := ⟨cell_of (hs.cells 7 rfl) 0, cell_of (hs.cells 7 rfl) 1, cell_of (hs.cells 4 rfl) 0⟩
  go_wp2_with fail
  refine Mix.post_mk (C := (fun W : World => W.cell? ⟨B1, 0, none⟩ = some (.int .i64 (noRooms.length + 1)) ∧ W.cell? ⟨B1, 1, none⟩ = some (.slice ae E.length ce) ∧ W.cell? ⟨B4, 0, none⟩ = some (.slice af fl.length cf))) (by first | exact hCW | exact HCW.out _) (hK _ _ ?_)
  clear hK K
  refine Mix.step2n (by first | rfl | simp [Region.wanted, yielded]) fun K hK => ?_
  go_wp2_with fail
  refine (rworth_any l (fl.take O.length) _ _ _ (hs.rdG h) (hs.rdInts 0 rfl) (by omega) (by rw [← HO.out]; exact HPQ.out)).mono ?_
  rintro en w10 ⟨rfl, hb⟩
  rw [← HO.out]
  replace hs := hs.belowStep hb
  clear hb hCW
  have hCW : (fun W : World => W.cell? ⟨B1, 0, none⟩ = some (.int .i64 (noRooms.length + 1)) ∧ W.cell? ⟨B1, 1, none⟩ = some (.slice ae E.length ce) ∧ W.cell? ⟨B4, 0, none⟩ = some (.slice af fl.length cf)) _ := ⟨cell_of (hs.cells 7 rfl) 0, cell_of (hs.cells 7 rfl) 1, cell_of (hs.cells 4 rfl) 0⟩
  go_wp2_with fail
  refine Mix.post_mk (C := (fun W : World => W.cell? ⟨B1, 0, none⟩ = some (.int .i64 (noRooms.length + 1)) ∧ W.cell? ⟨B1, 1, none⟩ = some (.slice ae E.length ce) ∧ W.cell? ⟨B4, 0, none⟩ = some (.slice af fl.length cf))) (by first | exact hCW | exact HCW.out _) (hK _ _ ?_)
  clear hK K
  iterate 1 (refine Mix.step0 fun K hK => ?_; go_simp; (try (go_bits; try go_simp)); first | ((with_reducible refine hK _ _ ?_); clear hK K) | ((try (simp only [IntWalk.iteOmega]; try go_simp)); (try go_bits); (with_reducible refine hK _ _ ?_); clear hK K))
  refine Mix.done ?_
  clear hCW
  obtain ⟨WW, hWW⟩ : ∃ WW, WW = worthQ (O.zip (fl.take O.length)) := ⟨_, rfl⟩
  rw [← hWW] at HG3 ⊢
  clear hWW HPT HPQ HFL5
  go_upto_region 16 with fail
  generalize w10 = W6 at hs ⊢
  have hs3 := hs.litRecs slR 23 [⟨a1, P.length, c1⟩, ⟨a2, rs.length, c2⟩] (by simp [maxLen])
  simp only [List.length_cons, List.length_nil, Nat.reduceAdd, Rec.flat, List.flatMap_cons, List.flatMap_nil, List.append_nil, slR, List.cons_append, List.nil_append] at hs3
  obtain ⟨B, hB⟩ : ∃ B, B = W6.heap.size := ⟨_, rfl⟩
  rw [← hB] at hs3
  clear hs
  go_upto_region 17 with fail
  rw [← hB]
  clear hB
  generalize World.alloc W6 _ = W7 at hs3 ⊢
  have HRM := Lib.hid (hs3.rdInts 11 rfl)
  have HNR := Lib.hid (hs3.rdInts 12 rfl)
  have HL := Lib.hid (hs3.rdG h)
  have HB := Lib.hid hs3.below
  have HRW := Lib.hid (show ∀ i, i < 2 → ∃ a n c q, W7.cell? ⟨B, i, none⟩ = some (.slice a n c) ∧ Rd .i64 W7 (.slice a n c) q ∧ n ≤ c ∧ B < W7.heap.size ∧ PayOk O q ∧ (∀ a, bal O q a = 0) ∧ (i = 0 → q = P) ∧ (i = 1 → Acyc (leftS O q)) from fun i hi => by
   obtain ⟨b1, o1, e1, hbl, hc1⟩ := (hs3.rdRecs 0 rfl).at i hi
   have hc := hc1 0 (by decide)
   injection e1 with e1
   injection e1 with e1 e2
   subst e1
   rw [← e2] at hc
   rcases Nat.lt_succ_iff_lt_or_eq.1 hi with hi | rfl
   ·obtain rfl : i = 0 := by omega
    simp [slR] at hc
    have hO := good_open HGO.out
    rw [← HO.out] at hO
    refine ⟨_, _, _, P, hc, hs3.rdInts 4 rfl, (hs3.ints 4 rfl).capO _ _ _ rfl, hbl, ?_, fun a => ?_, fun _ => rfl, fun e => by cases e⟩
    ·rw [HP.out, ← HO.out]; exact pays_ok hO
    ·rw [HP.out, ← HO.out]; exact pays_bal hO (by decide) a
   ·simp [slR] at hc
    have hR := HR.out
    rw [← HO.out] at hR
    exact ⟨_, _, _, rs, hc, hs3.rdInts 3 rfl, (hs3.ints 3 rfl).capO _ _ _ rfl, hbl, rings_ok hR, hR.bal, fun e => absurd e (by decide), fun _ => hR.none⟩)
  clear hs3 HR
  have hs := Sep.start W7
  go_wp2_with fail
  refine wp_loopM [none, none, some 2, none, none, none, none, none, none, none, none, none, none, none, none, none, none, none, none, some 19, some 20, some 21, some 22, some 23, some 24, some 25, some 26, some 27, some 28, some 29, some 30, none, none, none, none, none, none, none, none, none, none, none, none, none, none, none, none, none, none, none, none, none, none, none, none, none, none, none, none, none, none, none, none, none, none, none, none, none, none, none, none, none, none, none, none, none, none, none, none, none, none, none, none, none, none, none, none, none, none, none, none, none, none, none, none, none, none, none, none, none, none, none, none, some 103, some 104, some 105, some 106, some 107, some 108, some 109, some 110, some 111, some 112, some 113, some 114, some 115, some 116, some 117, some 118, some 119, some 120, some 121, some 122, some 123, some 124, some 125, some 126, some 127, some 128, some 129, some 130, some 131, some 132, some 133, some 134, some 135, some 136, some 137, some 138, some 139, some 140, some 141, some 142, some 143, some 144, some 145, some 146, some 147, some 148, some 149, some 150, some 151, some 152, some 153, some 154, some 155, some 156, some 157, some 158, some 159, some 160, some 161, some 162, some 163, some 164, some 165, some 166, some 167, some 168, some 169, some 170, some 171, some 172, some 173, some 174, some 175, some 176, some 177, some 178, some 179, some 180, some 181, some 182, some 183, some 184, some 185, some 186, some 187, some 188, some 189, some 190, some 191, some 192, some 193, some 194, some 195, some 196, some 197, some 198, some 199, some 200, some 201, some 202, some 203, some 204, some 205, some 206, some 207, none] (fun (r : Nat) (f : Nat → Value) (wr : World) => (fun (v : Value) => ∃ i : Nat, v = .int .i64 i ∧ i ≤ 2 ∧ r = 2 - i ∧ Sep W7 wr []) (f 19)) (2) (by kernel_rfl) ?atStart1 ?round1
  case' atStart1 => (try dsimp only [nthV])
  case' round1 =>
   intro gk f wr l hl hrel J1 K1 hJ1 hK1
   (try simp only [mask] at hl)
   generalize f 19 = u19 at hl hrel
   subst hl
   (try dsimp only at hrel)
  case atStart1 => exact ⟨0, rfl, by omega, rfl, hs⟩
  case round1 =>
   clear hs
   obtain ⟨i, rfl, hi, rfl, hs⟩ := hrel
   by_cases hlt : i < 2
   ·obtain ⟨a, n, c, q, hc, hq, hnc, hBl, hok, hbal, hi0, hi1⟩ := HRW.out i hlt
    rw [HO.out] at hok hbal hi1
    have HPM := Lib.hid (fair_permit HGO.out hok hbal)
    have HPQ := Lib.hid (payQ_of HPM.out)
    have HWR := Lib.hid (HG3.out q HPM.out)
    have HLE := Lib.hid (PayOk.leftE hok)
    have HLG := Lib.hid (leftL_good HGO.out hok)
    have HLN := Lib.hid (show netsE 16 (leftL l q) = 0 from good_netsE HLG.out)
    have HNT := Lib.hid (show netsF (16 : Int).toNat (leftL l q) = NF by rw [HNF.out]; exact left_nets HGO.out hok hbal)
    have HAL := Lib.hid (show allB (leftL l q) = true by
     unfold allB
     simp only [Bool.and_eq_true, decide_eq_true_eq, List.all_eq_true]
     exact ⟨HLG.out.len, fun d hd => (mayD_iff d).2 (HLG.out.may d hd)⟩)
    have HQ := Lib.hid hq
    have HN := Lib.hid hnc
    have HI0 := Lib.hid hi0
    have HI1 := Lib.hid (show i = 1 → Acyc (leftL l q) from fun e => open_acyc (by rw [open_left]; exact hi1 e))
    have hc2 := hs.cell (b := B) (o := i) hBl |>.trans hc
    clear hok hbal hq hnc hi0 hi1
    go_wp2_with fail
    refine (rpermit_any noRooms l true q _ _ _ _ (hs.rd HRM.out) (hs.rdG HL.out) (hs.rd HQ.out) (by omega)).mono ?_
    rintro en w11 ⟨rfl, hb⟩
    rw [HPM.out]
    replace hs := hs.belowStep hb
    clear hb hc2
    have hc2 := hs.cell (b := B) (o := i) hBl |>.trans hc
    go_wp2_with fail
    refine (rworth_any l q _ _ _ (hs.rdG HL.out) (hs.rd HQ.out) (by omega) HPQ.out).mono ?_
    rintro en w12 ⟨rfl, hb⟩
    rw [← HO.out]
    replace hs := hs.belowStep hb
    clear hb hc2
    have hc2 := hs.cell (b := B) (o := i) hBl |>.trans hc
    have hwr := HWR.out
    obtain ⟨K1, hK1⟩ : ∃ K, K = worthQ (O.zip q) := ⟨_, rfl⟩
    rw [← hK1] at hwr ⊢
    clear hK1
    go_wp2_with fail
    refine (oleft_any l q _ _ _ (hs.rdG HL.out) (hs.rd HQ.out) (fun a n c e => by injection e with _ e1 e2; have := HN.out; omega) (by omega) (good_x HGO.out)).mono ?_
    intro en w13 hP
    obtain ⟨vf, rfl, k1⟩ := LeftD.yes hP HLE.out
    clear hP hc2 hwr
    replace hs := hs.join k1
    simp only [List.cons_append, List.nil_append] at hs
    clear k1
    obtain ⟨LF, hLF⟩ : ∃ LF, LF = leftL l q := ⟨_, rfl⟩
    have HLF := Lib.hid hLF
    rw [← hLF] at hs HLG HLN HNT HAL HI1
    clear hLF
    go_wp2_with fail
    refine (nets_any 16 LF _ _ (hs.rdRecs 0 rfl)).mono ?_
    intro en w14 hP
    obtain ⟨vm, rfl, k1⟩ := NetsD.yes hP HLN.out
    clear hP
    rw [HNT.out] at k1
    replace hs := hs.join k1
    simp only [List.cons_append, List.nil_append] at hs
    clear k1
    go_wp2_with fail
    refine (amounts_eq _ _ NF _ (hs.rdInts 0 rfl) (hs.rd HNR.out)).mono ?_
    rintro en w15 ⟨rfl, hb⟩
    replace hs := hs.belowStep hb
    clear hb
    by_cases hz : i = 0
    ·subst hz
     have HBT := Lib.hid (fun (a b : Nat) (ha : a < 16) (hb : b < 16) => (show both (openL LF) a b = 0 by rw [HLF.out, HI0.out rfl, HP.out]; exact left_both HGO.out ha hb))
     have HX := Lib.hid (fun (a b : Nat) => (owes_bound (openL LF) (fun d hd => (HLG.out.may d (OffP.open_mem hd)).x0) a b).1)
     go_wp2_with fail
     refine (table_any 16 LF _ _ (hs.rdRecs 1 rfl)).mono ?_
     intro en w16 hP
     obtain ⟨vt, rfl, GA, hb⟩ := TableD.yes hP HLN.out
     clear hP
     replace hs := hs.belowStep hb
     clear hb
     obtain ⟨ta, tn, tc, rfl⟩ := GridR.shape GA
     obtain rfl := GridR.len16 GA
     have HGA := Lib.hid GA
     have HB2 := Lib.hid hs.below
     clear hs GA hc
     have hs := Sep.start w16
     go_wp2_with fail
     refine wp_loopM [none, none, some 2, none, none, none, none, none, none, none, none, none, none, none, none, none, none, none, none, none, none, none, none, none, none, none, some 26, none, none, none, none, none, none, none, none, none, none, none, none, none, none, none, none, none, none, none, none, none, none, none, none, none, none, none, none, none, none, none, none, none, none, none, none, none, none, none, none, none, none, none, none, none, none, none, none, none, none, none, none, none, none, none, none, none, none, none, none, none, none, none, none, none, none, none, none, none, none, none, none, none, none, none, none, none, none, none, none, none, none, none, none, none, none, none, none, none, none, none, none, none, none, none, none, none, none, none, none, none, none, none, none, none, none, none, none, none, none, none, none, none, none, none, none, none, none, none, none, none, none, none, none, none, none, none, none, none, none, none, none, none, none, none, none, none, none, some 165, some 166, some 167, some 168, some 169, some 170, some 171, some 172, some 173, some 174, none, none, none, none, none, none, none, none, none, none, none, none, none, none, none, none, none, none, none, none, none, none, none, none, none, none, none, none, none, none, none, none, none, none] (fun (r : Nat) (f : Nat → Value) (wr : World) => (fun (v : Value) => ∃ a : Nat, v = .int .i64 a ∧ a ≤ 16 ∧ r = 16 - a ∧ Sep w16 wr []) (f 26)) (16) (by kernel_rfl) ?atStart2 ?round2
     case' atStart2 => (try dsimp only [nthV])
     case' round2 =>
      intro gk f wr l hl hrel J2 K2 hJ2 hK2
      (try simp only [mask] at hl)
      generalize f 26 = u26 at hl hrel
      subst hl
      (try dsimp only at hrel)
     case atStart2 => exact ⟨0, rfl, by omega, rfl, hs⟩
     case round2 =>
      clear hs
      obtain ⟨a, rfl, ha, rfl, hs⟩ := hrel
      by_cases hla : a < 16
      ·obtain ⟨b0, o0, b1, o1, c1, e1, x0, _⟩ := GridR.two (HGA.out.below hs.below) hla (show 0 < 16 by omega)
       subst e1
       go_wp2_with fail
       refine Round.intro (16 - (a + 1)) ?measure3 (by kernel_rfl) (hJ2 _ _ _ ?rel3)
       case' rel3 => (try dsimp only [nthV])
       case measure3 => omega
       case rel3 => exact ⟨a + 1, by go_num, hla, rfl, hs⟩
      ·obtain rfl : a = 16 := by omega
       clear hla ha
       go_wp2_with fail
       refine wp_loopM [none, none, some 2, none, none, none, none, none, none, none, none, none, none, none, none, none, none, none, none, none, none, none, none, none, none, none, none, some 27, some 28, none, none, none, none, none, none, none, none, none, none, none, none, none, none, none, none, none, none, none, none, none, none, none, none, none, none, none, none, none, none, none, none, none, none, none, none, none, none, none, none, none, none, none, none, none, none, none, none, none, none, none, none, none, none, none, none, none, none, none, none, none, none, none, none, none, none, none, none, none, none, none, none, none, none, none, none, none, none, none, none, none, none, none, none, none, none, none, none, none, none, none, none, none, none, none, none, none, none, none, none, none, none, none, none, none, none, none, none, none, none, none, none, none, none, none, none, none, none, none, none, none, none, none, none, none, none, none, none, none, none, none, none, none, none, none, none, none, none, none, none, none, none, none, none, none, none, some 175, some 176, some 177, some 178, some 179, some 180, some 181, some 182, some 183, some 184, some 185, some 186, some 187, some 188, some 189, some 190, some 191, some 192, some 193, some 194, some 195, some 196, some 197, some 198, some 199, some 200, some 201, none, none, none, none, none, none, none] (fun (r : Nat) (f : Nat → Value) (wr : World) => (fun (v : Value) => ∃ a : Nat, v = .int .i64 a ∧ a ≤ 16 ∧ r = 16 - a ∧ Sep w16 wr []) (f 27)) (16) (by kernel_rfl) ?atStart4 ?round4
       case' atStart4 => (try dsimp only [nthV])
       case' round4 =>
        intro gk f wr l hl hrel J3 K3 hJ3 hK3
        (try simp only [mask] at hl)
        generalize f 27 = u27 at hl hrel
        subst hl
        (try dsimp only at hrel)
       case atStart4 => exact ⟨0, rfl, by omega, rfl, hs⟩
       case round4 =>
        clear hs
        obtain ⟨a, rfl, ha, rfl, hs⟩ := hrel
        by_cases hla : a < 16
        ·go_wp2_with fail
         refine wp_loopM [none, none, some 2, none, none, none, none, none, none, none, none, none, none, none, none, none, none, none, none, none, none, none, none, none, none, none, none, none, some 28, none, none, none, none, none, none, none, none, none, none, none, none, none, none, none, none, none, none, none, none, none, none, none, none, none, none, none, none, none, none, none, none, none, none, none, none, none, none, none, none, none, none, none, none, none, none, none, none, none, none, none, none, none, none, none, none, none, none, none, none, none, none, none, none, none, none, none, none, none, none, none, none, none, none, none, none, none, none, none, none, none, none, none, none, none, none, none, none, none, none, none, none, none, none, none, none, none, none, none, none, none, none, none, none, none, none, none, none, none, none, none, none, none, none, none, none, none, none, none, none, none, none, none, none, none, none, none, none, none, none, none, none, none, none, none, none, none, none, none, none, none, none, none, none, none, none, none, none, none, none, some 179, some 180, some 181, some 182, some 183, some 184, some 185, some 186, some 187, some 188, some 189, some 190, some 191, some 192, some 193, some 194, some 195, some 196, some 197, some 198, some 199, some 200, some 201, none, none, none, none, none, none, none] (fun (r : Nat) (f : Nat → Value) (wr : World) => (fun (v : Value) => ∃ b : Nat, v = .int .i64 b ∧ b ≤ a ∧ r = a - b ∧ Sep w16 wr []) (f 28)) (a) (by kernel_rfl) ?atStart5 ?round5
         case' atStart5 => (try dsimp only [nthV])
         case' round5 =>
          intro gk f wr l hl hrel J4 K4 hJ4 hK4
          (try simp only [mask] at hl)
          generalize f 28 = u28 at hl hrel
          subst hl
          (try dsimp only at hrel)
         case atStart5 => exact ⟨0, rfl, by omega, rfl, hs⟩
         case round5 =>
          clear hs
          obtain ⟨b, rfl, hbb, rfl, hs⟩ := hrel
          by_cases hlb : b < a
          ·obtain ⟨b0, o0, b1, o1, c1', e1, x0, x1⟩ := GridR.two (HGA.out.below hs.below) hla (show b < 16 by omega)
           subst e1
           obtain ⟨_, _, b3, o3, c3, e2, y0, y1⟩ := GridR.two (HGA.out.below hs.below) (show b < 16 by omega) hla
           injection e2 with e2
           injection e2 with e2 e3
           subst e2
           subst e3
           have hbt := HBT.out a b hla (by omega)
           have hX := HX.out a b
           have hY := HX.out b a
           unfold both at hbt
           obtain ⟨X, hX'⟩ : ∃ X, X = owesS (openL LF) a b := ⟨_, rfl⟩
           obtain ⟨Y, hY'⟩ : ∃ Y, Y = owesS (openL LF) b a := ⟨_, rfl⟩
           rw [← hX'] at x1 hX hbt
           rw [← hY'] at y1 hY hbt
           clear hX' hY'
           have hbI : (b : Int) < a := by omega
           by_cases hx0 : 0 < X
           ·have hy0 : ¬ 0 < Y := by omega
            clear hbt
            go_wp2_with fail
            refine Round.intro (a - (b + 1)) ?measure6 (by kernel_rfl) (hJ4 _ _ _ ?rel6)
            case' rel6 => (try dsimp only [nthV])
            case measure6 => omega
            case rel6 => exact ⟨b + 1, by go_num, hlb, rfl, hs⟩
           ·clear hbt
            go_wp2_with fail
            refine Round.intro (a - (b + 1)) ?measure7 (by kernel_rfl) (hJ4 _ _ _ ?rel7)
            case' rel7 => (try dsimp only [nthV])
            case measure7 => omega
            case rel7 => exact ⟨b + 1, by go_num, hlb, rfl, hs⟩
          ·obtain rfl : a = b := by omega
           go_wp2_with fail
           refine Round.intro (16 - (a + 1)) ?measure8 (by kernel_rfl) (hJ3 _ _ _ ?rel8)
           case' rel8 => (try dsimp only [nthV])
           case measure8 => omega
           case rel8 => exact ⟨a + 1, by go_num, hla, rfl, hs⟩
        ·obtain rfl : a = 16 := by omega
         go_wp2_with fail
         refine Round.intro (2 - (0 + 1)) ?measure9 (by kernel_rfl) (hJ1 _ _ _ ?rel9)
         case' rel9 => (try dsimp only [nthV])
         case measure9 => omega
         case rel9 => exact ⟨0 + 1, by go_num, hlt, rfl, Sep.ofBelow (HB2.out.trans (hs.below.mono HB2.out.size))⟩
    ·obtain rfl : i = 1 := by omega
     go_wp2_with fail
     refine (find_any LF _ _ (hs.rdRecs 1 rfl) HAL.out).mono ?_
     intro en w16 hP
     obtain ⟨rfl, hb⟩ := FindD.no hP (HI1.out trivial)
     clear hP
     replace hs := hs.belowStep hb
     clear hb
     go_wp2_with fail
     refine Round.intro (2 - (1 + 1)) ?measure10 (by kernel_rfl) (hJ1 _ _ _ ?rel10)
     case' rel10 => (try dsimp only [nthV])
     case measure10 => omega
     case rel10 => exact ⟨1 + 1, by go_num, hlt, rfl, hs.tail.tail⟩
   ·obtain rfl : i = 2 := by omega
    go_wp2_with fail
    refine (oworks_any _).mono ?_
    rintro en w17 ⟨rfl, hb⟩
    replace hs := hs.belowStep hb
    go_wp2_with fail
    go_ret
    exact ⟨rfl, HB.out.trans (hs.below.mono HB.out.size)⟩
end Go.Proofs.Ytjijhpflkkicaaa
