/-
  BuildBest, walked.
-/
import Derived.Test.YtlbpkfjebaelpaaBPlaysW
import Derived.Test.YtlbpkfjebaelpaaBFlP
import Derived.Test.YtlbpkfjebaelpaaSWk
set_option linter.unusedVariables false
set_option linter.unusedSimpArgs false
namespace Go.Mem
open Go Go.RowKit
theorem IOwn.cap {k : IntKind} {E : TypeId} {w : World} {v : Value} {zs : List Int} (h : IOwn k E w v zs) : ∀ a n c, v = .slice a n c → n ≤ c := by
  intro a n c e
  rcases h.2 with ⟨rfl, h0⟩ | ⟨g, cap, cur, rfl, hb, hgg, hnc, hcm, rest⟩
  · injection e with _ e1 e2; omega
  · injection e with _ e1 e2; omega
end Go.Mem
namespace Go.BuildP
open Go Go.Mem Go.NetP Go.MoneyP Go.CertP
/-- The theorem: what the best flow pays is permitted, and no rival is worth more. -/
theorem best_pays {rooms : List Int} {l : List Du} {c : Bool} {fl pot : List Int} (h : rightR rooms l = true) (hck : checkB (rooms.length + 1) (edgesL rooms l c) fl pot = true) :
    permitB rooms l c (fl.take (openL l).length) = true ∧ (openL l).length ≤ fl.length ∧ ∀ rv, permitB rooms l c rv = true → worthQ ((openL l).zip rv) ≤ worthQ ((openL l).zip (fl.take (openL l).length)) := by
  have hf : flowsB (rooms.length + 1) (edgesL rooms l c) fl = true := by
    simp only [checkB, Bool.and_eq_true] at hck; exact hck.1.1.2
  obtain ⟨h1, h2, h3⟩ := flows_pay h hf
  refine ⟨h1, h2, fun rv hrv => ?_⟩
  obtain ⟨g1, g2⟩ := pay_flows hrv
  have := best g1 hck
  omega
end Go.BuildP
namespace Go.Proofs.Ytlbpkfjebaelpaa
open Go Go.RowKit Go.Mem Go.MoneyP Go.NetP Go.BuildP Go.CertP
theorem worthR_bound {O : List Du} {ps : List Int} (h : PayQ O ps) : 0 ≤ worthQ (O.zip ps) ∧ worthQ (O.zip ps) ≤ 4503599627370496000 := by
  have := worth_bound (O.zip ps) h.may h.all
  have := h.sum
  omega
set_option maxRecDepth 100000 in
set_option maxHeartbeats 6000000 in
theorem buildBest_any (rooms : List Int) (l : List Du) (c : Bool) (ps : List Int) (vr vl vp : Value) (w : World) (hr : Rd .i64 w vr rooms) (h : RdG duR w vl l) (hp : Rd .i64 w vp ps) :
    Calls Try.prog 5 #[vr, vl, .bool c, vp] w fun e w' => e = .returned (.bool true) ∧ Below w.heap.size w w' := by
  obtain ⟨ar, cr, rfl⟩ := hr.shape
  obtain ⟨al, cl, rfl⟩ := h.shape
  obtain ⟨ap, cp, rfl⟩ := hp.shape
  have FW := Lib.hid (bfew_any ar al ap rooms.length l.length ps.length cr cl cp w hr.le' h.le' hp.le')
  have hlp := hp.le'
  cases hf : fewB rooms.length l.length ps.length
  · rw [hf] at FW
    clear hf
    go_enter Try.func5, Try.ntmps5
    go_wp2_with fail
    refine (FW.out).mono ?_
    rintro en w1 ⟨rfl, rfl⟩
    go_wp2_with fail
    refine (bworks_any _).mono ?_
    rintro en w2 ⟨rfl, hb⟩
    go_wp2_with fail
    go_ret
    exact ⟨rfl, hb⟩
  rw [hf] at FW
  obtain ⟨f1, f2, f3⟩ := fewB_parts hf
  clear hf
  have HRG := Lib.hid (brright_any rooms l _ _ w hr h)
  cases hrt : rightR rooms l
  · rw [hrt] at HRG
    clear hrt
    go_enter Try.func5, Try.ntmps5
    go_wp2_with fail
    refine (FW.out).mono ?_
    rintro en w1 ⟨rfl, rfl⟩
    go_wp2_with fail
    refine (HRG.out).mono ?_
    rintro en w1 ⟨rfl, hb⟩
    have hs := (Sep.start _).belowStep hb
    clear hb
    go_wp2_with fail
    refine (bworks_any _).mono ?_
    rintro en w2 ⟨rfl, hb⟩
    go_wp2_with fail
    go_ret
    exact ⟨rfl, (hs.belowStep hb).below⟩
  rw [hrt] at HRG
  have HRT := Lib.hid hrt
  have HNET := Lib.hid (right_net hrt c)
  have HBP := Lib.hid (fun fl pot => best_pays (c := c) (fl := fl) (pot := pot) hrt)
  clear hrt
  go_enter Try.func5, Try.ntmps5
  go_wp2_with fail
  refine (FW.out).mono ?_
  rintro en w1 ⟨rfl, rfl⟩
  go_wp2_with fail
  refine (HRG.out).mono ?_
  rintro en w2 ⟨rfl, hb⟩
  clear FW HRG
  have hs := (Sep.start _).belowStep hb
  clear hb
  go_wp2_with fail
  refine (round_any rooms l c _ _ _ (hs.rd hr) (hs.rdG h) (by omega)).mono ?_
  rintro en w3 (⟨h0, _, _⟩ | ⟨_, ve, vi, rfl, k1⟩)
  · exact absurd (HRT.out.symm.trans h0) (by decide)
  replace hs := hs.join k1
  clear k1
  simp only [List.cons_append, List.nil_append] at hs
  obtain ⟨ae, ce, rfl⟩ := (hs.rdRecs 0 rfl).shape
  obtain ⟨ai, ci, rfl⟩ := (hs.rdInts 1 rfl).shape
  obtain ⟨O, hO⟩ : ∃ O, O = openL l := ⟨_, rfl⟩
  obtain ⟨E, hE⟩ : ∃ E, E = edgesL rooms l c := ⟨_, rfl⟩
  rw [← hO, ← hE] at hs
  rw [List.length_map] at hs ⊢
  rw [← hO]
  rw [← hE] at HNET HBP ⊢
  rw [← hO] at HBP
  have HOL := Lib.hid (show O.length ≤ 64 by rw [hO]; have := open_le l; have := (right_parts HRT.out).2.1; omega)
  have HO := Lib.hid hO
  clear hO hE
  replace hs := hs.newCells #[.int .i64 (rooms.length + 1), .slice ae E.length ce] 28
  go_upto_region 4 with fail
  obtain ⟨B1, hB1⟩ : ∃ B1, B1 = w3.heap.size := ⟨_, rfl⟩
  rw [← hB1] at hs ⊢
  clear hB1
  generalize World.alloc w3 _ = W3 at hs ⊢
  have n0 := cell_of (hs.cells 0 rfl) 0
  have n1 := cell_of (hs.cells 0 rfl) 1
  simp only [List.getElem?_toArray, List.getElem?_cons_zero, List.getElem?_cons_succ] at n0 n1
  go_wp2_with fail
  refine (best_uni (rooms.length + 1) ae ce E _ (hs.rdRecs 1 rfl)).mono ?_
  rintro en w4 ⟨af, cf, aq, cq, fl, pot, st, er, hbd, rfl, k1⟩
  obtain ⟨rfl, hck, _, _, hfl⟩ := hbd.yes HNET.out
  clear hfl hbd
  obtain ⟨g1, g2, g3⟩ := HBP.out fl pot hck
  have HCK := Lib.hid hck
  have HG1 := Lib.hid g1
  have HG3 := Lib.hid g3
  have HPT := Lib.hid (show fl.take (payN (O.length : Int) fl.length) = fl.take O.length by unfold payN; rw [Int.toNat_natCast, Nat.min_eq_left g2])
  have HPQ := Lib.hid (show PayQ O (fl.take O.length) by rw [HO.out] at g1 ⊢; exact payQ_of g1)
  have hfl5 : fl.length ≤ 1000000 := by
    have q1 := (within_cap (flows_within (check_flows hck).2.1)).1
    have q2 := (right_cap HNET.out).2.2.1
    omega
  have HFL5 := Lib.hid hfl5
  clear hck g1 g2 g3 HBP hfl5
  replace hs := (hs.join k1).newCells #[.slice af fl.length cf, .slice aq pot.length cq] 47
  simp only [List.cons_append, List.nil_append] at hs
  clear k1 n0 n1
  go_upto_region 5 with fail
  obtain ⟨B4, hB4⟩ : ∃ B4, B4 = w4.heap.size := ⟨_, rfl⟩
  rw [← hB4] at hs ⊢
  clear hB4
  generalize World.alloc w4 _ = W4 at hs ⊢
  have n0 := cell_of (hs.cells 3 rfl) 0
  have n1 := cell_of (hs.cells 3 rfl) 1
  simp only [List.getElem?_toArray, List.getElem?_cons_zero, List.getElem?_cons_succ] at n0 n1
  have c0 := cell_of (hs.cells 0 rfl) 0
  have c1 := cell_of (hs.cells 0 rfl) 1
  simp only [List.getElem?_toArray, List.getElem?_cons_zero, List.getElem?_cons_succ] at c0 c1
  go_wp2_with fail
  refine (rcheck_any (rooms.length + 1) ae ce E _ fl _ pot _ (hs.rdRecs 4 rfl) (hs.rdInts 1 rfl) (hs.rdInts 2 rfl)).mono ?_
  rintro en w5 ⟨rfl, hb⟩
  rw [HCK.out]
  replace hs := hs.belowStep hb
  clear hb n0 n1 c0 c1
  have n0 := cell_of (hs.cells 3 rfl) 0
  have n1 := cell_of (hs.cells 3 rfl) 1
  simp only [List.getElem?_toArray, List.getElem?_cons_zero, List.getElem?_cons_succ] at n0 n1
  have c0 := cell_of (hs.cells 0 rfl) 0
  have c1 := cell_of (hs.cells 0 rfl) 1
  simp only [List.getElem?_toArray, List.getElem?_cons_zero, List.getElem?_cons_succ] at c0 c1
  go_wp2_with fail
  refine (pays_any (rooms.length + 1) ae E.length ce _ fl O.length _ (hs.rdInts 1 rfl) (hs.ints 1 rfl).cap HFL5.out).mono ?_
  rintro en w6 ⟨up, rfl, k2⟩
  rw [HPT.out] at k2
  replace hs := hs.join k2
  clear k2 n0 n1 c0 c1
  simp only [List.cons_append, List.nil_append] at hs
  obtain ⟨P, hP⟩ : ∃ P, P = fl.take O.length := ⟨_, rfl⟩
  rw [← hP] at hs HPQ HG1 HG3
  clear hP
  go_wp2_with fail
  refine (rpermit_any rooms l c P _ _ _ _ (hs.rd hr) (hs.rdG h) (hs.rdInts 0 rfl) (by omega)).mono ?_
  rintro en w7 ⟨rfl, hb⟩
  rw [HG1.out]
  replace hs := hs.belowStep hb
  clear hb
  go_wp2_with fail
  refine (rpermit_any rooms l c ps _ _ _ _ (hs.rd hr) (hs.rdG h) (hs.rd hp) (by omega)).mono ?_
  rintro en w8 ⟨rfl, hb⟩
  replace hs := hs.belowStep hb
  clear hb
  cases hpm : permitB rooms l c ps
  · clear hpm
    go_wp2_with fail
    refine (bworks_any _).mono ?_
    rintro en w9 ⟨rfl, hb⟩
    go_wp2_with fail
    go_ret
    exact ⟨rfl, (hs.belowStep hb).below⟩
  have HRV := Lib.hid (HG3.out ps hpm)
  have HPQ2 := Lib.hid (payQ_of hpm)
  clear hpm
  go_wp2_with fail
  refine (rworth_any l ps _ _ _ (hs.rdG h) (hs.rd hp) (by omega) HPQ2.out).mono ?_
  rintro en w9 ⟨rfl, hb⟩
  replace hs := hs.belowStep hb
  clear hb
  go_wp2_with fail
  refine (rworth_any l P _ _ _ (hs.rdG h) (hs.rdInts 0 rfl) (by omega) (by rw [← HO.out]; exact HPQ.out)).mono ?_
  rintro en w10 ⟨rfl, hb⟩
  rw [← HO.out]
  replace hs := hs.belowStep hb
  have HLE := Lib.hid (decide_eq_true HRV.out)
  clear hb
  obtain ⟨K1, hK1⟩ : ∃ K, K = worthQ (O.zip ps) := ⟨_, rfl⟩
  obtain ⟨K2, hK2⟩ : ∃ K, K = worthQ (O.zip P) := ⟨_, rfl⟩
  rw [← hK1, ← hK2] at HLE
  rw [← hK1, ← hK2]
  have hle := HLE.out
  clear hK1 hK2 HLE
  go_wp2_with fail
  refine (bworks_any _).mono ?_
  rintro en w11 ⟨rfl, hb⟩
  go_wp2_with fail
  go_ret
  exact ⟨rfl, (hs.belowStep hb).below⟩
end Go.Proofs.Ytlbpkfjebaelpaa
