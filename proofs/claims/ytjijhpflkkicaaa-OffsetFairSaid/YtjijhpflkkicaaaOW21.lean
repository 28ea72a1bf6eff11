/-
  The offset laws' example, walked.
-/
import Derived.Test.YtjijhpflkkicaaaOE
import Derived.Test.YtjijhpflkkicaaaOC
import Derived.Test.YtjijhpflkkicaaaOB
set_option linter.unusedVariables false
set_option linter.unusedSimpArgs false
namespace Go.Mem
open Go Go.RowKit
theorem IOwn.capO {k : IntKind} {E : TypeId} {w : World} {v : Value} {zs : List Int} (h : IOwn k E w v zs) : ∀ a n c, v = .slice a n c → n ≤ c := by
  intro a n c e
  rcases h.2 with ⟨rfl, h0⟩ | ⟨g, cap, cur, rfl, hb, hgg, hnc, hcm, rest⟩
  · injection e with _ e1 e2; omega
  · injection e with _ e1 e2; omega
end Go.Mem
namespace Go.OffP
open Go Go.Mem Go.MoneyP Go.BuildP
/-- The chapter's example. -/
def exL : List Du := [⟨1, 0, 1, 5, 1, 0, false⟩, ⟨2, 0, 1, 4, 1, 0, false⟩, ⟨3, 1, 0, 6, 1, 0, false⟩]
theorem exL_open : openL exL = exL := by decide
theorem exL_nets : netsE 2 exL = 0 := by decide
theorem exL_table : tableM (2 : Int).toNat (openL exL) = [[0, 9], [6, 0]] := by decide
theorem exL_pays : paysL (2 : Int).toNat (openL exL) = [5, 1, 6] := by decide
theorem exL_leftE : leftE exL [5, 1, 6] = 0 := by decide
theorem exL_leftL : leftL exL [5, 1, 6] = [⟨2, 0, 1, 3, 1, 0, false⟩] := by decide
theorem exL_ring : ¬ Acyc exL := fun h => h 0 [0, 2] (by simp) ⟨1, ⟨by decide, rfl, rfl, rfl⟩, 0, ⟨by decide, rfl, rfl, rfl⟩, rfl⟩
theorem exL_rings {ps : List Int} {r : Nat} (h : RingsR (openL exL) ps r) : ps.length = 3 ∧ 1 ≤ r ∧ r ≤ 3 := by
  rw [exL_open] at h
  refine ⟨h.len, ?_, h.cnt⟩
  rcases Nat.eq_zero_or_pos r with e | e
  · exact absurd (h.zero.1 e) exL_ring
  · exact e
end Go.OffP
namespace Go.Proofs.Ytjijhpflkkicaaa
open Go Go.RowKit Go.Mem Go.MoneyP Go.NetP Go.BuildP Go.OffP Go.Shelf
theorem grid2 {G : List (Sl × List Int)} {r0 r1 : List Int} (h : G.map (·.2) = [r0, r1]) : ∃ s0 s1, G = [(s0, r0), (s1, r1)] := by
  rcases G with _ | ⟨⟨s0, q0⟩, _ | ⟨⟨s1, q1⟩, _ | ⟨g, G⟩⟩⟩ <;> simp at h
  obtain ⟨rfl, rfl⟩ := h
  exact ⟨s0, s1, rfl⟩
set_option maxRecDepth 100000 in
set_option maxHeartbeats 4000000 in
theorem oworks_any (w : World) : Calls Try.prog 7 #[] w fun e w' => e = .returned (.bool true) ∧ Below w.heap.size w w' := by
  have hs := (Sep.start w).litRecs duR 44 exL (by simp [maxLen, exL])
  rw [show exL.length = 3 from rfl] at hs
  have HT := Lib.hid (table_any 2 exL _ _ (hs.rdRecs 0 rfl))
  have HP := Lib.hid (fun W (h : RdG duR W (.slice (some ⟨w.heap.size, 0, none⟩) 3 3) exL) => opays_any 2 exL _ W h)
  have HG := Lib.hid (fun W (h : RdG duR W (.slice (some ⟨w.heap.size, 0, none⟩) 3 3) exL) => rings_any 2 exL _ W h)
  go_enter Try.func7, Try.ntmps7
  go_wp2_with fail
  refine HT.out.mono ?_
  rintro en w1 (⟨h0, _, _⟩ | ⟨_, v1, rfl, G, hG, k1⟩)
  · exact absurd exL_nets h0
  rw [exL_table] at hG
  obtain ⟨⟨a0, n0, c0⟩, ⟨a1, n1, c1⟩, rfl⟩ := grid2 hG
  replace hs := hs.join k1
  simp only [gridL, List.map_cons, List.map_nil, Sl.val, List.cons_append, List.nil_append] at hs
  clear HT k1 hG
  obtain ⟨at_, ct, rfl⟩ := (hs.rdRecs 0 rfl).shape
  have e0 := (hs.rdInts 1 rfl).len
  have e1 := (hs.rdInts 2 rfl).len
  simp only [List.length_cons, List.length_nil, Nat.reduceAdd] at e0 e1 hs ⊢
  subst e0
  subst e1
  go_wp2_with fail
  refine (HP.out _ (hs.rdRecs 3 rfl)).mono ?_
  rintro en w2 (⟨h0, _, _⟩ | ⟨_, v2, rfl, k1⟩)
  · exact absurd exL_nets h0
  rw [exL_pays] at k1
  obtain ⟨ap, cp, rfl⟩ := (k1.rdInts 0 rfl).shape
  replace hs := hs.join k1
  simp only [List.length_cons, List.length_nil, Nat.reduceAdd, List.cons_append, List.nil_append] at hs ⊢
  clear HP k1
  go_wp2_with fail
  refine (oleft_any exL [5, 1, 6] _ _ _ (hs.rdRecs 4 rfl) (hs.rdInts 0 rfl) (hs.ints 0 rfl).capO (by decide) (by decide)).mono ?_
  rintro en w3 (⟨h0, _, _⟩ | ⟨_, v3, rfl, k1⟩)
  · exact absurd exL_leftE h0
  rw [exL_leftL] at k1
  obtain ⟨al, cl, rfl⟩ := (k1.rdRecs 0 rfl).shape
  replace hs := hs.join k1
  simp only [List.length_cons, List.length_nil, Nat.reduceAdd, List.cons_append, List.nil_append] at hs ⊢
  clear k1
  go_wp2_with fail
  refine (HG.out _ (hs.rdRecs 5 rfl)).mono ?_
  rintro en w4 (⟨h0, _, _⟩ | ⟨_, v4, ps, r, rfl, hR, k1⟩)
  · exact absurd exL_nets h0
  clear HG
  obtain ⟨r1, r2, r3⟩ := exL_rings hR
  clear hR
  obtain ⟨aq, cq, rfl⟩ := (k1.rdInts 0 rfl).shape
  replace hs := hs.join k1
  simp only [List.cons_append, List.nil_append] at hs
  rw [r1] at hs ⊢
  clear k1
  have HR1 := Lib.hid (show (1 : Int) ≤ r by omega)
  clear r1 r2 r3
  obtain ⟨b0, o0, e0, hb0, hc0⟩ := (hs.rdRecs 3 rfl).at 0 (by simp)
  subst e0
  obtain ⟨_, _, q1, _, hc1⟩ := (hs.rdRecs 3 rfl).at 1 (by simp)
  injection q1 with q1
  injection q1 with q1 q2
  subst q1; subst q2
  have t0 := hc0 0 (by decide)
  have t1 := hc1 0 (by decide)
  obtain ⟨b1, o1, e1, hb1, hc2⟩ := (hs.rdInts 4 rfl).at 1 (by decide)
  subst e1
  obtain ⟨b2, o2, e2, hb2, hc3⟩ := (hs.rdInts 5 rfl).at 0 (by decide)
  subst e2
  simp [slR] at t0 t1 hc2 hc3
  clear hc0 hc1
  have hs2 := hs.litInts .i64 2 [5, 1, 6] (by simp [maxLen])
  simp only [List.map_cons, List.map_nil, List.length_cons, List.length_nil, Nat.reduceAdd, World.size_alloc] at hs2
  have HA := Lib.hid (amounts_eq _ _ [5, 1, 6] _ (hs2.rdInts 3 rfl) (hs2.rdInts 0 rfl))
  clear hs
  go_wp2_with fail
  refine HA.out.mono ?_
  rintro en w5 ⟨rfl, hb⟩
  replace hs2 := hs2.belowStep hb
  obtain ⟨b3, o3, e3, hb3, hc4⟩ := (hs2.rdRecs 2 rfl).at 0 (by decide)
  subst e3
  have x3 := hc4 3 (by decide)
  simp [duR] at x3
  have hr1 := HR1.out
  clear hc4 HA HR1 t0 t1 hc2 hc3 hb
  go_wp2_with fail
  go_ret
  exact ⟨rfl, hs2.below⟩
end Go.Proofs.Ytjijhpflkkicaaa
