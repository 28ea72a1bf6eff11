/-
  The law NetBounds, walked.
-/
import Derived.Test.YtdjkpnddjiapgaaNW6
import Derived.Test.YtdjkpnddjiapgaaNSums
import Derived.Deep.DeepCutAuto
namespace Go.Proofs.Ytdjkpnddjiapgaa
open Go Go.RowKit Go.Mem Go.NetP

def wantB (n : Int) (e : Ed) : Bool := decide (1 ≤ n) && decide (n ≤ 40) && edgeB n e
theorem wantB_iff (n : Int) (e : Ed) : wantB n e = true ↔ (1 ≤ n ∧ n ≤ 40) ∧ (0 ≤ e.f ∧ e.f < n) ∧ (0 ≤ e.t ∧ e.t < n) ∧ 0 ≤ e.c ∧ e.c ≤ 4503599627370496 ∧ -1000 ≤ e.k ∧ e.k ≤ 1000 := by
  unfold wantB; rw [Bool.and_eq_true, Bool.and_eq_true, edgeB_iff, decide_eq_true_eq, decide_eq_true_eq]
theorem right_one (n : Int) (e : Ed) : rightB n [e] = wantB n e := by
  rw [Bool.eq_iff_iff]
  constructor
  · intro h
    obtain ⟨h1, h2, _, _, h3⟩ := right_cap h
    simp [wantB, h1, h2, h3 e (by simp)]
  · intro h
    have h' : (decide (1 ≤ n) = true ∧ decide (n ≤ 40) = true) ∧ edgeB n e = true := by simpa only [wantB, Bool.and_eq_true] using h
    have := costE_le h'.2
    simp only [decide_eq_true_eq] at h'
    refine right_ok h'.1.1 h'.1.2 (by simp) (by simp [edges, h'.2]) ?_
    simp [costs]; omega
theorem one_facts {n : Int} {e : Ed} (h : wantB n e = true) : flowsB n [e] [0] = true ∧ withinB n [e] [e.c] = true ∧ withinB n [e] [e.c + 1] = false ∧ costV n [e] [e.c] = e.c * e.k ∧ (-4503599627370496000 ≤ e.c * e.k ∧ e.c * e.k ≤ 4503599627370496000) := by
  have hr := right_one n e
  rw [h] at hr
  have hq := (wantB_iff _ _).1 h
  have w0 : withinB n [e] [0] = true := within_ok rfl hr (fun j hj => by
    obtain rfl : j = 0 := by simpa using hj
    rw [capB_at (by simp)]; simp; omega)
  have w1 : withinB n [e] [e.c] = true := within_ok rfl hr (fun j hj => by
    obtain rfl : j = 0 := by simpa using hj
    rw [capB_at (by simp)]; simp; omega)
  refine ⟨?_, w1, within_no (i := 0) (by simp) (by simp) (by rw [capB_at (by simp)]; simp; omega), ?_, ?_⟩
  · have : overV n [e] [0] = overL n.toNat [e] [0] := by simp [overV, w0]
    unfold flowsB
    rw [w0, this]
    simp [overL, overAt, gain]
  · simp [costV, w1, flowCost, edAt]
  · have := costP_bound w1 (i := 0) (by simp)
    simpa using this

set_option maxRecDepth 100000 in
set_option maxHeartbeats 4000000 in
theorem netBounds_any (n p q c k : Int) (w : World) :
    Calls Try.prog 7 #[.int .i64 n, .int .i64 p, .int .i64 q, .int .i64 c, .int .i64 k] w fun e w' => e = .returned (.bool true) ∧ Below w.heap.size w w' := by
  obtain ⟨ed, hed⟩ : ∃ ed : Ed, ed = ⟨p, q, c, k⟩ := ⟨_, rfl⟩
  have hs : Sep w ((w.alloc (.cells #[.int .i64 p, .int .i64 q, .int .i64 c, .int .i64 k] 39)).alloc (.cells #[.int .i64 n, .slice (some ⟨w.heap.size, 0, none⟩) 1 1] 24)) [cellsT (w.heap.size + 1) #[.int .i64 n, .slice (some ⟨w.heap.size, 0, none⟩) 1 1] 24, recT edR 39 (.slice (some ⟨w.heap.size, 0, none⟩) 1 1) [ed]] := by
    have h := ((Sep.start w).litRecs edR 39 [⟨p, q, c, k⟩] (by simp [maxLen])).newCells #[.int .i64 n, .slice (some ⟨w.heap.size, 0, none⟩) 1 1] 24
    simp only [World.size_alloc] at h
    rw [hed]
    exact h
  have hw := wantB_iff n ed
  have hof := one_facts (n := n) (e := ed)
  rw [hed] at hw hof
  dsimp only at hw hof
  rw [← hed] at hw hof
  have HW := Lib.hid hw
  have HOF := Lib.hid hof
  clear hw hof hed
  go_enter Try.func7, Try.ntmps7
  go_upto_region 2 with fail
  refine wp_cutM [none, none, none, none, none, none, none, none, none, none, none, none, some 12, none, none, none, none, none, none, none, none, some 21, some 22, some 23, some 24, some 25, some 26, some 27, some 28, some 29, some 30, some 31, some 32, some 33, some 34, some 35, some 36, some 37, some 38, some 39, some 40, some 41, some 42, some 43, some 44, some 45, some 46, some 47, some 48, some 49, some 50, some 51, some 52, some 53, some 54, some 55, some 56, some 57, some 58, some 59, some 60, none, none, none, none, none, none, none, none, none, none, none, none, none, none, none, none, none, none, none, none, none, none, none, none, none, none, none, none, none, none, none, none, none, none, none, none, none, none, none, none] (fun (f : Nat → Value) (wr : World) => (fun (v : Value) => v = .bool (wantB n ed) ∧ Sep w wr [cellsT (w.heap.size + 1) #[.int .i64 n, .slice (some ⟨w.heap.size, 0, none⟩) 1 1] 24, recT edR 39 (.slice (some ⟨w.heap.size, 0, none⟩) 1 1) [ed]]) (f 12)) ?first1 ?rest1
  case' first1 => intro JC KC hJC hKC
  case' rest1 =>
    intro f wr l hl hrel
    (try simp only [mask] at hl)
    generalize f 12 = u12 at hl hrel
    subst hl
    (try dsimp only at hrel)
  case first1 =>
    go_wp2_with fail
    all_goals
      refine Meet.intro (by kernel_rfl) (hJC _ _ ?_)
      (try dsimp only [nthV])
      refine ⟨?_, hs⟩
      congr 1
      first
        | (rw [eq_comm, Bool.eq_false_iff, ne_eq, HW.out]; omega)
        | (rw [Bool.eq_iff_iff, HW.out, decide_eq_true_eq]; omega)
  case rest1 =>
    clear hs
    obtain ⟨rfl, hs⟩ := hrel
    have hr := hs.rdRecs 1 rfl
    have n0 := cell_of (hs.cells 0 rfl) 0
    have n1 := cell_of (hs.cells 0 rfl) 1
    simp only [List.getElem?_toArray, List.getElem?_cons_zero, List.getElem?_cons_succ] at n0 n1
    go_wp2_with fail
    refine (right_any n _ _ [ed] _ hr).mono ?_
    rintro en w2 ⟨rfl, hb⟩
    rw [right_one]
    clear hr
    replace hs := hs.belowStep hb
    clear hb; (try clear n0 n1)
    cases hwt : wantB n ed
    · go_wp2_with fail
      refine (works_any _).mono ?_
      rintro en wz ⟨rfl, hb⟩
      go_wp2_with fail
      go_ret
      exact ⟨rfl, (hs.belowStep hb).below⟩
    · obtain ⟨f1, f2, f3, f4, f5, f6⟩ := HOF.out hwt
      have hc := HW.out.1 hwt
      obtain ⟨_, _, _, c0, c1, _⟩ := hc
      have F4 := Lib.hid f4
      have F3 := Lib.hid f3
      have F2 := Lib.hid f2
      have F1 := Lib.hid f1
      clear f1 f2 f3 f4 hwt
      generalize wx : w2 = W2 at *
      clear wx
      have n0 := cell_of (hs.cells 0 rfl) 0
      have n1 := cell_of (hs.cells 0 rfl) 1
      simp only [List.getElem?_toArray, List.getElem?_cons_zero, List.getElem?_cons_succ] at n0 n1
      have hs := hs.litInts .i64 2 [0] (by simp [maxLen])
      simp only [List.map_cons, List.map_nil, List.length_cons, List.length_nil, Nat.reduceAdd, World.size_alloc] at hs
      go_wp2_with fail
      have hr : RdG edR _ (.slice (some ⟨w.heap.size, 0, none⟩) 1 1) [ed] := hs.rdRecs 2 rfl
      refine (flows_any n _ _ [ed] _ [0] _ hr (hs.rdInts 0 rfl)).mono ?_
      rintro en w3 ⟨rfl, hb⟩
      rw [F1.out]
      clear n0 n1 hr
      replace hs := hs.belowStep hb
      clear hb; (try clear n0 n1)
      have n0 := cell_of (hs.cells 1 rfl) 0
      have n1 := cell_of (hs.cells 1 rfl) 1
      simp only [List.getElem?_toArray, List.getElem?_cons_zero, List.getElem?_cons_succ] at n0 n1
      have hs := hs.litInts .i64 2 [c] (by simp [maxLen])
      simp only [List.map_cons, List.map_nil, List.length_cons, List.length_nil, Nat.reduceAdd, World.size_alloc] at hs
      go_wp2_with fail
      have hr : RdG edR _ (.slice (some ⟨w.heap.size, 0, none⟩) 1 1) [ed] := hs.rdRecs 3 rfl
      refine (within_any n _ _ [ed] _ [c] _ hr (hs.rdInts 0 rfl)).mono ?_
      rintro en w4 ⟨rfl, hb⟩
      rw [F2.out]
      clear n0 n1 hr
      replace hs := hs.belowStep hb
      clear hb; (try clear n0 n1)
      have n0 := cell_of (hs.cells 2 rfl) 0
      have n1 := cell_of (hs.cells 2 rfl) 1
      simp only [List.getElem?_toArray, List.getElem?_cons_zero, List.getElem?_cons_succ] at n0 n1
      have hs := hs.litInts .i64 2 [c + 1] (by simp [maxLen])
      simp only [List.map_cons, List.map_nil, List.length_cons, List.length_nil, Nat.reduceAdd, World.size_alloc] at hs
      go_wp2_with fail
      have hr : RdG edR _ (.slice (some ⟨w.heap.size, 0, none⟩) 1 1) [ed] := hs.rdRecs 4 rfl
      refine (within_any n _ _ [ed] _ [c + 1] _ hr (hs.rdInts 0 rfl)).mono ?_
      rintro en w5 ⟨rfl, hb⟩
      rw [F3.out]
      clear n0 n1 hr
      replace hs := hs.belowStep hb
      clear hb; (try clear n0 n1)
      have n0 := cell_of (hs.cells 3 rfl) 0
      have n1 := cell_of (hs.cells 3 rfl) 1
      simp only [List.getElem?_toArray, List.getElem?_cons_zero, List.getElem?_cons_succ] at n0 n1
      have hs := hs.litInts .i64 2 [c] (by simp [maxLen])
      simp only [List.map_cons, List.map_nil, List.length_cons, List.length_nil, Nat.reduceAdd, World.size_alloc] at hs
      go_wp2_with fail
      have hr : RdG edR _ (.slice (some ⟨w.heap.size, 0, none⟩) 1 1) [ed] := hs.rdRecs 5 rfl
      refine (cost_any n _ _ [ed] _ [c] _ hr (hs.rdInts 0 rfl)).mono ?_
      rintro en w6 ⟨rfl, hb⟩
      rw [F4.out]
      clear n0 n1 hr
      replace hs := hs.belowStep hb
      clear hb; (try clear n0 n1)
      go_wp2_with fail
      refine (works_any _).mono ?_
      rintro en wz ⟨rfl, hb⟩
      go_wp2_with fail
      go_ret
      exact ⟨rfl, (hs.belowStep hb).below⟩
end Go.Proofs.Ytdjkpnddjiapgaa
