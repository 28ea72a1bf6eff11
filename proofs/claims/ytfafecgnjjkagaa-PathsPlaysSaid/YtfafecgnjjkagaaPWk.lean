/-
  The paths laws' anchor, walked.
-/
import Derived.Test.YtfafecgnjjkagaaPC
import Derived.Test.YtfafecgnjjkagaaPA
namespace Go.PathP
open Go Go.Mem Go.NetP Go.RestP Go.CertP
/-- The chapter's net. -/
def exP : List Ed := [⟨0, 1, 5, 3⟩]
theorem exP_arcs : arcsL exP [0] [0, 0] = [⟨0, 0, 1, 3⟩] := by decide
theorem exP_fits : fitsB 2 exP [0] [0, 0] = true := by decide
theorem exP_no : fitsB 2 exP [5] [0, 0] = false := by decide
theorem exP_yes : fitsB 2 exP [5] [0, 3] = true := by decide
theorem exP_from : fromB (2 : Int).toNat [0] = true := by decide
theorem walk_one {a : Ar} {src : Nat → Prop} {N : Nat} {M : Int} (hN : Net [a] src N M) {v : Nat} {x y : Int} (p : Walk [a] src v x y) (hv : ¬ src v) : a.len ≤ x := by
  cases p with
  | nil q => exact absurd q hv
  | snoc p ha hu =>
    have ha2 := List.mem_singleton.1 ha
    subst ha2
    have := p.pos hN
    omega
theorem exP_ws {D B : List Int} (h : WS (arcsL exP [0] [0, 0]) (· ∈ fromN [0]) (2 : Int).toNat maxL D B) : D = [0, 3] ∧ B = [-1, 0] := by
  rw [exP_arcs] at h
  have h : WS [⟨0, 0, 1, 3⟩] (· ∈ fromN [0]) 2 maxL D B := h
  obtain ⟨H, hh⟩ := h.wh (by omega)
  have hs : g D 0 = 0 ∧ g B 0 = -1 := hh.src_ 0 (by omega) (by simp [fromN])
  have ha := hh.arc ⟨0, 0, 1, 3⟩ (by simp) (by rw [hs.1]; omega)
  dsimp only at ha
  have h1 : g D 1 = 3 ∧ g B 1 = 0 := by
    by_cases q : 0 ≤ g B 1
    · obtain ⟨a, hm, e1, _, _, _, e2, _⟩ := hh.some_ 1 (by omega) q
      simp at hm
      subst hm
      dsimp only at e1 e2
      omega
    · have q1 := hh.none_ 1 (by omega) (by omega)
      obtain ⟨H', _, _, hl, hb⟩ := h.lab
      have q2 := hb 1 (by omega)
      have q3 := hl.least 1 3 1 (by
        have p : Walk [(⟨0, 0, 1, 3⟩ : Ar)] (· ∈ fromN [0]) 0 0 0 := .nil (by simp [fromN])
        exact p.snoc (a := ⟨0, 0, 1, 3⟩) (by simp) rfl)
      rcases hl.real 1 (by omega) with r | ⟨_, r⟩
      · unfold LE at q3; omega
      · have hx : g D 1 = 0 := by omega
        rw [hx] at r
        have hp := r
        obtain ⟨Y, hY⟩ : ∃ Y, Y = g H' 1 := ⟨_, rfl⟩
        rw [← hY] at r
        have := walk_one h.net r (by simp [fromN])
        dsimp only at this
        omega
  refine ⟨ext_g (by rw [h.lD]; rfl) fun v hv => ?_, ext_g (by rw [h.lB]; rfl) fun v hv => ?_⟩
  · rw [h.lD] at hv
    have : v = 0 ∨ v = 1 := by omega
    rcases this with rfl | rfl
    · exact hs.1
    · exact h1.1
  · rw [h.lB] at hv
    have : v = 0 ∨ v = 1 := by omega
    rcases this with rfl | rfl
    · exact hs.2
    · exact h1.2
end Go.PathP
namespace Go.Proofs.Ytfafecgnjjkagaa
open Go Go.RowKit Go.Mem Go.NetP Go.RestP Go.CertP Go.PathP Go.Shelf
set_option maxRecDepth 100000 in
set_option maxHeartbeats 4000000 in
theorem pworks_any (w : World) : Calls Try.prog 8 #[] w fun e w' => e = .returned (.bool true) ∧ Below w.heap.size w w' := by
  have key : ∀ cs : Array Value, Sep w ((w.alloc (.cells #[.int .i64 0, .int .i64 1, .int .i64 5, .int .i64 3] 39)).alloc (.cells cs 24))
      [cellsT (w.heap.size + 1) cs 24, recT edR 39 (.slice (some ⟨w.heap.size, 0, none⟩) 1 1) exP] := fun cs => by
    have h := ((Sep.start w).litRecs edR 39 exP (by simp [maxLen, exP])).newCells cs 24
    rw [World.size_alloc] at h
    exact h
  go_enter Try.func8, Try.ntmps8
  have hs1 := key #[.int .i64 2, .slice (some ⟨w.heap.size, 0, none⟩) 1 1]
  go_upto_region 2 with fail
  generalize World.alloc (World.alloc w _) _ = W2 at hs1 ⊢
  have hs := ((hs1.litInts .i64 2 [0] (by simp [maxLen])).litInts .i64 2 [0, 0] (by simp [maxLen])).litInts .i64 3 [0] (by simp [maxLen])
  simp only [List.map_cons, List.map_nil, List.length_cons, List.length_nil, Nat.reduceAdd, World.size_alloc] at hs
  have n0 := cell_of (hs.cells 3 rfl) 0
  have n1 := cell_of (hs.cells 3 rfl) 1
  simp only [List.getElem?_toArray, List.getElem?_cons_zero, List.getElem?_cons_succ] at n0 n1
  have m0 := cell_of (hs1.cells 0 rfl) 0
  have m1 := cell_of (hs1.cells 0 rfl) 1
  simp only [List.getElem?_toArray, List.getElem?_cons_zero, List.getElem?_cons_succ] at m0 m1
  go_wp2_with fail
  refine (ways_any 2 _ 1 exP _ _ _ [0] [0, 0] [0] _ (hs.rdRecs 4 rfl) (hs.rdInts 2 rfl) (hs.rdInts 1 rfl) (hs.rdInts 0 rfl) (by simp)).mono ?_
  intro en w2 hP
  clear n0 n1 m0 m1 hs1
  rcases hP with ⟨HF, rfl, hb⟩ | ⟨_, D, B, vd, vb, hws, rfl, k1⟩
  · rw [exP_fits, exP_from] at HF
    cases HF
  · obtain ⟨rfl, rfl⟩ := exP_ws hws
    clear hws
    obtain ⟨ad, cd, rfl⟩ := (k1.rdInts 0 rfl).shape
    obtain ⟨ab, cb, rfl⟩ := (k1.rdInts 1 rfl).shape
    simp only [List.length_cons, List.length_nil, Nat.reduceAdd] at k1 ⊢
    replace hs := hs.join k1
    clear k1
    simp only [List.cons_append, List.nil_append] at hs
    obtain ⟨g1, o1, q1, _, x1⟩ := (hs.rdInts 0 rfl).at 1 (by simp)
    subst q1
    obtain ⟨g2, o2, q2, _, x2⟩ := (hs.rdInts 1 rfl).at 0 (by simp)
    subst q2
    obtain ⟨g3, o3, q3, _, x3⟩ := (hs.rdInts 1 rfl).at 1 (by simp)
    injection q3 with q3
    injection q3 with q3 q4
    subst q3
    subst q4
    simp only [List.getD_cons_zero, List.getD_cons_succ, Nat.add_zero] at x1 x2 x3
    go_upto_region 5 with fail
    clear x1 x2 x3
    have n0 := cell_of (hs.cells 5 rfl) 0
    have n1 := cell_of (hs.cells 5 rfl) 1
    simp only [List.getElem?_toArray, List.getElem?_cons_zero, List.getElem?_cons_succ] at n0 n1
    have hs2 := (hs.litInts .i64 2 [5] (by simp [maxLen])).litInts .i64 2 [0, 0] (by simp [maxLen])
    simp only [List.map_cons, List.map_nil, List.length_cons, List.length_nil, Nat.reduceAdd, World.size_alloc] at hs2
    go_wp2_with fail
    refine (pfits_any 2 _ 1 exP _ _ [5] [0, 0] _ (hs2.rdRecs 8 rfl) (hs2.rdInts 1 rfl) (hs2.rdInts 0 rfl)).mono ?_
    rintro en w3 ⟨rfl, hb⟩
    rw [exP_no]
    clear hs n0 n1
    have hs := hs2.belowStep hb
    clear hs2 hb
    have n0 := cell_of (hs.cells 7 rfl) 0
    have n1 := cell_of (hs.cells 7 rfl) 1
    simp only [List.getElem?_toArray, List.getElem?_cons_zero, List.getElem?_cons_succ] at n0 n1
    have hs2 := (hs.litInts .i64 2 [5] (by simp [maxLen])).litInts .i64 2 [0, 3] (by simp [maxLen])
    simp only [List.map_cons, List.map_nil, List.length_cons, List.length_nil, Nat.reduceAdd, World.size_alloc] at hs2
    go_wp2_with fail
    refine (pfits_any 2 _ 1 exP _ _ [5] [0, 3] _ (hs2.rdRecs 10 rfl) (hs2.rdInts 1 rfl) (hs2.rdInts 0 rfl)).mono ?_
    rintro en w4 ⟨rfl, hb⟩
    rw [exP_yes]
    go_wp2_with fail
    go_ret
    exact ⟨rfl, (hs2.belowStep hb).below⟩
end Go.Proofs.Ytfafecgnjjkagaa
