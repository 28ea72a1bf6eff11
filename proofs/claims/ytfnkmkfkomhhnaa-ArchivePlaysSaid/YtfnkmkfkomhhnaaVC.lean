/-
  Rounds that are the same; what is kept.
-/
import Derived.Test.YtfnkmkfkomhhnaaVB
/-
  Rounds that are the same; may rounds be gone through: walked.
-/
namespace Go.Proofs.Ytfnkmkfkomhhnaa
open Go Go.RowKit Go.Mem Go.NetP Go.CertP Go.ArchP

set_option maxHeartbeats 1000000 in
/-- Two nets that are the same. -/
theorem sameNet20_same (n : Int) (a a' : Option Addr) (c c' : Nat) (es : List Ed) (w : World) (h : RdG edR w (.slice a es.length c) es) (h' : RdG edR w (.slice a' es.length c') es) :
    Calls Try.prog 25 #[.agg #[.int .i64 n, .slice a es.length c], .agg #[.int .i64 n, .slice a' es.length c']] w fun en w' => en = .returned (.bool true) ∧ Below w.heap.size w w' := by
  have hle := h.le
  unfold maxLen at hle
  have hs0 := ((Sep.start w).newCells #[.int .i64 n, .slice a es.length c] 34).newCells #[.int .i64 n, .slice a' es.length c'] 34
  simp only [World.size_alloc] at hs0
  have FIN := Lib.hid (fun (W : World) (h : Sep w W [cellsT (w.heap.size + 1) #[.int .i64 n, .slice a' es.length c'] 34, cellsT w.heap.size #[.int .i64 n, .slice a es.length c] 34]) =>
    (⟨cell_of (h.cells 1 rfl) 0, cell_of (h.cells 1 rfl) 1, cell_of (h.cells 0 rfl) 0, cell_of (h.cells 0 rfl) 1⟩ : W.cell? ⟨w.heap.size, 0, none⟩ = some (.int .i64 n) ∧ W.cell? ⟨w.heap.size, 1, none⟩ = some (.slice a es.length c) ∧ W.cell? ⟨w.heap.size + 1, 0, none⟩ = some (.int .i64 n) ∧ W.cell? ⟨w.heap.size + 1, 1, none⟩ = some (.slice a' es.length c')))
  go_enter Try.func25, Try.ntmps25
  go_wp2_with fail
  refine wp_loopM [none, none, none, none, some 4, some 5, none, none, none, none, none, none, none, none, none, none, none, none, none, none, some 20, some 21, some 22, some 23, some 24, some 25, some 26, some 27, some 28, some 29, some 30, some 31, some 32, some 33, some 34, some 35, some 36, some 37] (fun (r : Nat) (f : Nat → Value) (wr : World) => (fun (v : Value) => ∃ i : Nat, v = .int .i64 i ∧ i ≤ es.length ∧ r = es.length - i ∧ Sep w wr [cellsT (w.heap.size + 1) #[.int .i64 n, .slice a' es.length c'] 34, cellsT w.heap.size #[.int .i64 n, .slice a es.length c] 34]) (f 5)) (es.length) (by kernel_rfl) ?atStart1 ?round1
  case' atStart1 => (try dsimp only [nthV])
  case' round1 =>
    intro gk f wr l hl hrel J1 K1 hJ1 hK1
    (try simp only [mask] at hl)
    generalize f 5 = u5 at hl hrel
    subst hl
    (try dsimp only at hrel)
  case atStart1 => exact ⟨0, rfl, Nat.zero_le _, rfl, hs0⟩
  case round1 =>
    clear hs0
    obtain ⟨i, rfl, hi, rfl, hs⟩ := hrel
    obtain ⟨n0, n1, m0, m1⟩ := FIN.out _ hs
    by_cases hlt : i < es.length
    · obtain ⟨b1, o1, e1, hb1, hc1⟩ := (hs.rdG h).at i hlt
      obtain ⟨b2, o2, e2, hb2, hc2⟩ := (hs.rdG h').at i hlt
      subst e1; subst e2
      obtain ⟨e, hee⟩ : ∃ e, e = es[i] := ⟨_, rfl⟩
      rw [← hee] at hc1 hc2
      have x0 := hc1 0 (by decide)
      have x1 := hc1 1 (by decide)
      have x2 := hc1 2 (by decide)
      have x3 := hc1 3 (by decide)
      have y0 := hc2 0 (by decide)
      have y1 := hc2 1 (by decide)
      have y2 := hc2 2 (by decide)
      have y3 := hc2 3 (by decide)
      simp only [edR, Nat.add_zero, List.getElem?_cons_zero, List.getElem?_cons_succ] at x0 x1 x2 x3 y0 y1 y2 y3
      clear hc1 hc2 hee
      go_wp2_with fail
      refine Mix.region [0, 0, 0, 0, 0, 0, 0, 0, 0, 0, 0] (fun _ => True) (by kernel_rfl) (by kernel_rfl) trivial ?_
      simp only [List.zip_cons_cons, List.zip_nil_right]
      iterate 11 (refine Mix.step0 fun K hK => ?_; go_simp; (try (go_bits; try go_simp)); first | ((with_reducible refine hK _ _ ?_); clear hK K) | ((try (simp only [IntWalk.iteOmega]; try go_simp)); (try go_bits); (with_reducible refine hK _ _ ?_); clear hK K))
      refine Mix.done ?_
      go_wp2_with fail
      refine Round.intro (es.length - (i + 1)) ?measure2 (by kernel_rfl) (hJ1 _ _ _ ?rel2)
      case' rel2 => (try dsimp only [nthV])
      case measure2 => omega
      case rel2 => exact ⟨i + 1, by go_num, hlt, rfl, hs.drew⟩
    · go_wp2_with fail
      go_ret
      exact ⟨rfl, hs.below⟩

set_option maxHeartbeats 2000000 in
theorem same_same (r q : Ro) (hrq : r.co = q.co) (w : World) (h : r.Ok w) (h' : q.Ok w) :
    Calls Try.prog 15 #[r.val, q.val] w fun en w' => en = .returned (.bool true) ∧ Below w.heap.size w w' := by
  obtain ⟨no', day', comp', ai, ci, ids', n', ae, ce, es', af, cf, fl', ap, cp, pot'⟩ := r
  obtain ⟨no, day, comp, ai', ci', ids, n, ae', ce', es, af', cf', fl, ap', cp', pot⟩ := q
  replace hrq := hrq.symm
  simp only [Ro.co, Co.mk.injEq] at hrq
  obtain ⟨rfl, rfl, rfl, rfl, rfl, rfl, rfl, rfl⟩ := hrq
  obtain ⟨h1, h2, h3, h4⟩ := h
  obtain ⟨g1, g2, g3, g4⟩ := h'
  have l1 := h1.le'
  have l2 := h2.le'
  have l3 := h3.le'
  have l4 := h4.le'
  dsimp only [Ro.val] at *
  have hs0 := ((Sep.start w).newCells #[.int .u64 no, .int .i64 day, .bool comp, .slice ai ids.length ci, .int .i64 n, .slice ae es.length ce, .slice af fl.length cf, .slice ap pot.length cp] 39).newCells #[.int .u64 no, .int .i64 day, .bool comp, .slice ai' ids.length ci', .int .i64 n, .slice ae' es.length ce', .slice af' fl.length cf', .slice ap' pot.length cp'] 39
  simp only [World.size_alloc] at hs0
  have FIN := Lib.hid (fun (W : World) (h : Sep w W [cellsT (w.heap.size + 1) #[.int .u64 no, .int .i64 day, .bool comp, .slice ai' ids.length ci', .int .i64 n, .slice ae' es.length ce', .slice af' fl.length cf', .slice ap' pot.length cp'] 39, cellsT w.heap.size #[.int .u64 no, .int .i64 day, .bool comp, .slice ai ids.length ci, .int .i64 n, .slice ae es.length ce, .slice af fl.length cf, .slice ap pot.length cp] 39]) => (⟨cell_of (h.cells 1 rfl) 0, cell_of (h.cells 1 rfl) 1, cell_of (h.cells 1 rfl) 2, cell_of (h.cells 1 rfl) 3, cell_of (h.cells 1 rfl) 4, cell_of (h.cells 1 rfl) 5, cell_of (h.cells 1 rfl) 6, cell_of (h.cells 1 rfl) 7, cell_of (h.cells 0 rfl) 0, cell_of (h.cells 0 rfl) 1, cell_of (h.cells 0 rfl) 2, cell_of (h.cells 0 rfl) 3, cell_of (h.cells 0 rfl) 4, cell_of (h.cells 0 rfl) 5, cell_of (h.cells 0 rfl) 6, cell_of (h.cells 0 rfl) 7⟩ : W.cell? ⟨w.heap.size, 0, none⟩ = some (.int .u64 no) ∧ W.cell? ⟨w.heap.size, 1, none⟩ = some (.int .i64 day) ∧ W.cell? ⟨w.heap.size, 2, none⟩ = some (.bool comp) ∧ W.cell? ⟨w.heap.size, 3, none⟩ = some (.slice ai ids.length ci) ∧ W.cell? ⟨w.heap.size, 4, none⟩ = some (.int .i64 n) ∧ W.cell? ⟨w.heap.size, 5, none⟩ = some (.slice ae es.length ce) ∧ W.cell? ⟨w.heap.size, 6, none⟩ = some (.slice af fl.length cf) ∧ W.cell? ⟨w.heap.size, 7, none⟩ = some (.slice ap pot.length cp) ∧ W.cell? ⟨w.heap.size + 1, 0, none⟩ = some (.int .u64 no) ∧ W.cell? ⟨w.heap.size + 1, 1, none⟩ = some (.int .i64 day) ∧ W.cell? ⟨w.heap.size + 1, 2, none⟩ = some (.bool comp) ∧ W.cell? ⟨w.heap.size + 1, 3, none⟩ = some (.slice ai' ids.length ci') ∧ W.cell? ⟨w.heap.size + 1, 4, none⟩ = some (.int .i64 n) ∧ W.cell? ⟨w.heap.size + 1, 5, none⟩ = some (.slice ae' es.length ce') ∧ W.cell? ⟨w.heap.size + 1, 6, none⟩ = some (.slice af' fl.length cf') ∧ W.cell? ⟨w.heap.size + 1, 7, none⟩ = some (.slice ap' pot.length cp')))
  have SN := Lib.hid (sameNet20_same n ae ae' ce ce' _ _ (hs0.rdG h2) (hs0.rdG g2))
  go_enter Try.func15, Try.ntmps15
  go_wp2_with fail
  refine (SN.out).mono ?_
  rintro en w1 ⟨rfl, hb⟩
  replace hs0 := hs0.belowStep hb
  clear hb
  obtain ⟨m0, m1, m2, m3, m4, m5, m6, m7, k0, k1, k2, k3, k4, k5, k6, k7⟩ := FIN.out _ hs0
  clear SN
  go_wp2_with fail
  clear m0 m1 m2 m3 m4 m5 m6 m7 k0 k1 k2 k3 k4 k5 k6 k7
  refine wp_loopM [none, none, none, none, some 4, some 5, none, none, none, none, none, none, none, none, none, none, none, none, none, none, none, none, none, none, none, none, none, none, none, none, none, none, none, none, none, none, none, none, none, none, none, none, none, none, none, none, none, none, none, none, none, none, none, none, none, none, none, none, none, none, none, none, none, none, none, none, some 66, some 67, some 68, some 69, some 70, some 71, some 72, some 73, some 74, some 75, some 76, some 77, some 78, some 79, some 80, some 81, some 82, some 83, none, none, none, none, none, none, none, none, none, none, none, none, none, none, none, none, none, none, none, none, none, none, none, none, none, none, none, none, none, none, none, none, none, none, none, none, none, none, none, none, none, none] (fun (r : Nat) (f : Nat → Value) (wr : World) => (fun (v : Value) => ∃ i : Nat, v = .int .i64 i ∧ i ≤ ids.length ∧ r = ids.length - i ∧ Sep w wr [cellsT (w.heap.size + 1) #[.int .u64 no, .int .i64 day, .bool comp, .slice ai' ids.length ci', .int .i64 n, .slice ae' es.length ce', .slice af' fl.length cf', .slice ap' pot.length cp'] 39, cellsT w.heap.size #[.int .u64 no, .int .i64 day, .bool comp, .slice ai ids.length ci, .int .i64 n, .slice ae es.length ce, .slice af fl.length cf, .slice ap pot.length cp] 39]) (f 5)) (ids.length) (by kernel_rfl) ?atStart3 ?round3
  case' atStart3 => (try dsimp only [nthV])
  case' round3 =>
    intro gk f wr l hl hrel J1 K1 hJ1 hK1
    (try simp only [mask] at hl)
    generalize f 5 = u5 at hl hrel
    subst hl
    (try dsimp only at hrel)
  case atStart3 => exact ⟨0, rfl, Nat.zero_le _, rfl, hs0⟩
  case round3 =>
    clear hs0
    obtain ⟨i, rfl, hi, rfl, hs1⟩ := hrel
    obtain ⟨m0, m1, m2, m3, m4, m5, m6, m7, k0, k1, k2, k3, k4, k5, k6, k7⟩ := FIN.out _ hs1
    by_cases hlt : i < ids.length
    · obtain ⟨b1, o1, e1, hb1, hc1⟩ := (hs1.rd h1).at i hlt
      obtain ⟨b2, o2, e2, hb2, hc2⟩ := (hs1.rd g1).at i hlt
      subst e1; subst e2
      obtain ⟨X, hX⟩ : ∃ X, X = ids.getD i 0 := ⟨_, rfl⟩
      rw [← hX] at hc1 hc2
      clear hX
      go_wp2_with fail
      refine Mix.region [0, 0, 0, 0, 0, 0, 0, 0, 0, 0, 0] (fun _ => True) (by kernel_rfl) (by kernel_rfl) trivial ?_
      simp only [List.zip_cons_cons, List.zip_nil_right]
      iterate 11 (refine Mix.step0 fun K hK => ?_; go_simp; (try (go_bits; try go_simp)); first | ((with_reducible refine hK _ _ ?_); clear hK K) | ((try (simp only [IntWalk.iteOmega]; try go_simp)); (try go_bits); (with_reducible refine hK _ _ ?_); clear hK K))
      refine Mix.done ?_
      go_wp2_with fail
      refine Round.intro (ids.length - (i + 1)) ?measure4 (by kernel_rfl) (hJ1 _ _ _ ?rel4)
      case' rel4 => (try dsimp only [nthV])
      case measure4 => omega
      case rel4 => exact ⟨i + 1, by go_num, hlt, rfl, hs1.drew⟩
    · clear hi
      go_wp2_with fail
      clear m0 m1 m2 m3 m4 m5 m6 m7 k0 k1 k2 k3 k4 k5 k6 k7
      refine wp_loopM [none, none, none, none, some 4, none, some 6, none, none, none, none, none, none, none, none, none, none, none, none, none, none, none, none, none, none, none, none, none, none, none, none, none, none, none, none, none, none, none, none, none, none, none, none, none, none, none, none, none, none, none, none, none, none, none, none, none, none, none, none, none, none, none, none, none, none, none, none, none, none, none, none, none, none, none, none, none, none, none, none, none, none, none, none, none, some 84, some 85, some 86, some 87, some 88, some 89, some 90, some 91, some 92, some 93, some 94, some 95, some 96, some 97, some 98, some 99, some 100, some 101, some 102, some 103, some 104, none, none, none, none, none, none, none, none, none, none, none, none, none, none, none, none, none, none, none, none, none] (fun (r : Nat) (f : Nat → Value) (wr : World) => (fun (v : Value) => ∃ i : Nat, v = .int .i64 i ∧ i ≤ fl.length ∧ r = fl.length - i ∧ Sep w wr [cellsT (w.heap.size + 1) #[.int .u64 no, .int .i64 day, .bool comp, .slice ai' ids.length ci', .int .i64 n, .slice ae' es.length ce', .slice af' fl.length cf', .slice ap' pot.length cp'] 39, cellsT w.heap.size #[.int .u64 no, .int .i64 day, .bool comp, .slice ai ids.length ci, .int .i64 n, .slice ae es.length ce, .slice af fl.length cf, .slice ap pot.length cp] 39]) (f 6)) (fl.length) (by kernel_rfl) ?atStart5 ?round5
      case' atStart5 => (try dsimp only [nthV])
      case' round5 =>
        intro gk f wr l hl hrel J2 K2 hJ2 hK2
        (try simp only [mask] at hl)
        generalize f 6 = u6 at hl hrel
        subst hl
        (try dsimp only at hrel)
      case atStart5 => exact ⟨0, rfl, Nat.zero_le _, rfl, hs1⟩
      case round5 =>
        clear hs1
        obtain ⟨i, rfl, hi, rfl, hs2⟩ := hrel
        obtain ⟨m0, m1, m2, m3, m4, m5, m6, m7, k0, k1, k2, k3, k4, k5, k6, k7⟩ := FIN.out _ hs2
        by_cases hlt : i < fl.length
        · obtain ⟨b1, o1, e1, hb1, hc1⟩ := (hs2.rd h3).at i hlt
          obtain ⟨b2, o2, e2, hb2, hc2⟩ := (hs2.rd g3).at i hlt
          subst e1; subst e2
          obtain ⟨X, hX⟩ : ∃ X, X = fl.getD i 0 := ⟨_, rfl⟩
          rw [← hX] at hc1 hc2
          clear hX
          go_wp2_with fail
          refine Mix.region [0, 0, 0, 0, 0, 0, 0, 0, 0, 0, 0, 0, 0] (fun _ => True) (by kernel_rfl) (by kernel_rfl) trivial ?_
          simp only [List.zip_cons_cons, List.zip_nil_right]
          iterate 13 (refine Mix.step0 fun K hK => ?_; go_simp; (try (go_bits; try go_simp)); first | ((with_reducible refine hK _ _ ?_); clear hK K) | ((try (simp only [IntWalk.iteOmega]; try go_simp)); (try go_bits); (with_reducible refine hK _ _ ?_); clear hK K))
          refine Mix.done ?_
          go_wp2_with fail
          refine Round.intro (fl.length - (i + 1)) ?measure6 (by kernel_rfl) (hJ2 _ _ _ ?rel6)
          case' rel6 => (try dsimp only [nthV])
          case measure6 => omega
          case rel6 => exact ⟨i + 1, by go_num, hlt, rfl, hs2.drew⟩
        · clear hi
          go_wp2_with fail
          clear m0 m1 m2 m3 m4 m5 m6 m7 k0 k1 k2 k3 k4 k5 k6 k7
          refine wp_loopM [none, none, none, none, some 4, none, none, some 7, none, none, none, none, none, none, none, none, none, none, none, none, none, none, none, none, none, none, none, none, none, none, none, none, none, none, none, none, none, none, none, none, none, none, none, none, none, none, none, none, none, none, none, none, none, none, none, none, none, none, none, none, none, none, none, none, none, none, none, none, none, none, none, none, none, none, none, none, none, none, none, none, none, none, none, none, none, none, none, none, none, none, none, none, none, none, none, none, none, none, none, none, none, none, none, none, none, some 105, some 106, some 107, some 108, some 109, some 110, some 111, some 112, some 113, some 114, some 115, some 116, some 117, some 118, some 119, some 120, some 121, some 122, some 123, some 124, some 125] (fun (r : Nat) (f : Nat → Value) (wr : World) => (fun (v : Value) => ∃ i : Nat, v = .int .i64 i ∧ i ≤ pot.length ∧ r = pot.length - i ∧ Sep w wr [cellsT (w.heap.size + 1) #[.int .u64 no, .int .i64 day, .bool comp, .slice ai' ids.length ci', .int .i64 n, .slice ae' es.length ce', .slice af' fl.length cf', .slice ap' pot.length cp'] 39, cellsT w.heap.size #[.int .u64 no, .int .i64 day, .bool comp, .slice ai ids.length ci, .int .i64 n, .slice ae es.length ce, .slice af fl.length cf, .slice ap pot.length cp] 39]) (f 7)) (pot.length) (by kernel_rfl) ?atStart7 ?round7
          case' atStart7 => (try dsimp only [nthV])
          case' round7 =>
            intro gk f wr l hl hrel J3 K3 hJ3 hK3
            (try simp only [mask] at hl)
            generalize f 7 = u7 at hl hrel
            subst hl
            (try dsimp only at hrel)
          case atStart7 => exact ⟨0, rfl, Nat.zero_le _, rfl, hs2⟩
          case round7 =>
            clear hs2
            obtain ⟨i, rfl, hi, rfl, hs3⟩ := hrel
            obtain ⟨m0, m1, m2, m3, m4, m5, m6, m7, k0, k1, k2, k3, k4, k5, k6, k7⟩ := FIN.out _ hs3
            by_cases hlt : i < pot.length
            · obtain ⟨b1, o1, e1, hb1, hc1⟩ := (hs3.rd h4).at i hlt
              obtain ⟨b2, o2, e2, hb2, hc2⟩ := (hs3.rd g4).at i hlt
              subst e1; subst e2
              obtain ⟨X, hX⟩ : ∃ X, X = pot.getD i 0 := ⟨_, rfl⟩
              rw [← hX] at hc1 hc2
              clear hX
              go_wp2_with fail
              refine Mix.region [0, 0, 0, 0, 0, 0, 0, 0, 0, 0, 0, 0, 0] (fun _ => True) (by kernel_rfl) (by kernel_rfl) trivial ?_
              simp only [List.zip_cons_cons, List.zip_nil_right]
              iterate 13 (refine Mix.step0 fun K hK => ?_; go_simp; (try (go_bits; try go_simp)); first | ((with_reducible refine hK _ _ ?_); clear hK K) | ((try (simp only [IntWalk.iteOmega]; try go_simp)); (try go_bits); (with_reducible refine hK _ _ ?_); clear hK K))
              refine Mix.done ?_
              go_wp2_with fail
              refine Round.intro (pot.length - (i + 1)) ?measure8 (by kernel_rfl) (hJ3 _ _ _ ?rel8)
              case' rel8 => (try dsimp only [nthV])
              case measure8 => omega
              case rel8 => exact ⟨i + 1, by go_num, hlt, rfl, hs3.drew⟩
            · clear hi
              go_wp2_with fail
              clear m0 m1 m2 m3 m4 m5 m6 m7 k0 k1 k2 k3 k4 k5 k6 k7
              go_ret
              exact ⟨rfl, hs3.below⟩
set_option maxHeartbeats 2000000 in
theorem sameL_same (xs ys : List Ro) (hxy : xs.map Ro.co = ys.map Ro.co) (v v' : Value) (w : World) (h : RdG roR w v xs) (h' : RdG roR w v' ys) (hx : ∀ r ∈ xs, r.Ok w) (hy : ∀ r ∈ ys, r.Ok w) :
    Calls Try.prog 12 #[v, v'] w fun en w' => en = .returned (.bool true) ∧ Below w.heap.size w w' := by
  obtain ⟨a, c, rfl⟩ := h.shape
  obtain ⟨a', c', rfl⟩ := h'.shape
  have hle := h.le'
  have hyl : ys.length = xs.length := by simpa using (congrArg List.length hxy).symm
  have HXY := Lib.hid hxy
  have HX := Lib.hid hx
  have HY := Lib.hid hy
  have HYL := Lib.hid hyl
  have H := Lib.hid h
  have H' := Lib.hid h'
  rw [hyl]
  clear hxy hx hy hyl h h'
  go_enter Try.func12, Try.ntmps12
  go_wp2_with fail
  refine wp_loopM [none, none, none, none, some 4, some 5, none, none, none, none, none, some 11, some 12, some 13, some 14, some 15, some 16, some 17, some 18, some 19, some 20, some 21, some 22, some 23, some 24, some 25, some 26] (fun (r : Nat) (f : Nat → Value) (wr : World) => (fun (v : Value) => ∃ i : Nat, v = .int .i64 i ∧ i ≤ xs.length ∧ r = xs.length - i ∧ Sep w wr []) (f 5)) (xs.length) (by kernel_rfl) ?atStart9 ?round9
  case' atStart9 => (try dsimp only [nthV])
  case' round9 =>
    intro gk f wr l hl hrel J1 K1 hJ1 hK1
    (try simp only [mask] at hl)
    generalize f 5 = u5 at hl hrel
    subst hl
    (try dsimp only at hrel)
  case atStart9 => exact ⟨0, rfl, Nat.zero_le _, rfl, Sep.start w⟩
  case round9 =>
    obtain ⟨i, rfl, hi, rfl, hs⟩ := hrel
    by_cases hlt : i < xs.length
    · have hlt' : i < ys.length := by rw [HYL.out]; exact hlt
      have hr1 := hs.rdG H.out
      have hr2 := hs.rdG H'.out
      rw [HYL.out] at hr2
      obtain ⟨b1, o1, e1, hb1, hc1⟩ := hr1.at i hlt
      obtain ⟨b2, o2, e2, hb2, hc2⟩ := hr2.at i hlt'
      subst e1; subst e2
      have hco : (xs[i]).co = (ys[i]).co := by
        have := congrArg (fun l => l[i]?) HXY.out
        simpa [hlt, hlt'] using this
      have SS := Lib.hid (same_same _ _ hco _ ((HX.out _ (List.getElem_mem hlt)).sep hs.drew) ((HY.out _ (List.getElem_mem hlt')).sep hs.drew))
      generalize xs[i] = x at hc1 SS
      generalize ys[i] = y at hc2 SS
      clear hr1 hr2 hco
      obtain ⟨no, day, comp, ai, ci, ids, n, ae, ce, es, af, cf, fl, ap, cp, pot⟩ := x
      obtain ⟨no', day', comp', ai', ci', ids', n', ae', ce', es', af', cf', fl', ap', cp', pot'⟩ := y
      have x0 := hc1 0 (by decide)
      have x1 := hc1 1 (by decide)
      have x2 := hc1 2 (by decide)
      have x3 := hc1 3 (by decide)
      have x4 := hc1 4 (by decide)
      have x5 := hc1 5 (by decide)
      have x6 := hc1 6 (by decide)
      have x7 := hc1 7 (by decide)
      simp only [roR, Nat.add_zero, List.getElem?_cons_zero, List.getElem?_cons_succ] at x0 x1 x2 x3 x4 x5 x6 x7
      clear hc1
      have y0 := hc2 0 (by decide)
      have y1 := hc2 1 (by decide)
      have y2 := hc2 2 (by decide)
      have y3 := hc2 3 (by decide)
      have y4 := hc2 4 (by decide)
      have y5 := hc2 5 (by decide)
      have y6 := hc2 6 (by decide)
      have y7 := hc2 7 (by decide)
      simp only [roR, Nat.add_zero, List.getElem?_cons_zero, List.getElem?_cons_succ] at y0 y1 y2 y3 y4 y5 y6 y7
      clear hc2
      dsimp only [Ro.val] at SS
      go_wp2_with fail
      refine Mix.region [0, 0, 0, 0, 0, 0, 0, 0, 2, 0] (fun _ => True) (by kernel_rfl) (by kernel_rfl) trivial ?_
      simp only [List.zip_cons_cons, List.zip_nil_right]
      iterate 8 (refine Mix.step0 fun K hK => ?_; go_simp; (try (go_bits; try go_simp)); first | ((with_reducible refine hK _ _ ?_); clear hK K) | ((try (simp only [IntWalk.iteOmega]; try go_simp)); (try go_bits); (with_reducible refine hK _ _ ?_); clear hK K))
      refine Mix.step2n (by first | rfl | simp [Region.wanted, yielded]) fun K hK => ?_
      go_wp2_with fail
      refine (SS.out).mono ?_
      rintro en w1 ⟨rfl, hb⟩
      replace hs := hs.drew.belowStep hb
      clear hb SS x0 x1 x2 x3 x4 x5 x6 x7 y0 y1 y2 y3 y4 y5 y6 y7
      go_wp2_with fail
      refine Mix.post_mk (C := (fun _ => True)) trivial (hK _ _ ?_)
      clear hK K
      iterate 1 (refine Mix.step0 fun K hK => ?_; go_simp; (try (go_bits; try go_simp)); first | ((with_reducible refine hK _ _ ?_); clear hK K) | ((try (simp only [IntWalk.iteOmega]; try go_simp)); (try go_bits); (with_reducible refine hK _ _ ?_); clear hK K))
      refine Mix.done ?_
      go_wp2_with fail
      refine Round.intro (xs.length - (i + 1)) ?measure10 (by kernel_rfl) (hJ1 _ _ _ ?rel10)
      case' rel10 => (try dsimp only [nthV])
      case measure10 => omega
      case rel10 => exact ⟨i + 1, by go_num, hlt, rfl, hs⟩
    · go_wp2_with fail
      go_ret
      exact ⟨rfl, hs.below⟩
def okFew (xs : List Ro) : Prop := xs.length ≤ 12 ∧ ∀ r ∈ xs, r.small
def FewV (xs : List Ro) (v : Value) : Prop := v = .bool false ∨ (v = .bool true ∧ okFew xs)
theorem few_step {xs : List Ro} {i : Nat} (hi : i < xs.length) (h : ∀ r ∈ xs.take i, r.small) (hx : (xs[i]).small) : ∀ r ∈ xs.take (i + 1), r.small := by
  rw [List.take_succ_eq_append_getElem hi]
  intro r hr
  rcases List.mem_append.1 hr with q | q
  · exact h r q
  · rw [List.mem_singleton.1 q]; exact hx
set_option maxHeartbeats 2000000 in
theorem few_any (xs : List Ro) (v : Value) (w : World) (h : RdG roR w v xs) :
    Calls Try.prog 7 #[v] w fun en w' => ∃ v, en = .returned v ∧ FewV xs v ∧ w' = w := by
  obtain ⟨a, c, rfl⟩ := h.shape
  have hle := h.le'
  by_cases h12 : xs.length ≤ 12
  · have d12 : decide ((12 : Int) < (xs.length : Int)) = false := decide_eq_false (by omega)
    go_enter Try.func7, Try.ntmps7
    go_wp2_with fail
    refine wp_loopM [none, none, some 2, some 3, none, none, none, some 7, some 8, some 9, some 10, some 11, some 12, some 13, some 14, some 15, some 16, some 17, some 18, some 19, some 20, some 21, some 22, some 23, some 24, some 25, some 26, some 27, some 28, some 29, some 30, some 31, some 32, some 33, some 34, some 35, some 36, some 37, some 38, some 39, some 40, some 41, some 42, some 43, some 44, some 45, some 46, some 47, some 48, some 49, some 50, some 51, some 52, some 53, some 54, some 55, some 56, some 57, some 58] (fun (r : Nat) (f : Nat → Value) (wr : World) => (fun (v : Value) => ∃ i : Nat, v = .int .i64 i ∧ i ≤ xs.length ∧ r = xs.length - i ∧ (∀ r ∈ xs.take i, r.small) ∧ wr = w) (f 3)) (xs.length) (by kernel_rfl) ?atStart11 ?round11
    case' atStart11 => (try dsimp only [nthV])
    case' round11 =>
      intro gk f wr l hl hrel J1 K1 hJ1 hK1
      (try simp only [mask] at hl)
      generalize f 3 = u3 at hl hrel
      subst hl
      (try dsimp only at hrel)
    case atStart11 => exact ⟨0, rfl, Nat.zero_le _, rfl, by simp, rfl⟩
    case round11 =>
      obtain ⟨i, rfl, hi, rfl, HS, rfl⟩ := hrel
      by_cases hlt : i < xs.length
      · obtain ⟨b1, o1, e1, hb1, hc1⟩ := h.at i hlt
        subst e1
        have FSc := Lib.hid (few_step hlt HS)
        generalize xs[i] = x at hc1 FSc
        clear HS h
        obtain ⟨no, day, comp, ai, ci, ids, n, ae, ce, es, af, cf, fl, ap, cp, pot⟩ := x
        have x0 := hc1 0 (by decide)
        have x1 := hc1 1 (by decide)
        have x2 := hc1 2 (by decide)
        have x3 := hc1 3 (by decide)
        have x4 := hc1 4 (by decide)
        have x5 := hc1 5 (by decide)
        have x6 := hc1 6 (by decide)
        have x7 := hc1 7 (by decide)
        simp only [roR, Nat.add_zero, List.getElem?_cons_zero, List.getElem?_cons_succ] at x0 x1 x2 x3 x4 x5 x6 x7
        clear hc1
        by_cases q1 : es.length ≤ 300
        rotate_left
        · have d1 : decide ((300 : Int) < (es.length : Int)) = true := decide_eq_true (by omega)
          clear FSc q1
          go_wp2_with fail
          go_ret
          exact ⟨_, rfl, .inl rfl, rfl⟩
        have d1 : decide ((300 : Int) < (es.length : Int)) = false := decide_eq_false (by omega)
        by_cases q2 : fl.length ≤ 300
        rotate_left
        · have d2 : decide ((300 : Int) < (fl.length : Int)) = true := decide_eq_true (by omega)
          clear FSc q2
          go_wp2_with fail
          go_ret
          exact ⟨_, rfl, .inl rfl, rfl⟩
        have d2 : decide ((300 : Int) < (fl.length : Int)) = false := decide_eq_false (by omega)
        by_cases q3 : pot.length ≤ 100
        rotate_left
        · have d3 : decide ((100 : Int) < (pot.length : Int)) = true := decide_eq_true (by omega)
          clear FSc q3
          go_wp2_with fail
          go_ret
          exact ⟨_, rfl, .inl rfl, rfl⟩
        have d3 : decide ((100 : Int) < (pot.length : Int)) = false := decide_eq_false (by omega)
        by_cases q4 : ids.length ≤ 100
        rotate_left
        · have d4 : decide ((100 : Int) < (ids.length : Int)) = true := decide_eq_true (by omega)
          clear FSc q4
          go_wp2_with fail
          go_ret
          exact ⟨_, rfl, .inl rfl, rfl⟩
        have d4 : decide ((100 : Int) < (ids.length : Int)) = false := decide_eq_false (by omega)
        by_cases q5 : n ≤ 100
        rotate_left
        · have d5 : decide ((100 : Int) < n) = true := decide_eq_true (by omega)
          clear FSc q5
          go_wp2_with fail
          go_ret
          exact ⟨_, rfl, .inl rfl, rfl⟩
        have d5 : decide ((100 : Int) < n) = false := decide_eq_false (by omega)
        replace FSc := Lib.hid (FSc.out ⟨by dsimp only; omega, by dsimp only; omega, by dsimp only; omega, by dsimp only; omega⟩)
        clear q1 q2 q3 q4 q5
        go_wp2_with fail
        refine Round.intro (xs.length - (i + 1)) ?measure12 (by kernel_rfl) (hJ1 _ _ _ ?rel12)
        case' rel12 => (try dsimp only [nthV])
        case measure12 => omega
        case rel12 => exact ⟨i + 1, by go_num, hlt, rfl, FSc.out, rfl⟩
      · obtain rfl : i = xs.length := by omega
        rw [List.take_length] at HS
        have HS2 := Lib.hid HS
        clear HS hlt
        go_wp2_with fail
        go_ret
        exact ⟨_, rfl, .inr ⟨rfl, h12, HS2.out⟩, rfl⟩
  · have d12 : decide ((12 : Int) < (xs.length : Int)) = true := decide_eq_true (by omega)
    go_enter Try.func7, Try.ntmps7
    go_wp2_with fail
    go_ret
    exact ⟨_, rfl, .inl rfl, rfl⟩
end Go.Proofs.Ytfnkmkfkomhhnaa

/-
  The last rounds are kept: plain.
-/
namespace Go.ArchP
open Go Go.RowKit Go.Mem Go.NetP Go.CertP Go.Proofs.Ytfnkmkfkomhhnaa

/-- What is kept behind the rounds xs. -/
def Good4 (ks xs : List Ro) : Prop := ks.length = 4 ∧ (∀ k ∈ ks, k.small) ∧ ∀ j (hj : j < xs.length), xs.length ≤ j + 4 → ∃ k, ks[(j + 1) % 4]? = some k ∧ k.co = (xs[j]).co
def min4 (m : Nat) : Nat := if m ≤ 4 then m else 4
theorem cap4_min (m : Nat) : cap4 (min4 m) = (min4 (m + 1) : Nat) := by unfold cap4 min4; split <;> split <;> split <;> omega
theorem min4_le (m : Nat) : 0 ≤ (min4 m : Int) ∧ (min4 m : Int) ≤ 4 := by unfold min4; split <;> omega
theorem min4_le' (m : Nat) : min4 m ≤ 4 := by unfold min4; split <;> omega
theorem min4_lem (m : Nat) : min4 m ≤ m := by unfold min4; split <;> omega
theorem good4_start : Good4 (List.replicate 4 default) [] := ⟨rfl, fun r hr => by rw [List.eq_of_mem_replicate hr]; simp [default, Ro.small], fun j hj => by simp at hj⟩
theorem good4_add {ks xs : List Ro} {x r : Ro} (h : Good4 ks xs) (hr : r.co = x.co) (hx : x.small) : Good4 (ks.set ((xs.length + 1) % 4) r) (xs ++ [x]) := by
  obtain ⟨h4, hs, hk⟩ := h
  refine ⟨by rw [List.length_set]; exact h4, fun q hq => ?_, fun j hj hl => ?_⟩
  · rcases List.mem_or_eq_of_mem_set hq with hq | rfl
    · exact hs q hq
    · exact small_co hr hx
  · rw [List.length_append, List.length_singleton] at hj hl
    by_cases hjl : j = xs.length
    · subst hjl
      exact ⟨r, by rw [List.getElem?_set_self (by omega)], by simpa using hr⟩
    · obtain ⟨k, h1, h2⟩ := hk j (by omega) (by omega)
      refine ⟨k, ?_, ?_⟩
      · rw [List.getElem?_set_ne (by omega)]; exact h1
      · rw [h2, List.getElem_append_left (by omega)]
theorem good4_list {ks xs : List Ro} (h : Good4 ks xs) : keptL ks (xs.length - min4 xs.length) (min4 xs.length) = (xs.drop (xs.length - min4 xs.length)).map Ro.co := by
  obtain ⟨h4, hs, hk⟩ := h
  have hm := min4_lem xs.length
  have hm4 : xs.length ≤ (xs.length - min4 xs.length) + 4 := by unfold min4; split <;> omega
  apply List.ext_getElem
  · simp [keptL]; omega
  · intro i h1 h2
    have hi : i < min4 xs.length := by simpa [keptL] using h1
    obtain ⟨k, hk1, hk2⟩ := hk (xs.length - min4 xs.length + i) (by omega) (by omega)
    simp only [keptL, List.getElem_map, List.getElem_range, List.getElem_drop]
    rw [← hk2, List.getD_eq_getElem?_getD, show xs.length - min4 xs.length + 1 + i = xs.length - min4 xs.length + i + 1 by omega, hk1]
    rfl
end Go.ArchP

/-
  A window of the last rounds, and what an archive keeps: plain.
-/
namespace Go.ArchP
open Go Go.RowKit Go.Mem Go.NetP Go.CertP Go.Proofs.Ytfnkmkfkomhhnaa

/-- The archive keeps the rounds ys, whose numbers are D + 1, D + 2 .. -/
structure GoodW (ks ys : List Ro) (D : Nat) : Prop where
  l4 : ks.length = 4
  small : ∀ k ∈ ks, k.small
  le : ys.length ≤ 4
  at_ : ∀ j (hj : j < ys.length), ∃ k, ks[(D + j + 1) % 4]? = some k ∧ k.co = (ys[j]).co ∧ (ys[j]).no = ((D + j + 1 : Nat) : Int)
theorem goodW_start : GoodW (List.replicate 4 default) [] 0 := ⟨rfl, fun r hr => by rw [List.eq_of_mem_replicate hr]; simp [default, Ro.small], by simp, fun j hj => by simp at hj⟩
theorem goodW_add {ks ys : List Ro} {D : Nat} {x r : Ro} (h : GoodW ks ys D) (hn : ys.length < 4) (hr : r.co = x.co) (hx : x.small) (hno : x.no = ((D + ys.length + 1 : Nat) : Int)) : GoodW (ks.set ((D + ys.length + 1) % 4) r) (ys ++ [x]) D := by
  refine ⟨by rw [List.length_set]; exact h.l4, fun q hq => ?_, by rw [List.length_append, List.length_singleton]; omega, fun j hj => ?_⟩
  · rcases List.mem_or_eq_of_mem_set hq with hq | rfl
    · exact h.small q hq
    · exact small_co hr hx
  · rw [List.length_append, List.length_singleton] at hj
    by_cases hjl : j = ys.length
    · subst hjl
      exact ⟨r, by rw [List.getElem?_set_self (by rw [h.l4]; omega)], by simpa using hr, by simpa using hno⟩
    · obtain ⟨k, h1, h2, h3⟩ := h.at_ j (by omega)
      refine ⟨k, ?_, ?_, ?_⟩
      · rw [List.getElem?_set_ne (by omega)]; exact h1
      · rw [h2, List.getElem_append_left (by omega)]
      · rw [List.getElem_append_left (by omega)]; exact h3
theorem goodW_shift {ks ys : List Ro} {D : Nat} {x r : Ro} (h : GoodW ks ys D) (hn : ys.length = 4) (hr : r.co = x.co) (hx : x.small) (hno : x.no = ((D + ys.length + 1 : Nat) : Int)) : GoodW (ks.set ((D + ys.length + 1) % 4) r) ((ys ++ [x]).drop 1) (D + 1) := by
  refine ⟨by rw [List.length_set]; exact h.l4, fun q hq => ?_, by simp; omega, fun j hj => ?_⟩
  · rcases List.mem_or_eq_of_mem_set hq with hq | rfl
    · exact h.small q hq
    · exact small_co hr hx
  · have hj4 : j < 4 := by simp at hj; omega
    simp only [List.getElem_drop]
    by_cases hj3 : j = 3
    · subst hj3
      refine ⟨r, ?_, ?_, ?_⟩
      · rw [hn, show D + 1 + 3 + 1 = D + 4 + 1 by omega, List.getElem?_set_self (by rw [h.l4]; omega)]
      · rw [List.getElem_append_right (by omega)]; simpa using hr
      · rw [List.getElem_append_right (by omega)]; simp only [List.getElem_singleton]; rw [hno, hn]
    · obtain ⟨k, h1, h2, h3⟩ := h.at_ (1 + j) (by omega)
      refine ⟨k, ?_, ?_, ?_⟩
      · rw [List.getElem?_set_ne (by omega), show D + 1 + j + 1 = D + (1 + j) + 1 by omega]; exact h1
      · rw [h2, List.getElem_append_left (by omega)]
      · rw [List.getElem_append_left (by omega), h3]; omega
theorem goodW_list {ks ys : List Ro} {D : Nat} (h : GoodW ks ys D) : keptL ks D ys.length = ys.map Ro.co := by
  apply List.ext_getElem
  · simp [keptL]
  · intro i h1 h2
    have hi : i < ys.length := by simpa [keptL] using h1
    obtain ⟨k, hk1, hk2, _⟩ := h.at_ i hi
    simp only [keptL, List.getElem_map, List.getElem_range]
    rw [← hk2, List.getD_eq_getElem?_getD, show D + 1 + i = D + i + 1 by omega, hk1]
    rfl
/-- The same, ahead of the cut to four. -/
def Good5 (ks zs : List Ro) (D : Nat) : Prop := zs.length ≤ 5 ∧ GoodW ks (zs.drop (zs.length - 4)) (D + (zs.length - 4))
theorem good5_of {ks ys : List Ro} {D : Nat} (h : GoodW ks ys D) : Good5 ks ys D := by
  have := h.le
  refine ⟨by omega, ?_⟩
  rw [show ys.length - 4 = 0 by omega]
  exact h
theorem good5_add {ks ys : List Ro} {D : Nat} {x r : Ro} (h : GoodW ks ys D) (hr : r.co = x.co) (hx : x.small) (hno : x.no = ((D + ys.length + 1 : Nat) : Int)) : Good5 (ks.set ((D + ys.length + 1) % 4) r) (ys ++ [x]) D := by
  have := h.le
  refine ⟨by rw [List.length_append, List.length_singleton]; omega, ?_⟩
  by_cases hn : ys.length = 4
  · have := goodW_shift h hn hr hx hno
    rw [show (ys ++ [x]).length - 4 = 1 by rw [List.length_append, List.length_singleton]; omega]
    exact this
  · have := goodW_add h (by omega) hr hx hno
    rw [show (ys ++ [x]).length - 4 = 0 by rw [List.length_append, List.length_singleton]; omega]
    exact this
end Go.ArchP
