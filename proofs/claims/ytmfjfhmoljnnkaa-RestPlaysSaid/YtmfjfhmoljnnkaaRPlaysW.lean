/-
  The law RestPlays, walked.
-/
import Derived.Test.YtmfjfhmoljnnkaaRW6
namespace Go.Proofs.Ytmfjfhmoljnnkaa
open Go Go.RowKit Go.Mem Go.NetP Go.RestP

set_option maxRecDepth 100000 in
set_option maxHeartbeats 4000000 in
theorem restPlays_any (n : Int) (a : Option Addr) (c : Nat) (es : List Ed) (v : Value) (fl : List Int) (arc by_ : Int) (w : World) (h : RdG edR w (.slice a es.length c) es) (h' : Rd .i64 w v fl) :
    Calls Try.prog 3 #[.agg #[.int .i64 n, .slice a es.length c], v, .int .i64 arc, .int .i64 by_] w fun e w' => e = .returned (.bool true) ∧ Below w.heap.size w w' := by
  have hle := h.le
  unfold maxLen at hle
  obtain ⟨a', c', rfl⟩ := h'.shape
  have hs0 := (Sep.start w).newCells #[.int .i64 n, .slice a es.length c] 24
  by_cases hv : 2000 < es.length ∨ 2000 < fl.length
  · have HV := Lib.hid (show (decide (2000 < es.length) || decide (2000 < fl.length)) = true by simpa using hv)
    clear hv
    go_enter Try.func3, Try.ntmps3
    go_wp2_with fail
    refine (vast_any n a c es a' fl.length c' _ hle).mono ?_
    rintro en w1 ⟨rfl, hb⟩
    rw [HV.out]
    have hs := hs0.belowStep hb
    clear hs0 hb
    go_wp2_with fail
    refine (works_any _).mono ?_
    rintro en w2 ⟨rfl, hb⟩
    go_wp2_with fail
    go_ret
    exact ⟨rfl, (hs.belowStep hb).below⟩
  · have HV := Lib.hid (show (decide (2000 < es.length) || decide (2000 < fl.length)) = false by simp; omega)
    have hee : es.length ≤ 2000 := by omega
    have he : es.length ≤ 100000 := by omega
    have hf : fl.length ≤ 2000 := by omega
    clear hv
    go_enter Try.func3, Try.ntmps3
    go_wp2_with fail
    refine (vast_any n a c es a' fl.length c' _ hle).mono ?_
    rintro en w1 ⟨rfl, hb⟩
    rw [HV.out]
    have hs1 := hs0.belowStep hb
    clear hs0 hb
    have n0 := cell_of (hs1.cells 0 rfl) 0
    have n1 := cell_of (hs1.cells 0 rfl) 1
    simp only [List.getElem?_toArray, List.getElem?_cons_zero, List.getElem?_cons_succ] at n0 n1
    go_wp2_with fail
    refine (copy_any n a c es _ (hs1.rdG h) (by omega)).mono ?_
    rintro en w2 ⟨am, cm, rfl, hs2'⟩
    have hs2 := (hs1.join hs2').newCells #[.int .i64 n, .slice am es.length cm] 24
    clear hs1 hs2' n0 n1
    go_wp2_with fail
    refine (copied_any _ fl _ (hs2.rd h') (by omega)).mono ?_
    rintro en w3 ⟨u, rfl, hs3'⟩
    have hs3 := hs2.join hs3'
    clear hs2 hs3'
    simp only [List.cons_append, List.nil_append] at hs3
    obtain ⟨al, cl, rfl⟩ := (hs3.rdInts 0 rfl).shape
    have gl := hs3.rdInts 0 rfl
    have gm := hs3.rdRecs 2 rfl
    have gn := hs3.rdG h
    have gf := hs3.rd h'
    have N0 := lt_of (hs3.cells 3 rfl)
    have N1 := lt_of (hs3.cells 1 rfl)
    have HB := Lib.hid hs3.below
    have n0 := cell_of (hs3.cells 3 rfl) 0
    have n1 := cell_of (hs3.cells 3 rfl) 1
    have m0 := cell_of (hs3.cells 1 rfl) 0
    have m1 := cell_of (hs3.cells 1 rfl) 1
    simp only [List.getElem?_toArray, List.getElem?_cons_zero, List.getElem?_cons_succ] at n0 n1 m0 m1
    have FIN := Lib.hid (fun (W : World) (L : List Thing) (h : Sep w3 W L) =>
      (⟨(h.cell N0).trans n0, (h.cell N0).trans n1, (h.cell N1).trans m0, (h.cell N1).trans m1⟩ : W.cell? ⟨w.heap.size, 0, none⟩ = some (.int .i64 n) ∧ W.cell? ⟨w.heap.size, 1, none⟩ = some (.slice a es.length c) ∧ W.cell? ⟨w2.heap.size, 0, none⟩ = some (.int .i64 n) ∧ W.cell? ⟨w2.heap.size, 1, none⟩ = some (.slice am es.length cm)))
    have hs := Sep.start w3
    clear hs3 N0 N1 h h'
    obtain ⟨M, hM⟩ : ∃ M : Nat, (es.length ≤ 60 ∧ M = es.length) ∨ (60 < es.length ∧ M = 60) := by
      by_cases h60 : es.length ≤ 60
      · exact ⟨_, .inl ⟨h60, rfl⟩⟩
      · exact ⟨_, .inr ⟨by omega, rfl⟩⟩
    have hM60 : M ≤ 60 := by omega
    have HM := Lib.hid hM
    clear hM
    go_wp2_with fail
    refine wp_loopM [none, none, none, none, none, none, none, none, some 8, none, none, some 11, some 12, some 13, some 14, some 15, some 16, some 17, some 18, none, none, none, none, none, none, none, none, none, none, none, none, none, some 32, some 33, some 34, some 35, some 36, some 37, some 38, some 39, some 40, some 41, some 42, some 43, some 44, some 45, some 46, some 47, some 48, some 49, some 50, some 51, some 52, some 53, some 54, some 55, some 56, some 57, some 58, some 59, some 60, some 61, some 62, some 63, some 64, some 65, some 66, some 67, some 68, some 69, some 70, some 71, some 72, some 73, some 74, some 75, some 76, some 77, some 78, some 79, some 80, some 81, some 82, none, none, none, none, none, none, none, none, none, none, none, none, none, none, none, none, none, none, none, none, none, none, none, none, none, none, none, none, none, none, none, none, none, none, none, none, none, none, none, none, none, none, none, none, none, none, none, none, none, none] (fun (r : Nat) (f : Nat → Value) (wr : World) => (fun (v : Value) => ∃ I : Int, v = .int .i64 I ∧ -1 ≤ I ∧ I ≤ 2 * M + 1 ∧ r = (2 * (M : Int) + 1 - I).toNat ∧ Sep w3 wr []) (f 11)) (2 * M + 2) (by kernel_rfl) ?atStart1 ?round1
    case' atStart1 => (try dsimp only [nthV])
    case' round1 =>
      intro gk f wr l hl hrel J1 K1 hJ1 hK1
      (try simp only [mask] at hl)
      generalize f 11 = u11 at hl hrel
      subst hl
      (try dsimp only at hrel)
    case atStart1 => exact ⟨-1, rfl, by omega, by omega, by omega, hs⟩
    case round1 =>
      clear hs
      (try clear n0 n1); (try clear m0 m1)
      obtain ⟨I, rfl, hI0, hI1, rfl, hs⟩ := hrel
      (try clear hCW); (try clear n0 n1); (try clear m0 m1)
      obtain ⟨n0, n1, m0, m1⟩ := FIN.out _ _ hs
      go_upto_region 6 with fail
      refine wp_cutM [none, none, none, none, none, none, none, none, none, none, none, none, none, none, none, none, none, none, none, none, none, none, none, none, none, none, none, none, none, none, none, none, some 32, some 33, some 34, some 35, some 36, some 37, some 38, none, none, none, none, none, none, none, none, none, none, none, none, none, none, none, none, none, none, none, none, none, none, none, none, none, none, none, none, none, none, none, none, none, none, none, none, none, none, none, none, none, none, none, none, none, none, none, none, none, none, none, none, none, none, none, none, none, none, none, none, none, none, none, none, none, none, none, none, none, none, none, none, none, none, none, none, none, none, none, none, none, none, none, none, none, none, none, none, none, none, none, none, none, none] (fun (f : Nat → Value) (wq : World) => (fun (vt : Value) => vt = .bool (decide (I ≤ 2 * (M : Int))) ∧ wq = wr) (f 38)) ?first2 ?rest2
      case' first2 => intro JC KC hJC hKC
      case' rest2 =>
        intro f wr l hl hrel
        (try simp only [mask] at hl)
        generalize f 38 = u38 at hl hrel
        subst hl
        (try dsimp only at hrel)
      case first2 =>
        have hM := HM.out
        go_wp2_with fail
        all_goals
          refine Meet.intro (by kernel_rfl) (hJC _ _ ?_)
          (try dsimp only [nthV])
          refine ⟨?_, rfl⟩
          congr 1
          simp only [decide_eq_decide]
          omega
      case rest2 =>
        obtain ⟨rfl, rfl⟩ := hrel
        by_cases hlt : I ≤ 2 * (M : Int)
        · rw [decide_eq_true hlt]
          go_upto_if 43 with fail
          refine wp_cutM [none, none, none, none, none, none, none, none, none, none, none, none, some 12, none, none, none, none, none, none, none, none, none, none, none, none, none, none, none, none, none, none, none, none, none, none, none, none, none, none, none, none, none, none, none, some 44, none, none, none, none, none, none, none, none, none, none, none, none, none, none, none, none, none, none, none, none, none, none, none, none, none, none, none, none, none, none, none, none, none, none, none, none, none, none, none, none, none, none, none, none, none, none, none, none, none, none, none, none, none, none, none, none, none, none, none, none, none, none, none, none, none, none, none, none, none, none, none, none, none, none, none, none, none, none, none, none, none, none, none, none, none, none, none, none] (fun (f : Nat → Value) (wq : World) => (fun (vk : Value) => ∃ Ak : Int, vk = .int .i64 Ak ∧ wq = wr) (f 12)) ?first3 ?rest3
          case' first3 => intro JC KC hJC hKC
          case' rest3 =>
            intro f wr l hl hrel
            (try simp only [mask] at hl)
            generalize f 12 = u12 at hl hrel
            subst hl
            (try dsimp only at hrel)
          case first3 =>
            go_wp2_with fail
            all_goals
              refine Meet.intro (by kernel_rfl) (hJC _ _ ?_)
              (try dsimp only [nthV])
              exact ⟨_, rfl, rfl⟩
          case rest3 =>
            obtain ⟨Ak, rfl, rfl⟩ := hrel
            (try clear hCW); (try clear n0 n1); (try clear m0 m1)
            obtain ⟨n0, n1, m0, m1⟩ := FIN.out _ _ hs
            go_wp2_with fail
            refine (endsX_any n am cm es Ak _ (hs.rdG gm) he).mono ?_
            rintro en wx ⟨rfl, hb⟩
            obtain ⟨X0, hX0⟩ : ∃ x, x = (endsV n es Ak).1 := ⟨_, rfl⟩
            obtain ⟨X1, hX1⟩ : ∃ x, x = (endsV n es Ak).2.1 := ⟨_, rfl⟩
            obtain ⟨X2, hX2⟩ : ∃ x, x = (endsV n es Ak).2.2 := ⟨_, rfl⟩
            rw [← hX0, ← hX1, ← hX2]
            have HX := Lib.hid (And.intro hX0 (And.intro hX1 hX2))
            clear hX0 hX1 hX2
            replace hs := hs.belowStep hb
            clear hb
            (try clear hCW); (try clear n0 n1); (try clear m0 m1)
            obtain ⟨n0, n1, m0, m1⟩ := FIN.out _ _ hs
            go_wp2_with fail
            refine (rends_any n a c es Ak _ (hs.rdG gn) he).mono ?_
            rintro en wy ⟨rfl, hb⟩
            rw [← HX.out.1, ← HX.out.2.1, ← HX.out.2.2]
            replace hs := hs.belowStep hb
            clear hb
            (try clear hCW); (try clear n0 n1); (try clear m0 m1)
            obtain ⟨n0, n1, m0, m1⟩ := FIN.out _ _ hs
            have e0 : (X0 != X0) = false := by simp
            have e1 : (X1 != X1) = false := by simp
            have e2 : (X2 != X2) = false := by simp
            go_wp2_with fail
            have hCW := (show (fun W : World => W.cell? ⟨w.heap.size, 0, none⟩ = some (.int .i64 n) ∧ W.cell? ⟨w.heap.size, 1, none⟩ = some (.slice a es.length c)) _ from ⟨n0, n1⟩)
            refine Mix.region [0, 0, 0, 0, 0, 0, 0, 0, 0, 0, 0, 0, 0, 0, 0, 0, 0, 2, 1, 1, 1, 2, 0, 0] (fun W : World => W.cell? ⟨w.heap.size, 0, none⟩ = some (.int .i64 n) ∧ W.cell? ⟨w.heap.size, 1, none⟩ = some (.slice a es.length c)) (by kernel_rfl) (by kernel_rfl) hCW ?_
            simp only [List.zip_cons_cons, List.zip_nil_right]
            iterate 4 (refine Mix.step0 fun K hK => ?_; go_simp; (try (go_bits; try go_simp)); first | ((with_reducible refine hK _ _ ?_); clear hK K) | ((try (simp only [IntWalk.iteOmega]; try go_simp)); (try go_bits); (with_reducible refine hK _ _ ?_); clear hK K))
            iterate 3 (first | (refine Mix.stepS rfl fun K hK => ?_; go_simp; (with_reducible refine hK _ _ ?_); clear hK K) | (refine Mix.step0 fun K hK => ?_; go_simp; (try (go_bits; try go_simp)); first | ((with_reducible refine hK _ _ ?_); clear hK K) | ((try (simp only [IntWalk.iteOmega]; try go_simp)); (try go_bits); (with_reducible refine hK _ _ ?_); clear hK K)))
            iterate 2 (refine Mix.step0 fun K hK => ?_; go_simp; (try (go_bits; try go_simp)); first | ((with_reducible refine hK _ _ ?_); clear hK K) | ((try (simp only [IntWalk.iteOmega]; try go_simp)); (try go_bits); (with_reducible refine hK _ _ ?_); clear hK K))
            iterate 3 (first | (refine Mix.stepS rfl fun K hK => ?_; go_simp; (with_reducible refine hK _ _ ?_); clear hK K) | (refine Mix.step0 fun K hK => ?_; go_simp; (try (go_bits; try go_simp)); first | ((with_reducible refine hK _ _ ?_); clear hK K) | ((try (simp only [IntWalk.iteOmega]; try go_simp)); (try go_bits); (with_reducible refine hK _ _ ?_); clear hK K)))
            iterate 2 (refine Mix.step0 fun K hK => ?_; go_simp; (try (go_bits; try go_simp)); first | ((with_reducible refine hK _ _ ?_); clear hK K) | ((try (simp only [IntWalk.iteOmega]; try go_simp)); (try go_bits); (with_reducible refine hK _ _ ?_); clear hK K))
            iterate 3 (first | (refine Mix.stepS rfl fun K hK => ?_; go_simp; (with_reducible refine hK _ _ ?_); clear hK K) | (refine Mix.step0 fun K hK => ?_; go_simp; (try (go_bits; try go_simp)); first | ((with_reducible refine hK _ _ ?_); clear hK K) | ((try (simp only [IntWalk.iteOmega]; try go_simp)); (try go_bits); (with_reducible refine hK _ _ ?_); clear hK K)))
            refine Mix.step2n (by first | rfl | simp [Region.wanted, yielded]) fun K hK => ?_
            go_wp2_with fail
            replace hs := hs.drew
            refine (roomX_any n am cm es _ fl Ak _ (hs.rdG gm) (hs.rd gl) he).mono ?_
            rintro en wz ⟨rfl, hb⟩
            obtain ⟨R, hR⟩ : ∃ x, x = roomV n es fl Ak := ⟨_, rfl⟩
            rw [← hR]
            have HR := Lib.hid hR
            clear hR
            have e3 : (R != R) = false := by simp
            replace hs := hs.belowStep hb
            clear hb
            (try clear hCW); (try clear n0 n1); (try clear m0 m1)
            obtain ⟨n0, n1, m0, m1⟩ := FIN.out _ _ hs
            have hCW := (show (fun W : World => W.cell? ⟨w.heap.size, 0, none⟩ = some (.int .i64 n) ∧ W.cell? ⟨w.heap.size, 1, none⟩ = some (.slice a es.length c)) _ from ⟨n0, n1⟩)
            go_wp2_with fail
            refine Mix.post_mk (C := (fun W : World => W.cell? ⟨w.heap.size, 0, none⟩ = some (.int .i64 n) ∧ W.cell? ⟨w.heap.size, 1, none⟩ = some (.slice a es.length c))) (by first | exact hCW | exact HCW.out _) (hK _ _ ?_)
            clear hK K
            (refine Mix.step1 fun K hK => ?_; go_simp; refine ⟨fun W => ?_, hK _ _ ?_⟩; (intro hW1; (try intro hW2); (try intro hW3); (try intro hW4); (try intro hW5); (try intro hW6); (try intro hW7); (try intro hW8); go_simp); clear hK K)
            (refine Mix.step1 fun K hK => ?_; go_simp; (try (go_bits; try go_simp)); first | ((with_reducible refine hK _ _ ?_); clear hK K) | ((try (simp only [IntWalk.iteOmega]; try go_simp)); (try go_bits); (with_reducible refine hK _ _ ?_); clear hK K))
            (refine Mix.step1 fun K hK => ?_; go_simp; (try (go_bits; try go_simp)); first | ((with_reducible refine hK _ _ ?_); clear hK K) | ((try (simp only [IntWalk.iteOmega]; try go_simp)); (try go_bits); (with_reducible refine hK _ _ ?_); clear hK K))
            refine Mix.step2n (by first | rfl | simp [Region.wanted, yielded]) fun K hK => ?_
            go_wp2_with fail
            refine (rroom_any n a c es _ fl Ak _ (hs.rdG gn) (hs.rd gf) he).mono ?_
            rintro en wv ⟨rfl, hb⟩
            rw [← HR.out]
            replace hs := hs.belowStep hb
            clear hb
            (try clear hCW); (try clear n0 n1); (try clear m0 m1)
            obtain ⟨n0, n1, m0, m1⟩ := FIN.out _ _ hs
            have hCW := (show (fun W : World => W.cell? ⟨w.heap.size, 0, none⟩ = some (.int .i64 n) ∧ W.cell? ⟨w.heap.size, 1, none⟩ = some (.slice a es.length c)) _ from ⟨n0, n1⟩)
            go_wp2_with fail
            refine Mix.post_mk (C := (fun W : World => W.cell? ⟨w.heap.size, 0, none⟩ = some (.int .i64 n) ∧ W.cell? ⟨w.heap.size, 1, none⟩ = some (.slice a es.length c))) (by first | exact hCW | exact HCW.out _) (hK _ _ ?_)
            clear hK K
            iterate 1 (first | (refine Mix.stepS rfl fun K hK => ?_; go_simp; (with_reducible refine hK _ _ ?_); clear hK K) | (refine Mix.step0 fun K hK => ?_; go_simp; (try (go_bits; try go_simp)); first | ((with_reducible refine hK _ _ ?_); clear hK K) | ((try (simp only [IntWalk.iteOmega]; try go_simp)); (try go_bits); (with_reducible refine hK _ _ ?_); clear hK K)))
            iterate 1 (refine Mix.step0 fun K hK => ?_; go_simp; (try (go_bits; try go_simp)); first | ((with_reducible refine hK _ _ ?_); clear hK K) | ((try (simp only [IntWalk.iteOmega]; try go_simp)); (try go_bits); (with_reducible refine hK _ _ ?_); clear hK K))
            refine Mix.done ?_
            clear hCW
            go_wp2_with fail
            refine Round.intro ((2 * (M : Int) + 1 - (I + 1)).toNat) ?measure4 (by kernel_rfl) (hJ1 _ _ _ ?rel4)
            case' rel4 => (try dsimp only [nthV])
            case measure4 => omega
            case rel4 => exact ⟨I + 1, by go_num, by omega, by omega, rfl, hs⟩
        · rw [decide_eq_false hlt]
          go_wp2_with fail
          refine (pushX_any n am cm es _ fl arc by_ _ (hs.rdG gm) (hs.rd gl) he).mono ?_
          rintro en wx ⟨u1, rfl, k1⟩
          obtain ⟨E, hE⟩ : ∃ E, E = pushE n es fl arc by_ := ⟨_, rfl⟩
          obtain ⟨V, hV⟩ : ∃ V, V = pushV n es fl arc by_ := ⟨_, rfl⟩
          rw [← hE]
          rw [← hV] at k1
          have HE := Lib.hid hE
          have HVV := Lib.hid hV
          clear hE hV
          replace hs := hs.join k1
          clear k1
          simp only [List.cons_append, List.nil_append] at hs
          (try clear hCW); (try clear n0 n1); (try clear m0 m1)
          obtain ⟨n0, n1, m0, m1⟩ := FIN.out _ _ hs
          go_wp2_with fail
          refine (rpush_any n a c es _ fl arc by_ _ (hs.rdG gn) (hs.rd gf) he).mono ?_
          rintro en wy ⟨u2, rfl, k2⟩
          rw [← HE.out]
          rw [← HVV.out] at k2
          replace hs := hs.join k2
          clear k2
          simp only [List.cons_append, List.nil_append] at hs
          (try clear hCW); (try clear n0 n1); (try clear m0 m1)
          obtain ⟨n0, n1, m0, m1⟩ := FIN.out _ _ hs
          have e0 : (E != E) = false := by simp
          go_wp2_with fail
          refine (rsame_any _ _ V V _ (hs.rdInts 1 rfl) (hs.rdInts 0 rfl)).mono ?_
          rintro en wz ⟨rfl, k3⟩
          rw [show decide (V = V) = true by simp]
          replace hs := hs.join k3
          clear k3
          simp only [List.cons_append, List.nil_append] at hs
          (try clear hCW); (try clear n0 n1); (try clear m0 m1)
          obtain ⟨n0, n1, m0, m1⟩ := FIN.out _ _ hs
          replace hs := hs.tail
          obtain ⟨ap, cp, rfl⟩ := (hs.rdInts 0 rfl).shape
          obtain ⟨l, hl⟩ : ∃ l, l = V.length := ⟨_, rfl⟩
          have hvl := (hs.rdInts 0 rfl).le'
          unfold maxLen at hvl
          rw [← hl] at hs ⊢ hvl
          go_wp2_with fail
          refine wp_loopM [none, none, none, none, none, none, none, none, none, none, none, none, none, none, none, none, none, none, none, none, none, none, none, some 23, none, none, none, none, none, none, none, none, none, none, none, none, none, none, none, none, none, none, none, none, none, none, none, none, none, none, none, none, none, none, none, none, none, none, none, none, none, none, none, none, none, none, none, none, none, none, none, none, none, none, none, none, none, none, none, none, none, none, none, none, none, none, none, none, none, none, none, none, none, none, none, none, none, none, none, none, none, none, none, none, none, none, none, none, some 108, some 109, some 110, some 111, some 112, some 113, some 114, some 115, some 116, some 117, some 118, some 119, some 120, some 121, none, none, none, none, none, none, none, none, none, none, none] (fun (r : Nat) (f : Nat → Value) (wr : World) => (fun (v : Value) => ∃ (i : Nat) (xs : List Int), v = .int .i64 i ∧ i ≤ l ∧ r = l - i ∧ xs.length = l ∧ Sep w3 wr [intsT .i64 2 (.slice ap l cp) xs]) (f 23)) (l) (by kernel_rfl) ?atStart5 ?round5
          case' atStart5 => (try dsimp only [nthV])
          case' round5 =>
            intro gk f wr l hl hrel J2 K2 hJ2 hK2
            (try simp only [mask] at hl)
            generalize f 23 = u23 at hl hrel
            subst hl
            (try dsimp only at hrel)
          case atStart5 => exact ⟨0, V, rfl, Nat.zero_le _, rfl, hl.symm, hs⟩
          case round5 =>
            clear hs
            (try clear n0 n1); (try clear m0 m1)
            obtain ⟨i, xs, rfl, hi, rfl, hxl, hs⟩ := hrel
            by_cases hlt2 : i < l
            · obtain ⟨g, cg, eg, hg, hcR, hfr⟩ := (hs.ints 0 rfl).get i (by omega)
              rw [hxl] at eg
              injection eg with eg1 eg2 eg3
              clear eg2 eg3
              subst eg1
              have r0 := hcR i (by omega)
              clear hcR
              have HT := Lib.hid (fun q : Int => hs.setInts (j := i) 0 rfl q)
              have HXL := Lib.hid hxl
              clear hs hxl
              go_wp2_with fail
              refine Round.intro (l - (i + 1)) ?measure6 (by kernel_rfl) (hJ2 _ _ _ ?rel6)
              case' rel6 => (try dsimp only [nthV])
              case measure6 => omega
              case rel6 => exact ⟨i + 1, _, by go_num, hlt2, rfl, by rw [List.length_set]; exact HXL.out, HT.out _⟩
            · obtain rfl : i = l := by omega
              (try clear hCW); (try clear n0 n1); (try clear m0 m1)
              obtain ⟨n0, n1, m0, m1⟩ := FIN.out _ _ hs
              go_wp2_with fail
              refine (rsame_any _ _ fl fl _ (hs.rd gl) (hs.rd gf)).mono ?_
              rintro en wx2 ⟨rfl, k7⟩
              rw [show decide (fl = fl) = true by simp]
              replace hs := hs.join k7
              clear k7
              simp only [List.cons_append, List.nil_append] at hs
              (try clear hCW); (try clear n0 n1); (try clear m0 m1)
              obtain ⟨n0, n1, m0, m1⟩ := FIN.out _ _ hs
              go_wp2_with fail
              refine (sameNet_same n _ _ _ _ es _ (hs.rdG gm) (hs.rdG gn)).mono ?_
              rintro en wy2 ⟨rfl, hb⟩
              replace hs := hs.belowStep hb
              clear hb
              (try clear hCW); (try clear n0 n1); (try clear m0 m1)
              obtain ⟨n0, n1, m0, m1⟩ := FIN.out _ _ hs
              go_wp2_with fail
              refine (works_any _).mono ?_
              rintro en wz2 ⟨rfl, hb⟩
              replace hs := hs.belowStep hb
              clear hb
              (try clear hCW); (try clear n0 n1); (try clear m0 m1)
              obtain ⟨n0, n1, m0, m1⟩ := FIN.out _ _ hs
              have HZ := Lib.hid (HB.out.trans (hs.below.mono HB.out.size))
              clear hs n0 n1 m0 m1
              go_wp2_with fail
              go_ret
              exact ⟨rfl, HZ.out⟩
end Go.Proofs.Ytmfjfhmoljnnkaa
