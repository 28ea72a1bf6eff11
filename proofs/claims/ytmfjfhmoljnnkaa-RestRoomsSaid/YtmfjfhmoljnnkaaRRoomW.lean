/-
  The law RestRooms, walked.
-/
import Derived.Test.YtmfjfhmoljnnkaaRW6
import Derived.Test.YtmfjfhmoljnnkaaRPlain4
namespace Go.Proofs.Ytmfjfhmoljnnkaa
open Go Go.RowKit Go.Mem Go.NetP Go.RestP

theorem lt_cell {W : World} {b o : Nat} {v : Value} (h : W.cell? ⟨b, o, none⟩ = some v) : b < W.heap.size := by
  rcases Nat.lt_or_ge b W.heap.size with q | q
  · exact q
  · exfalso
    simp [World.cell?, Array.getElem?_eq_none q] at h
set_option maxRecDepth 100000 in
set_option maxHeartbeats 4000000 in
theorem restRooms_any (n : Int) (a : Option Addr) (c : Nat) (es : List Ed) (v : Value) (fl : List Int) (y : Int) (w : World) (h : RdG edR w (.slice a es.length c) es) (h' : Rd .i64 w v fl) (hy : (Lit.int .u8 y).wf = true) :
    Calls Try.prog 7 #[.agg #[.int .i64 n, .slice a es.length c], v, .int .u8 y] w fun e w' => e = .returned (.bool true) ∧ Below w.heap.size w w' := by
  have hle := h.le
  unfold maxLen at hle
  simp [Lit.wf, IntKind.min, IntKind.max, IntKind.signed, IntKind.bits] at hy
  obtain ⟨hy0, hy1⟩ := hy
  obtain ⟨a', c', rfl⟩ := h'.shape
  have hs0 := (Sep.start w).newCells #[.int .i64 n, .slice a es.length c] 24
  by_cases hv : 2000 < es.length ∨ 2000 < fl.length
  · have HV := Lib.hid (show (decide (2000 < es.length) || decide (2000 < fl.length)) = true by simpa using hv)
    clear hv
    go_enter Try.func7, Try.ntmps7
    go_wp2_with fail
    refine (vast_any n a c es a' fl.length c' _ hle).mono ?_
    rintro en w1 ⟨rfl, hb⟩
    rw [HV.out]
    replace hs0 := hs0.belowStep hb
    clear hb
    have m0 := cell_of (hs0.cells 0 rfl) 0
    have m1 := cell_of (hs0.cells 0 rfl) 1
    simp only [List.getElem?_toArray, List.getElem?_cons_zero, List.getElem?_cons_succ] at m0 m1
    have N0 := lt_of (hs0.cells 0 rfl)
    replace h := hs0.rdG h
    replace h' := hs0.rd h'
    have FIN := Lib.hid (fun W L (k : Sep w1 W L) => (⟨(k.cell N0).trans m0, (k.cell N0).trans m1⟩ : W.cell? ⟨w.heap.size, 0, none⟩ = some (.int .i64 n) ∧ W.cell? ⟨w.heap.size, 1, none⟩ = some (.slice a es.length c)))
    have HB := Lib.hid (⟨hs0.below, hs0.size⟩ : Below w.heap.size w w1 ∧ w.heap.size ≤ w1.heap.size)
    have hs := Sep.start w1
    clear m0 m1 N0
    (try clear hCW); (try clear n0 n1)
    obtain ⟨n0, n1⟩ := FIN.out _ _ hs
    go_wp2_with fail
    refine (works_any _).mono ?_
    rintro en wz ⟨rfl, hb⟩
    go_wp2_with fail
    go_ret
    exact ⟨rfl, HB.out.1.trans ((hs.belowStep hb).below.mono HB.out.2)⟩
  · have HV := Lib.hid (show (decide (2000 < es.length) || decide (2000 < fl.length)) = false by simp; omega)
    have hfl : fl.length ≤ 2000 := by omega
    have he : es.length ≤ 100000 := by omega
    clear hv
    cases hw : withinB n es fl
    · have HW := Lib.hid hw
      clear hw
      go_enter Try.func7, Try.ntmps7
      go_wp2_with fail
      refine (vast_any n a c es a' fl.length c' _ hle).mono ?_
      rintro en w1 ⟨rfl, hb⟩
      rw [HV.out]
      replace hs0 := hs0.belowStep hb
      clear hb
      have m0 := cell_of (hs0.cells 0 rfl) 0
      have m1 := cell_of (hs0.cells 0 rfl) 1
      simp only [List.getElem?_toArray, List.getElem?_cons_zero, List.getElem?_cons_succ] at m0 m1
      have N0 := lt_of (hs0.cells 0 rfl)
      replace h := hs0.rdG h
      replace h' := hs0.rd h'
      have FIN := Lib.hid (fun W L (k : Sep w1 W L) => (⟨(k.cell N0).trans m0, (k.cell N0).trans m1⟩ : W.cell? ⟨w.heap.size, 0, none⟩ = some (.int .i64 n) ∧ W.cell? ⟨w.heap.size, 1, none⟩ = some (.slice a es.length c)))
      have HB := Lib.hid (⟨hs0.below, hs0.size⟩ : Below w.heap.size w w1 ∧ w.heap.size ≤ w1.heap.size)
      have hs := Sep.start w1
      clear m0 m1 N0
      (try clear hCW); (try clear n0 n1)
      obtain ⟨n0, n1⟩ := FIN.out _ _ hs
      clear hs0
      go_wp2_with fail
      refine (within_any n a c es _ fl _ (hs.rdG h) (hs.rd h')).mono ?_
      rintro en w2 ⟨rfl, hb⟩
      rw [HW.out]
      replace hs := hs.belowStep hb
      clear hb
      (try clear hCW); (try clear n0 n1)
      obtain ⟨n0, n1⟩ := FIN.out _ _ hs
      go_wp2_with fail
      refine (works_any _).mono ?_
      rintro en wz ⟨rfl, hb⟩
      go_wp2_with fail
      go_ret
      exact ⟨rfl, HB.out.1.trans ((hs.belowStep hb).below.mono HB.out.2)⟩
    · have HW := Lib.hid hw
      clear hw
      by_cases hz : es = []
      · have d0 : ((es.length : Int) == 0) = true := by simp [hz]
        clear hz
        go_enter Try.func7, Try.ntmps7
        go_wp2_with fail
        refine (vast_any n a c es a' fl.length c' _ hle).mono ?_
        rintro en w1 ⟨rfl, hb⟩
        rw [HV.out]
        replace hs0 := hs0.belowStep hb
        clear hb
        have m0 := cell_of (hs0.cells 0 rfl) 0
        have m1 := cell_of (hs0.cells 0 rfl) 1
        simp only [List.getElem?_toArray, List.getElem?_cons_zero, List.getElem?_cons_succ] at m0 m1
        have N0 := lt_of (hs0.cells 0 rfl)
        replace h := hs0.rdG h
        replace h' := hs0.rd h'
        have FIN := Lib.hid (fun W L (k : Sep w1 W L) => (⟨(k.cell N0).trans m0, (k.cell N0).trans m1⟩ : W.cell? ⟨w.heap.size, 0, none⟩ = some (.int .i64 n) ∧ W.cell? ⟨w.heap.size, 1, none⟩ = some (.slice a es.length c)))
        have HB := Lib.hid (⟨hs0.below, hs0.size⟩ : Below w.heap.size w w1 ∧ w.heap.size ≤ w1.heap.size)
        have hs := Sep.start w1
        clear m0 m1 N0
        (try clear hCW); (try clear n0 n1)
        obtain ⟨n0, n1⟩ := FIN.out _ _ hs
        clear hs0
        go_wp2_with fail
        refine (within_any n a c es _ fl _ (hs.rdG h) (hs.rd h')).mono ?_
        rintro en w2 ⟨rfl, hb⟩
        rw [HW.out]
        replace hs := hs.belowStep hb
        clear hb
        (try clear hCW); (try clear n0 n1)
        obtain ⟨n0, n1⟩ := FIN.out _ _ hs
        go_wp2_with fail
        refine (works_any _).mono ?_
        rintro en wz ⟨rfl, hb⟩
        go_wp2_with fail
        go_ret
        exact ⟨rfl, HB.out.1.trans ((hs.belowStep hb).below.mono HB.out.2)⟩
      · have hpos : 0 < es.length := List.length_pos_iff.2 hz
        obtain ⟨i, hi⟩ : ∃ i : Nat, y % (es.length : Int) = i := ⟨(y % (es.length : Int)).toNat, by have := Int.emod_nonneg y (b := (es.length : Int)) (by omega); omega⟩
        have hil : i < es.length := by have := Int.emod_lt_of_pos y (b := (es.length : Int)) (by omega); omega
        have hnz : ¬ (es.length : Int) = 0 := by omega
        obtain ⟨b1, o1, e1, hb1, hc1⟩ := h.at i hil
        subst e1
        have x0 := hc1 0 (by decide)
        have x1 := hc1 1 (by decide)
        have x2 := hc1 2 (by decide)
        have x3 := hc1 3 (by decide)
        simp only [edR, Nat.add_zero, List.getElem?_toArray, List.getElem?_cons_zero, List.getElem?_cons_succ] at x0 x1 x2 x3
        have hEE := ends_even HW.out hil
        have hbnd := (edgeB_iff _ _).1 ((right_cap (within_cap HW.out).2.1).2.2.2.2 _ (List.getElem_mem hil))
        have HQQ := Lib.hid (fun (A : Nat) (hA : A / 2 = i) => (show roomE es fl A + roomE es fl (Mem.flip A) = es[i].c by rw [room_both, hA, edAt_of hil]))
        obtain ⟨F, hF⟩ : ∃ x, x = es[i].f := ⟨_, rfl⟩
        obtain ⟨T, hT⟩ : ∃ x, x = es[i].t := ⟨_, rfl⟩
        obtain ⟨Q, hQ⟩ : ∃ x, x = es[i].c := ⟨_, rfl⟩
        obtain ⟨K, hK⟩ : ∃ x, x = es[i].k := ⟨_, rfl⟩
        rw [← hF] at x0 hEE hbnd
        rw [← hT] at x1 hEE hbnd
        rw [← hQ] at x2 HQQ hbnd
        rw [← hK] at x3 hEE hbnd
        obtain ⟨_, _, hq0, hq1, hk0, hk1⟩ := hbnd
        have HE := Lib.hid hEE
        clear hc1 hF hT hQ hK hEE
        have f0 : (T != T) = false := by simp
        have f1 : (F != F) = false := by simp
        have f2 : (-K != -K) = false := by simp
        have f3 : (K != K) = false := by simp
        have f4 : (Q != Q) = false := by simp
        go_enter Try.func7, Try.ntmps7
        go_wp2_with fail
        refine (vast_any n (some ⟨b1, o1, none⟩) c es a' fl.length c' _ hle).mono ?_
        rintro en w1 ⟨rfl, hb⟩
        rw [HV.out]
        replace hs0 := hs0.belowStep hb
        clear hb
        have m0 := cell_of (hs0.cells 0 rfl) 0
        have m1 := cell_of (hs0.cells 0 rfl) 1
        simp only [List.getElem?_toArray, List.getElem?_cons_zero, List.getElem?_cons_succ] at m0 m1
        have N0 := lt_of (hs0.cells 0 rfl)
        replace h := hs0.rdG h
        replace h' := hs0.rd h'
        have FIN := Lib.hid (fun W L (k : Sep w1 W L) => (⟨(k.cell N0).trans m0, (k.cell N0).trans m1⟩ : W.cell? ⟨w.heap.size, 0, none⟩ = some (.int .i64 n) ∧ W.cell? ⟨w.heap.size, 1, none⟩ = some (.slice (some ⟨b1, o1, none⟩) es.length c)))
        have HB := Lib.hid (⟨hs0.below, hs0.size⟩ : Below w.heap.size w w1 ∧ w.heap.size ≤ w1.heap.size)
        have hs := Sep.start w1
        clear m0 m1 N0
        (try clear hCW); (try clear n0 n1)
        obtain ⟨n0, n1⟩ := FIN.out _ _ hs
        have hb1' := Nat.lt_of_lt_of_le hb1 HB.out.2
        replace x0 := (hs0.cell hb1).trans x0
        replace x1 := (hs0.cell hb1).trans x1
        replace x2 := (hs0.cell hb1).trans x2
        replace x3 := (hs0.cell hb1).trans x3
        clear hs0
        go_wp2_with fail
        refine (within_any n _ c es _ fl _ (hs.rdG h) (hs.rd h')).mono ?_
        rintro en w2 ⟨rfl, hb⟩
        rw [HW.out]
        replace hs := hs.belowStep hb
        clear hb
        (try clear hCW); (try clear n0 n1)
        obtain ⟨n0, n1⟩ := FIN.out _ _ hs
        replace x0 := (hs.cell hb1').trans x0
        replace x1 := (hs.cell hb1').trans x1
        replace x2 := (hs.cell hb1').trans x2
        replace x3 := (hs.cell hb1').trans x3
        obtain ⟨eb, heb⟩ : ∃ b, b = w2.heap.size := ⟨_, rfl⟩
        replace hs := hs.newCells #[.int .i64 F, .int .i64 T, .int .i64 Q, .int .i64 K] 44
        rw [← heb] at hs
        have HEB := Lib.hid heb
        clear heb
        go_upto_region 5 with fail
        rw [← HEB.out]
        generalize (World.alloc w2 _) = W3 at hs ⊢
        rw [hi]
        clear hi hy0 hy1 hnz n0 n1 x0 x1 x2 x3
        have m0 := FIN.out _ _ hs
        have me := cell_of (hs.cells 0 rfl)
        have m2 := me 0
        have m3 := me 1
        have m4 := me 2
        have m5 := me 3
        simp only [List.getElem?_toArray, List.getElem?_cons_zero, List.getElem?_cons_succ] at m2 m3 m4 m5
        have N0 := Nat.lt_of_lt_of_le (lt_cell m0.1) (Nat.le_refl _)
        have N1 := lt_of (hs.cells 0 rfl)
        have FE := Lib.hid (fun W L (k : Sep W3 W L) => (⟨(k.cell N0).trans m0.1, (k.cell N0).trans m0.2, (k.cell N1).trans m4⟩ : W.cell? ⟨w.heap.size, 0, none⟩ = some (.int .i64 n) ∧ W.cell? ⟨w.heap.size, 1, none⟩ = some (.slice (some ⟨b1, o1, none⟩) es.length c) ∧ W.cell? ⟨eb, 2, none⟩ = some (.int .i64 Q)))
        have FX := Lib.hid (fun W L (k : Sep W3 W L) => (⟨(k.cell N1).trans m2, (k.cell N1).trans m3, (k.cell N1).trans m5⟩ : W.cell? ⟨eb, 0, none⟩ = some (.int .i64 F) ∧ W.cell? ⟨eb, 1, none⟩ = some (.int .i64 T) ∧ W.cell? ⟨eb, 3, none⟩ = some (.int .i64 K)))
        replace h := hs.rdG h
        replace h' := hs.rd h'
        have HB3 := Lib.hid (⟨HB.out.1.trans (hs.below.mono HB.out.2), Nat.le_trans HB.out.2 hs.size⟩ : Below w.heap.size w W3 ∧ w.heap.size ≤ W3.heap.size)
        clear hs FIN HB m0 me m2 m3 m4 m5 N0 N1 HEB
        have hs := Sep.start W3
        (try clear hCW); (try clear n0 n1 n2)
        obtain ⟨n0, n1, n2⟩ := FE.out _ _ hs
        go_wp2_with fail
        refine (endsX_any _ _ c es _ _ (hs.rdG h) he).mono ?_
        rintro en w4 ⟨rfl, hb⟩
        rw [HE.out.1]
        replace hs := hs.belowStep hb
        clear hb
        (try clear hCW); (try clear n0 n1 n2)
        obtain ⟨n0, n1, n2⟩ := FE.out _ _ hs
        go_wp2_with fail
        refine (endsX_any _ _ c es _ _ (hs.rdG h) he).mono ?_
        rintro en w5 ⟨rfl, hb⟩
        rw [HE.out.2]
        replace hs := hs.belowStep hb
        clear hb
        (try clear hCW); (try clear n0 n1 n2)
        obtain ⟨n0, n1, n2⟩ := FE.out _ _ hs
        obtain ⟨k0, k1, k3⟩ := FX.out _ _ hs
        go_wp2_with fail
        clear k0 k1 k3 f0 f1 f2 f3
        refine wp_loopM [none, none, none, none, none, none, some 6, none, none, none, none, none, none, none, none, some 15, some 16, some 17, some 18, some 19, some 20, some 21, some 22, some 23, some 24, none, none, none, none, none, none, none, none, none, none, none, none, none, none, none, none, none, none, none, none, none, none, none, none, none, none, none, none, none, none, none, none, none, none, none, none, none, none, none, none, none, none, none, none, none, none, none, none, none, none, none, none, none, none, none, none, none, none, none, none, none, none, none, none, none, none, none, none, none, none, none, none, none, none, none, none, some 101, some 102, some 103, some 104, some 105, some 106, some 107, some 108, some 109, some 110, some 111, some 112, some 113, some 114, some 115, some 116, some 117, some 118, some 119, some 120, some 121, some 122, some 123, some 124, some 125, some 126, some 127, some 128, some 129, some 130, some 131, some 132, some 133, some 134, some 135, some 136, some 137, some 138, some 139, some 140, some 141, some 142, some 143, some 144, some 145, some 146, some 147, some 148, some 149, some 150, some 151, some 152, some 153, some 154, some 155, some 156, some 157, some 158, some 159, some 160, some 161, some 162, some 163, some 164, some 165, some 166, some 167, some 168, some 169, some 170, some 171, some 172, some 173, some 174, some 175, some 176, some 177, some 178, some 179, some 180, some 181, some 182, some 183, some 184, some 185, some 186, some 187, some 188, some 189, some 190, some 191, some 192, some 193, some 194, some 195, some 196, none] (fun (r : Nat) (f : Nat → Value) (wr : World) => (fun (v : Value) => ∃ (k : Nat), v = .int .i64 k ∧ k ≤ 2 ∧ r = 2 - k ∧ Sep W3 wr []) (f 15)) (2) (by kernel_rfl) ?atStart1 ?round1
        case' atStart1 => (try dsimp only [nthV])
        case' round1 =>
          intro gk f wr l hl hrel J1 K1 hJ1 hK1
          (try simp only [mask] at hl)
          generalize f 15 = u15 at hl hrel
          subst hl
          (try dsimp only at hrel)
        case atStart1 => exact ⟨0, rfl, by decide, rfl, hs⟩
        case round1 =>
          clear hs n0 n1 n2
          obtain ⟨k, rfl, hk, rfl, hs⟩ := hrel
          (try clear hCW); (try clear n0 n1 n2)
          obtain ⟨n0, n1, n2⟩ := FE.out _ _ hs
          by_cases hlt : k < 2
          · obtain ⟨A, hA⟩ : ∃ A, A = 2 * i + k := ⟨_, rfl⟩
            obtain ⟨J, hJ⟩ : ∃ J, J = 2 * i + 1 - k := ⟨_, rfl⟩
            obtain ⟨hAi, hJA⟩ := even_odd i k A J hlt hA hJ
            have hAh : hasB es.length (A : Int) = true := by rw [hasB_iff]; omega
            have hJh : hasB es.length (J : Int) = true := by rw [hJA]; exact flip_has hAh
            have hfl2 : A / 2 < fl.length := by rw [hAi, (within_cap HW.out).1]; exact hil
            have hsum := HQQ.out A hAi
            have hr0 := room_bound HW.out hAh
            have hr1 := room_bound HW.out hJh
            rw [← hJA] at hsum
            obtain ⟨R, hR⟩ : ∃ R, R = roomE es fl A := ⟨_, rfl⟩
            obtain ⟨RJ, hRJ⟩ : ∃ R, R = roomE es fl J := ⟨_, rfl⟩
            rw [← hR] at hr0 hsum
            rw [← hRJ] at hr1 hsum
            have HRA := Lib.hid (show roomV n es fl A = R by rw [hR]; exact room_in HW.out hAh)
            have HRJ := Lib.hid (show roomV n es fl J = RJ by rw [hRJ]; exact room_in HW.out hJh)
            have hp0 := pushE_ok (n := n) (es := es) (fl := fl) (a := A) (b := R) hr0.1 hAh HW.out (by rw [Int.toNat_natCast, hR]; exact Int.le_refl _)
            rw [Int.toNat_natCast] at hp0
            have hp1 := pushE_full (n := n) (es := es) (fl := fl) (a := A) (b := R + 1) (by omega) hAh HW.out (by rw [Int.toNat_natCast, hR]; omega)
            have hwn := push_within HW.out hAh hr0.1 (b := R) (by rw [hR]; exact Int.le_refl _)
            have hbk := back_ok HW.out hAh hr0.1 (b := R) (by rw [hR]; exact Int.le_refl _)
            rw [← hJA] at hbk
            have hra := room_in hwn hAh
            rw [room_push hfl2, ← hR, Int.sub_self] at hra
            have hrj := room_in hwn hJh
            rw [hJA, room_flip hfl2, ← hJA, ← hRJ, show RJ + R = Q by omega] at hrj
            have hbo := bottle_one HW.out hAh
            rw [← hR] at hbo
            obtain ⟨V, hV⟩ : ∃ V, V = pushL fl A R := ⟨_, rfl⟩
            rw [← hV] at hp0 hbk hra hrj
            have HP0 := Lib.hid hp0
            have HP1 := Lib.hid hp1
            have HBK := Lib.hid hbk
            have HRA2 := Lib.hid hra
            have HRJ2 := Lib.hid hrj
            have HBO := Lib.hid hbo
            have q1 : (R + RJ != Q) = false := by simp [hsum]
            have q2 : (R != R) = false := by simp
            have q3 : (Q != Q) = false := by simp
            obtain ⟨r0, r1⟩ := hr0
            obtain ⟨r2, r3⟩ := hr1
            have q4 : decide (R < 0) = false := by simp; omega
            have hAl : A ≤ 1000000 := by omega
            have hJl : J ≤ 1000000 := by omega
            have HAE := Lib.hid (show 2 * (i : Int) + k = (A : Int) by omega)
            have HJE := Lib.hid (show 2 * (i : Int) + 1 - k = (J : Int) by omega)
            clear hA hJ hAi hJA hAh hJh hfl2 hsum hR hRJ hp0 hp1 hwn hbk hra hrj hbo hV
            go_upto_region 14 with fail
            rw [HAE.out, HJE.out]
            go_wp2_with fail
            refine (roomX_any n _ c es _ fl A _ (hs.rdG h) (hs.rd h') he).mono ?_
            rintro en w6 ⟨rfl, hb⟩
            rw [HRA.out]
            replace hs := hs.belowStep hb
            clear hb
            (try clear hCW); (try clear n0 n1 n2)
            obtain ⟨n0, n1, n2⟩ := FE.out _ _ hs
            go_wp2_with fail
            have hCW := (show (fun W : World => W.cell? ⟨w.heap.size, 0, none⟩ = some (.int .i64 n) ∧ W.cell? ⟨w.heap.size, 1, none⟩ = some (.slice (some ⟨b1, o1, none⟩) es.length c) ∧ W.cell? ⟨eb, 2, none⟩ = some (.int .i64 Q)) _ from ⟨n0, n1, n2⟩)
            refine Mix.region [0, 0, 0, 1, 0, 0, 0, 2, 0, 1, 1, 0, 0] (fun W : World => W.cell? ⟨w.heap.size, 0, none⟩ = some (.int .i64 n) ∧ W.cell? ⟨w.heap.size, 1, none⟩ = some (.slice (some ⟨b1, o1, none⟩) es.length c) ∧ W.cell? ⟨eb, 2, none⟩ = some (.int .i64 Q)) (by kernel_rfl) (by kernel_rfl) hCW ?_
            simp only [List.zip_cons_cons, List.zip_nil_right]
            iterate 3 (refine Mix.step0 fun K hK => ?_; go_simp; (try (go_bits; try go_simp)); first | ((with_reducible refine hK _ _ ?_); clear hK K) | ((try (simp only [IntWalk.iteOmega]; try go_simp)); (try go_bits); (with_reducible refine hK _ _ ?_); clear hK K))
            (first | (refine Mix.stepS rfl fun K hK => ?_; go_simp; (with_reducible refine hK _ _ ?_); clear hK K) | (refine Mix.step1 fun K hK => ?_; go_simp; (try (go_bits; try go_simp)); first | ((with_reducible refine hK _ _ ?_); clear hK K) | ((try (simp only [IntWalk.iteOmega]; try go_simp)); (try go_bits); (with_reducible refine hK _ _ ?_); clear hK K)))
            iterate 3 (first | (refine Mix.stepS rfl fun K hK => ?_; go_simp; (with_reducible refine hK _ _ ?_); clear hK K) | (refine Mix.step0 fun K hK => ?_; go_simp; (try (go_bits; try go_simp)); first | ((with_reducible refine hK _ _ ?_); clear hK K) | ((try (simp only [IntWalk.iteOmega]; try go_simp)); (try go_bits); (with_reducible refine hK _ _ ?_); clear hK K)))
            refine Mix.step2n (by first | rfl | simp [Region.wanted, yielded]) fun K hK => ?_
            go_wp2_with fail
            replace hs := hs.drew
            refine (roomX_any n _ c es _ fl J _ (hs.rdG h) (hs.rd h') he).mono ?_
            rintro en w7 ⟨rfl, hb⟩
            rw [HRJ.out]
            replace hs := hs.belowStep hb
            clear hb
            (try clear hCW); (try clear n0 n1 n2)
            obtain ⟨n0, n1, n2⟩ := FE.out _ _ hs
            have hCW := (show (fun W : World => W.cell? ⟨w.heap.size, 0, none⟩ = some (.int .i64 n) ∧ W.cell? ⟨w.heap.size, 1, none⟩ = some (.slice (some ⟨b1, o1, none⟩) es.length c) ∧ W.cell? ⟨eb, 2, none⟩ = some (.int .i64 Q)) _ from ⟨n0, n1, n2⟩)
            go_wp2_with fail
            refine Mix.post_mk (C := (fun W : World => W.cell? ⟨w.heap.size, 0, none⟩ = some (.int .i64 n) ∧ W.cell? ⟨w.heap.size, 1, none⟩ = some (.slice (some ⟨b1, o1, none⟩) es.length c) ∧ W.cell? ⟨eb, 2, none⟩ = some (.int .i64 Q))) (by first | exact hCW | exact HCW.out _) (hK _ _ ?_)
            clear hK K
            iterate 1 (first | (refine Mix.stepS rfl fun K hK => ?_; go_simp; (with_reducible refine hK _ _ ?_); clear hK K) | (refine Mix.step0 fun K hK => ?_; go_simp; (try (go_bits; try go_simp)); first | ((with_reducible refine hK _ _ ?_); clear hK K) | ((try (simp only [IntWalk.iteOmega]; try go_simp)); (try go_bits); (with_reducible refine hK _ _ ?_); clear hK K)))
            (first | (refine Mix.stepS rfl fun K hK => ?_; go_simp; (with_reducible refine hK _ _ ?_); clear hK K) | (refine Mix.step1 fun K hK => ?_; go_simp; (try (go_bits; try go_simp)); first | ((with_reducible refine hK _ _ ?_); clear hK K) | ((try (simp only [IntWalk.iteOmega]; try go_simp)); (try go_bits); (with_reducible refine hK _ _ ?_); clear hK K)))
            (first | (refine Mix.stepS rfl fun K hK => ?_; go_simp; (with_reducible refine hK _ _ ?_); clear hK K) | (refine Mix.step1 fun K hK => ?_; go_simp; refine ⟨fun W => ?_, hK _ _ ?_⟩; (intro hW1; (try intro hW2); (try intro hW3); (try intro hW4); (try intro hW5); (try intro hW6); (try intro hW7); (try intro hW8); go_simp); clear hK K))
            iterate 1 (first | (refine Mix.stepS rfl fun K hK => ?_; go_simp; (with_reducible refine hK _ _ ?_); clear hK K) | (refine Mix.step0 fun K hK => ?_; go_simp; (try (go_bits; try go_simp)); first | ((with_reducible refine hK _ _ ?_); clear hK K) | ((try (simp only [IntWalk.iteOmega]; try go_simp)); (try go_bits); (with_reducible refine hK _ _ ?_); clear hK K)))
            iterate 1 (refine Mix.step0 fun K hK => ?_; go_simp; (try (go_bits; try go_simp)); first | ((with_reducible refine hK _ _ ?_); clear hK K) | ((try (simp only [IntWalk.iteOmega]; try go_simp)); (try go_bits); (with_reducible refine hK _ _ ?_); clear hK K))
            refine Mix.done ?_
            go_wp2_with fail
            have hCW := (show (fun W : World => W.cell? ⟨w.heap.size, 0, none⟩ = some (.int .i64 n) ∧ W.cell? ⟨w.heap.size, 1, none⟩ = some (.slice (some ⟨b1, o1, none⟩) es.length c) ∧ W.cell? ⟨eb, 2, none⟩ = some (.int .i64 Q)) _ from ⟨n0, n1, n2⟩)
            refine Mix.region [1, 0, 2, 1, 1, 2, 0, 0, 0, 0, 0] (fun W : World => W.cell? ⟨w.heap.size, 0, none⟩ = some (.int .i64 n) ∧ W.cell? ⟨w.heap.size, 1, none⟩ = some (.slice (some ⟨b1, o1, none⟩) es.length c) ∧ W.cell? ⟨eb, 2, none⟩ = some (.int .i64 Q)) (by kernel_rfl) (by kernel_rfl) hCW ?_
            simp only [List.zip_cons_cons, List.zip_nil_right]
            (refine Mix.step1 fun K hK => ?_; go_simp; refine ⟨fun W => ?_, hK _ _ ?_⟩; (intro hW1; (try intro hW2); (try intro hW3); (try intro hW4); (try intro hW5); (try intro hW6); (try intro hW7); (try intro hW8); go_simp); clear hK K)
            iterate 1 (refine Mix.step0 fun K hK => ?_; go_simp; (try (go_bits; try go_simp)); first | ((with_reducible refine hK _ _ ?_); clear hK K) | ((try (simp only [IntWalk.iteOmega]; try go_simp)); (try go_bits); (with_reducible refine hK _ _ ?_); clear hK K))
            refine Mix.step2n (by first | rfl | simp [Region.wanted, yielded]) fun K hK => ?_
            go_wp2_with fail
            replace hs := hs.drew
            refine (copied_any _ fl _ (hs.rd h') (by omega)).mono ?_
            rintro en w8 ⟨u, rfl, k8⟩
            replace hs := hs.join k8
            clear k8
            simp only [List.cons_append, List.nil_append] at hs
            (try clear hCW); (try clear n0 n1 n2)
            obtain ⟨n0, n1, n2⟩ := FE.out _ _ hs
            have hCW := (show (fun W : World => W.cell? ⟨w.heap.size, 0, none⟩ = some (.int .i64 n) ∧ W.cell? ⟨w.heap.size, 1, none⟩ = some (.slice (some ⟨b1, o1, none⟩) es.length c) ∧ W.cell? ⟨eb, 2, none⟩ = some (.int .i64 Q)) _ from ⟨n0, n1, n2⟩)
            go_wp2_with fail
            refine Mix.post_mk (C := (fun W : World => W.cell? ⟨w.heap.size, 0, none⟩ = some (.int .i64 n) ∧ W.cell? ⟨w.heap.size, 1, none⟩ = some (.slice (some ⟨b1, o1, none⟩) es.length c) ∧ W.cell? ⟨eb, 2, none⟩ = some (.int .i64 Q))) (by first | exact hCW | exact HCW.out _) (hK _ _ ?_)
            clear hK K
            (refine Mix.step1 fun K hK => ?_; go_simp; (try (go_bits; try go_simp)); first | ((with_reducible refine hK _ _ ?_); clear hK K) | ((try (simp only [IntWalk.iteOmega]; try go_simp)); (try go_bits); (with_reducible refine hK _ _ ?_); clear hK K))
            (refine Mix.step1 fun K hK => ?_; go_simp; (try (go_bits; try go_simp)); first | ((with_reducible refine hK _ _ ?_); clear hK K) | ((try (simp only [IntWalk.iteOmega]; try go_simp)); (try go_bits); (with_reducible refine hK _ _ ?_); clear hK K))
            refine Mix.step2n (by first | rfl | simp [Region.wanted, yielded]) fun K hK => ?_
            go_wp2_with fail
            refine (pushX_any n _ c es _ fl A R _ (hs.rdG h) (hs.rdInts 0 rfl) he).mono ?_
            rintro en w9 ⟨u9, rfl, k9⟩
            rw [HP0.out.1]
            rw [HP0.out.2] at k9
            replace hs := hs.join k9
            clear k9
            simp only [List.cons_append, List.nil_append] at hs
            (try clear hCW); (try clear n0 n1 n2)
            obtain ⟨n0, n1, n2⟩ := FE.out _ _ hs
            have hCW := (show (fun W : World => W.cell? ⟨w.heap.size, 0, none⟩ = some (.int .i64 n) ∧ W.cell? ⟨w.heap.size, 1, none⟩ = some (.slice (some ⟨b1, o1, none⟩) es.length c) ∧ W.cell? ⟨eb, 2, none⟩ = some (.int .i64 Q)) _ from ⟨n0, n1, n2⟩)
            obtain ⟨av, cv, rfl⟩ := (hs.rdInts 0 rfl).shape
            go_wp2_with fail
            refine Mix.post_mk (C := (fun W : World => W.cell? ⟨w.heap.size, 0, none⟩ = some (.int .i64 n) ∧ W.cell? ⟨w.heap.size, 1, none⟩ = some (.slice (some ⟨b1, o1, none⟩) es.length c) ∧ W.cell? ⟨eb, 2, none⟩ = some (.int .i64 Q))) (by first | exact hCW | exact HCW.out _) (hK _ _ ?_)
            clear hK K
            iterate 5 (refine Mix.step0 fun K hK => ?_; go_simp; (try (go_bits; try go_simp)); first | ((with_reducible refine hK _ _ ?_); clear hK K) | ((try (simp only [IntWalk.iteOmega]; try go_simp)); (try go_bits); (with_reducible refine hK _ _ ?_); clear hK K))
            refine Mix.done ?_
            go_wp2_with fail
            have hCW := (show (fun W : World => W.cell? ⟨w.heap.size, 0, none⟩ = some (.int .i64 n) ∧ W.cell? ⟨w.heap.size, 1, none⟩ = some (.slice (some ⟨b1, o1, none⟩) es.length c) ∧ W.cell? ⟨eb, 2, none⟩ = some (.int .i64 Q)) _ from ⟨n0, n1, n2⟩)
            refine Mix.region [1, 0, 2, 1, 1, 1, 2, 0, 0, 0, 0, 0] (fun W : World => W.cell? ⟨w.heap.size, 0, none⟩ = some (.int .i64 n) ∧ W.cell? ⟨w.heap.size, 1, none⟩ = some (.slice (some ⟨b1, o1, none⟩) es.length c) ∧ W.cell? ⟨eb, 2, none⟩ = some (.int .i64 Q)) (by kernel_rfl) (by kernel_rfl) hCW ?_
            simp only [List.zip_cons_cons, List.zip_nil_right]
            (refine Mix.step1 fun K hK => ?_; go_simp; refine ⟨fun W => ?_, hK _ _ ?_⟩; (intro hW1; (try intro hW2); (try intro hW3); (try intro hW4); (try intro hW5); (try intro hW6); (try intro hW7); (try intro hW8); go_simp); clear hK K)
            iterate 1 (refine Mix.step0 fun K hK => ?_; go_simp; (try (go_bits; try go_simp)); first | ((with_reducible refine hK _ _ ?_); clear hK K) | ((try (simp only [IntWalk.iteOmega]; try go_simp)); (try go_bits); (with_reducible refine hK _ _ ?_); clear hK K))
            refine Mix.step2n (by first | rfl | simp [Region.wanted, yielded]) fun K hK => ?_
            go_wp2_with fail
            replace hs := hs.drew
            refine (copied_any _ fl _ (hs.rd h') (by omega)).mono ?_
            rintro en w10 ⟨u10, rfl, k8⟩
            replace hs := hs.join k8
            clear k8
            simp only [List.cons_append, List.nil_append] at hs
            (try clear hCW); (try clear n0 n1 n2)
            obtain ⟨n0, n1, n2⟩ := FE.out _ _ hs
            have hCW := (show (fun W : World => W.cell? ⟨w.heap.size, 0, none⟩ = some (.int .i64 n) ∧ W.cell? ⟨w.heap.size, 1, none⟩ = some (.slice (some ⟨b1, o1, none⟩) es.length c) ∧ W.cell? ⟨eb, 2, none⟩ = some (.int .i64 Q)) _ from ⟨n0, n1, n2⟩)
            go_wp2_with fail
            refine Mix.post_mk (C := (fun W : World => W.cell? ⟨w.heap.size, 0, none⟩ = some (.int .i64 n) ∧ W.cell? ⟨w.heap.size, 1, none⟩ = some (.slice (some ⟨b1, o1, none⟩) es.length c) ∧ W.cell? ⟨eb, 2, none⟩ = some (.int .i64 Q))) (by first | exact hCW | exact HCW.out _) (hK _ _ ?_)
            clear hK K
            (refine Mix.step1 fun K hK => ?_; go_simp; (try (go_bits; try go_simp)); first | ((with_reducible refine hK _ _ ?_); clear hK K) | ((try (simp only [IntWalk.iteOmega]; try go_simp)); (try go_bits); (with_reducible refine hK _ _ ?_); clear hK K))
            (refine Mix.step1 fun K hK => ?_; go_simp; (try (go_bits; try go_simp)); first | ((with_reducible refine hK _ _ ?_); clear hK K) | ((try (simp only [IntWalk.iteOmega]; try go_simp)); (try go_bits); (with_reducible refine hK _ _ ?_); clear hK K))
            (refine Mix.step1 fun K hK => ?_; go_simp; (try (go_bits; try go_simp)); first | ((with_reducible refine hK _ _ ?_); clear hK K) | ((try (simp only [IntWalk.iteOmega]; try go_simp)); (try go_bits); (with_reducible refine hK _ _ ?_); clear hK K))
            refine Mix.step2n (by first | rfl | simp [Region.wanted, yielded]) fun K hK => ?_
            go_wp2_with fail
            refine (pushX_any n _ c es _ fl A (R + 1) _ (hs.rdG h) (hs.rdInts 0 rfl) he).mono ?_
            rintro en w11 ⟨u11, rfl, k9⟩
            rw [HP1.out.1]
            rw [HP1.out.2] at k9
            replace hs := hs.join k9
            clear k9
            simp only [List.cons_append, List.nil_append] at hs
            (try clear hCW); (try clear n0 n1 n2)
            obtain ⟨n0, n1, n2⟩ := FE.out _ _ hs
            have hCW := (show (fun W : World => W.cell? ⟨w.heap.size, 0, none⟩ = some (.int .i64 n) ∧ W.cell? ⟨w.heap.size, 1, none⟩ = some (.slice (some ⟨b1, o1, none⟩) es.length c) ∧ W.cell? ⟨eb, 2, none⟩ = some (.int .i64 Q)) _ from ⟨n0, n1, n2⟩)
            go_wp2_with fail
            refine Mix.post_mk (C := (fun W : World => W.cell? ⟨w.heap.size, 0, none⟩ = some (.int .i64 n) ∧ W.cell? ⟨w.heap.size, 1, none⟩ = some (.slice (some ⟨b1, o1, none⟩) es.length c) ∧ W.cell? ⟨eb, 2, none⟩ = some (.int .i64 Q))) (by first | exact hCW | exact HCW.out _) (hK _ _ ?_)
            clear hK K
            iterate 5 (refine Mix.step0 fun K hK => ?_; go_simp; (try (go_bits; try go_simp)); first | ((with_reducible refine hK _ _ ?_); clear hK K) | ((try (simp only [IntWalk.iteOmega]; try go_simp)); (try go_bits); (with_reducible refine hK _ _ ?_); clear hK K))
            refine Mix.done ?_
            replace hs := hs.tail.tail
            go_wp2_with fail
            have hCW := (show (fun W : World => W.cell? ⟨w.heap.size, 0, none⟩ = some (.int .i64 n) ∧ W.cell? ⟨w.heap.size, 1, none⟩ = some (.slice (some ⟨b1, o1, none⟩) es.length c) ∧ W.cell? ⟨eb, 2, none⟩ = some (.int .i64 Q)) _ from ⟨n0, n1, n2⟩)
            refine Mix.region [0, 0, 0, 0, 0, 0, 0, 0, 0, 0, 2, 0, 0, 0, 0, 0, 0, 2, 1, 1, 0, 0] (fun W : World => W.cell? ⟨w.heap.size, 0, none⟩ = some (.int .i64 n) ∧ W.cell? ⟨w.heap.size, 1, none⟩ = some (.slice (some ⟨b1, o1, none⟩) es.length c) ∧ W.cell? ⟨eb, 2, none⟩ = some (.int .i64 Q)) (by kernel_rfl) (by kernel_rfl) hCW ?_
            simp only [List.zip_cons_cons, List.zip_nil_right]
            iterate 3 (refine Mix.step0 fun K hK => ?_; go_simp; (try (go_bits; try go_simp)); first | ((with_reducible refine hK _ _ ?_); clear hK K) | ((try (simp only [IntWalk.iteOmega]; try go_simp)); (try go_bits); (with_reducible refine hK _ _ ?_); clear hK K))
            iterate 2 (first | (refine Mix.stepS rfl fun K hK => ?_; go_simp; (with_reducible refine hK _ _ ?_); clear hK K) | (refine Mix.step0 fun K hK => ?_; go_simp; (try (go_bits; try go_simp)); first | ((with_reducible refine hK _ _ ?_); clear hK K) | ((try (simp only [IntWalk.iteOmega]; try go_simp)); (try go_bits); (with_reducible refine hK _ _ ?_); clear hK K)))
            iterate 2 (refine Mix.step0 fun K hK => ?_; go_simp; (try (go_bits; try go_simp)); first | ((with_reducible refine hK _ _ ?_); clear hK K) | ((try (simp only [IntWalk.iteOmega]; try go_simp)); (try go_bits); (with_reducible refine hK _ _ ?_); clear hK K))
            iterate 3 (first | (refine Mix.stepS rfl fun K hK => ?_; go_simp; (with_reducible refine hK _ _ ?_); clear hK K) | (refine Mix.step0 fun K hK => ?_; go_simp; (try (go_bits; try go_simp)); first | ((with_reducible refine hK _ _ ?_); clear hK K) | ((try (simp only [IntWalk.iteOmega]; try go_simp)); (try go_bits); (with_reducible refine hK _ _ ?_); clear hK K)))
            refine Mix.step2n (by first | rfl | simp [Region.wanted, yielded]) fun K hK => ?_
            go_wp2_with fail
            replace hs := hs.drew
            refine (roomX_any n _ c es _ V A _ (hs.rdG h) (hs.rdInts 0 rfl) he).mono ?_
            rintro en w12 ⟨rfl, hb⟩
            rw [HRA2.out]
            replace hs := hs.belowStep hb
            clear hb
            (try clear hCW); (try clear n0 n1 n2)
            obtain ⟨n0, n1, n2⟩ := FE.out _ _ hs
            have hCW := (show (fun W : World => W.cell? ⟨w.heap.size, 0, none⟩ = some (.int .i64 n) ∧ W.cell? ⟨w.heap.size, 1, none⟩ = some (.slice (some ⟨b1, o1, none⟩) es.length c) ∧ W.cell? ⟨eb, 2, none⟩ = some (.int .i64 Q)) _ from ⟨n0, n1, n2⟩)
            go_wp2_with fail
            refine Mix.post_mk (C := (fun W : World => W.cell? ⟨w.heap.size, 0, none⟩ = some (.int .i64 n) ∧ W.cell? ⟨w.heap.size, 1, none⟩ = some (.slice (some ⟨b1, o1, none⟩) es.length c) ∧ W.cell? ⟨eb, 2, none⟩ = some (.int .i64 Q))) (by first | exact hCW | exact HCW.out _) (hK _ _ ?_)
            clear hK K
            iterate 1 (first | (refine Mix.stepS rfl fun K hK => ?_; go_simp; (with_reducible refine hK _ _ ?_); clear hK K) | (refine Mix.step0 fun K hK => ?_; go_simp; (try (go_bits; try go_simp)); first | ((with_reducible refine hK _ _ ?_); clear hK K) | ((try (simp only [IntWalk.iteOmega]; try go_simp)); (try go_bits); (with_reducible refine hK _ _ ?_); clear hK K)))
            iterate 2 (refine Mix.step0 fun K hK => ?_; go_simp; (try (go_bits; try go_simp)); first | ((with_reducible refine hK _ _ ?_); clear hK K) | ((try (simp only [IntWalk.iteOmega]; try go_simp)); (try go_bits); (with_reducible refine hK _ _ ?_); clear hK K))
            iterate 3 (first | (refine Mix.stepS rfl fun K hK => ?_; go_simp; (with_reducible refine hK _ _ ?_); clear hK K) | (refine Mix.step0 fun K hK => ?_; go_simp; (try (go_bits; try go_simp)); first | ((with_reducible refine hK _ _ ?_); clear hK K) | ((try (simp only [IntWalk.iteOmega]; try go_simp)); (try go_bits); (with_reducible refine hK _ _ ?_); clear hK K)))
            refine Mix.step2n (by first | rfl | simp [Region.wanted, yielded]) fun K hK => ?_
            go_wp2_with fail
            refine (roomX_any n _ c es _ V J _ (hs.rdG h) (hs.rdInts 0 rfl) he).mono ?_
            rintro en w13 ⟨rfl, hb⟩
            rw [HRJ2.out]
            replace hs := hs.belowStep hb
            clear hb
            (try clear hCW); (try clear n0 n1 n2)
            obtain ⟨n0, n1, n2⟩ := FE.out _ _ hs
            have hCW := (show (fun W : World => W.cell? ⟨w.heap.size, 0, none⟩ = some (.int .i64 n) ∧ W.cell? ⟨w.heap.size, 1, none⟩ = some (.slice (some ⟨b1, o1, none⟩) es.length c) ∧ W.cell? ⟨eb, 2, none⟩ = some (.int .i64 Q)) _ from ⟨n0, n1, n2⟩)
            go_wp2_with fail
            refine Mix.post_mk (C := (fun W : World => W.cell? ⟨w.heap.size, 0, none⟩ = some (.int .i64 n) ∧ W.cell? ⟨w.heap.size, 1, none⟩ = some (.slice (some ⟨b1, o1, none⟩) es.length c) ∧ W.cell? ⟨eb, 2, none⟩ = some (.int .i64 Q))) (by first | exact hCW | exact HCW.out _) (hK _ _ ?_)
            clear hK K
            (first | (refine Mix.stepS rfl fun K hK => ?_; go_simp; (with_reducible refine hK _ _ ?_); clear hK K) | (refine Mix.step1 fun K hK => ?_; go_simp; (try (go_bits; try go_simp)); first | ((with_reducible refine hK _ _ ?_); clear hK K) | ((try (simp only [IntWalk.iteOmega]; try go_simp)); (try go_bits); (with_reducible refine hK _ _ ?_); clear hK K)))
            (first | (refine Mix.stepS rfl fun K hK => ?_; go_simp; (with_reducible refine hK _ _ ?_); clear hK K) | (refine Mix.step1 fun K hK => ?_; go_simp; refine ⟨fun W => ?_, hK _ _ ?_⟩; (intro hW1; (try intro hW2); (try intro hW3); (try intro hW4); (try intro hW5); (try intro hW6); (try intro hW7); (try intro hW8); go_simp); clear hK K))
            iterate 1 (first | (refine Mix.stepS rfl fun K hK => ?_; go_simp; (with_reducible refine hK _ _ ?_); clear hK K) | (refine Mix.step0 fun K hK => ?_; go_simp; (try (go_bits; try go_simp)); first | ((with_reducible refine hK _ _ ?_); clear hK K) | ((try (simp only [IntWalk.iteOmega]; try go_simp)); (try go_bits); (with_reducible refine hK _ _ ?_); clear hK K)))
            iterate 1 (refine Mix.step0 fun K hK => ?_; go_simp; (try (go_bits; try go_simp)); first | ((with_reducible refine hK _ _ ?_); clear hK K) | ((try (simp only [IntWalk.iteOmega]; try go_simp)); (try go_bits); (with_reducible refine hK _ _ ?_); clear hK K))
            refine Mix.done ?_
            go_wp2_with fail
            refine (pushX_any n _ c es _ V J R _ (hs.rdG h) (hs.rdInts 0 rfl) he).mono ?_
            rintro en w14 ⟨u14, rfl, k9⟩
            rw [HBK.out.1]
            rw [HBK.out.2] at k9
            replace hs := hs.join k9
            clear k9
            simp only [List.cons_append, List.nil_append] at hs
            (try clear hCW); (try clear n0 n1 n2)
            obtain ⟨n0, n1, n2⟩ := FE.out _ _ hs
            go_wp2_with fail
            refine (rsame_any _ _ fl fl _ (hs.rdInts 0 rfl) (hs.rd h')).mono ?_
            rintro en w15 ⟨rfl, k9⟩
            rw [show decide (fl = fl) = true by simp]
            replace hs := hs.join k9
            clear k9
            simp only [List.cons_append, List.nil_append] at hs
            (try clear hCW); (try clear n0 n1 n2)
            obtain ⟨n0, n1, n2⟩ := FE.out _ _ hs
            replace hs := hs.litInts .i64 3 [(A : Int)] (by simp [maxLen])
            simp only [List.map_cons, List.map_nil, List.length_cons, List.length_nil, Nat.reduceAdd, World.size_alloc] at hs
            go_wp2_with fail
            refine (bottle_any n _ c es _ fl _ [(A : Int)] _ (hs.rdG h) (hs.rd h') (hs.rdInts 0 rfl) he (by simp)).mono ?_
            rintro en w16 ⟨rfl, hb⟩
            rw [HBO.out]
            replace hs := hs.belowStep hb
            clear hb
            (try clear hCW); (try clear n0 n1 n2)
            obtain ⟨n0, n1, n2⟩ := FE.out _ _ hs
            go_wp2_with fail
            refine Round.intro (2 - (k + 1)) ?measure2 (by kernel_rfl) (hJ1 _ _ _ ?rel2)
            case' rel2 => (try dsimp only [nthV])
            case measure2 => omega
            case rel2 => exact ⟨k + 1, by go_num, hlt, rfl, Sep.ofBelow hs.below⟩
          · obtain rfl : k = 2 := by omega
            go_wp2_with fail
            refine (works_any _).mono ?_
            rintro en wz ⟨rfl, hb⟩
            replace hs := hs.belowStep hb
            clear hb
            (try clear hCW); (try clear n0 n1 n2)
            obtain ⟨n0, n1, n2⟩ := FE.out _ _ hs
            go_wp2_with fail
            go_ret
            exact ⟨rfl, HB3.out.1.trans (hs.below.mono HB3.out.2)⟩
end Go.Proofs.Ytmfjfhmoljnnkaa
