/-
  The reference's rests (gabletref12), walked.
-/
import Derived.Test.YtmfjfhmoljnnkaaRW2
import Derived.Test.YtmfjfhmoljnnkaaNRef2W
import Derived.Test.YtmfjfhmoljnnkaaRPlain2
namespace Go.Proofs.Ytmfjfhmoljnnkaa
open Go Go.RowKit Go.Mem Go.NetP Go.RestP

set_option maxHeartbeats 400000 in
theorem rhas_any (n : Int) (a : Option Addr) (l c : Nat) (i : Int) (w : World) (hl : l ≤ 1000000000) : Calls Try.prog 34 #[.agg #[.int .i64 n, .slice a l c], .int .i64 i] w fun e w' => e = .returned (.bool (hasB l i)) ∧ Below w.heap.size w w' := by
  have hs := (Sep.start w).newCells #[.int .i64 n, .slice a l c] 24
  by_cases h0 : 0 ≤ i
  · have H := Lib.hid (show hasB l i = decide (i < 2 * (l : Int)) by simp [hasB, h0])
    go_enter Try.func34, Try.ntmps34
    go_wp2_with fail
    go_ret
    exact ⟨by rw [H.out]; rfl, hs.below⟩
  · have H := Lib.hid (show hasB l i = false by simp [hasB, h0])
    go_enter Try.func34, Try.ntmps34
    go_wp2_with fail
    go_ret
    exact ⟨by rw [H.out]; rfl, hs.below⟩

/-- The test of the reference: even or odd. -/
theorem even_no {i : Nat} (h : oddB i = true) : ((i : Int) % 2 == 0) = false := by
  have : i % 2 = 1 := by simpa [oddB] using h
  rw [beq_eq_false_iff_ne]; omega
theorem even_yes {i : Nat} (h : oddB i = false) : ((i : Int) % 2 == 0) = true := by
  have : ¬ i % 2 = 1 := by simpa [oddB] using h
  rw [beq_iff_eq]; omega

set_option maxHeartbeats 1000000 in
theorem rends_any (n : Int) (a : Option Addr) (c : Nat) (es : List Ed) (i : Int) (w : World) (h : RdG edR w (.slice a es.length c) es) (hsm : es.length ≤ 100000) :
    Calls Try.prog 14 #[.agg #[.int .i64 n, .slice a es.length c], .int .i64 i] w fun en w' => en = .returned (.tuple #[.int .i64 (endsV n es i).1, .int .i64 (endsV n es i).2.1, .int .i64 (endsV n es i).2.2]) ∧ Below w.heap.size w w' := by
  have hs := (Sep.start w).newCells #[.int .i64 n, .slice a es.length c] 24
  go_enter Try.func14, Try.ntmps14
  go_wp2_with fail
  refine (rright_any n a c es _ (hs.rdG h)).mono ?_
  rintro en w1 ⟨rfl, hb⟩
  replace hs := hs.belowStep hb
  clear hb; (try clear n0 n1)
  cases hr : rightB n es
  · have HE := Lib.hid (show endsV n es i = (0, 0, 0) by simp [endsV, hr])
    clear hr
    go_wp2_with fail
    go_ret3
    exact ⟨by rw [HE.out]; rfl, hs.below⟩
  · have n0 := cell_of (hs.cells 0 rfl) 0
    have n1 := cell_of (hs.cells 0 rfl) 1
    simp only [List.getElem?_toArray, List.getElem?_cons_zero, List.getElem?_cons_succ] at n0 n1
    go_wp2_with fail
    refine (rhas_any n a es.length c i _ (by omega)).mono ?_
    rintro en w2 ⟨rfl, hb⟩
    replace hs := hs.belowStep hb
    clear hb; (try clear n0 n1)
    cases hh : hasB es.length i
    · have HE := Lib.hid (show endsV n es i = (0, 0, 0) by simp [endsV, hh])
      clear hh hr
      go_wp2_with fail
      go_ret3
      exact ⟨by rw [HE.out]; rfl, hs.below⟩
    · have hi := (hasB_iff _ _).1 hh
      obtain ⟨I, rfl⟩ : ∃ I : Nat, i = I := ⟨i.toNat, by omega⟩
      have hhf := has_half hh
      have HE := Lib.hid (show endsV n es I = endsE es I by simp [endsV, hh, hr])
      obtain ⟨b1, o1, e1, hb1, hc1⟩ := (hs.rdG h).at (I / 2) hhf
      subst e1
      obtain ⟨e, hee⟩ : ∃ e, e = es[I / 2] := ⟨_, rfl⟩
      have hk := (edgeB_iff _ _).1 ((right_cap hr).2.2.2.2 e (by rw [hee]; exact List.getElem_mem hhf))
      obtain ⟨_, _, _, _, k0, k1⟩ := hk
      have HEE := Lib.hid (show endsE es I = if oddB I = true then (e.t, e.f, -e.k) else (e.f, e.t, e.k) by unfold endsE; rw [edAt_of hhf, hee])
      rw [← hee] at hc1
      have x0 := hc1 0 (by decide)
      have x1 := hc1 1 (by decide)
      have x2 := hc1 2 (by decide)
      have x3 := hc1 3 (by decide)
      simp only [edR, Nat.add_zero, List.getElem?_cons_zero, List.getElem?_cons_succ] at x0 x1 x2 x3
      clear hc1 hee hh hr hi
      have n0 := cell_of (hs.cells 0 rfl) 0
      have n1 := cell_of (hs.cells 0 rfl) 1
      simp only [List.getElem?_toArray, List.getElem?_cons_zero, List.getElem?_cons_succ] at n0 n1
      have hs2 := hs.newCells #[.int .i64 e.f, .int .i64 e.t, .int .i64 e.c, .int .i64 e.k] 44
      cases ho : oddB I
      · rw [ho] at HEE
        have hev := even_yes ho
        go_wp2_with fail
        refine Mix.region [0, 0, 0, 0, 0, 0, 0, 0, 0] (fun _ => True) (by kernel_rfl) (by kernel_rfl) trivial ?_
        simp only [List.zip_cons_cons, List.zip_nil_right]
        iterate 9 (refine Mix.step0 fun K hK => ?_; go_simp; (try (go_bits; try go_simp)); first | ((with_reducible refine hK _ _ ?_); clear hK K) | ((try (simp only [IntWalk.iteOmega]; try go_simp)); (try go_bits); (with_reducible refine hK _ _ ?_); clear hK K))
        refine Mix.done ?_
        go_wp2_with fail
        go_ret3
        exact ⟨by rw [HE.out, HEE.out]; rfl, hs2.drew.below⟩
      · rw [ho] at HEE
        have hev := even_no ho
        go_wp2_with fail
        refine Mix.region [0, 0, 0, 0, 0, 0, 0, 0, 0, 0] (fun _ => True) (by kernel_rfl) (by kernel_rfl) trivial ?_
        simp only [List.zip_cons_cons, List.zip_nil_right]
        iterate 10 (refine Mix.step0 fun K hK => ?_; go_simp; (try (go_bits; try go_simp)); first | ((with_reducible refine hK _ _ ?_); clear hK K) | ((try (simp only [IntWalk.iteOmega]; try go_simp)); (try go_bits); (with_reducible refine hK _ _ ?_); clear hK K))
        refine Mix.done ?_
        go_wp2_with fail
        go_ret3
        exact ⟨by rw [HE.out, HEE.out]; rfl, hs2.drew.below⟩

set_option maxHeartbeats 1000000 in
theorem rroom_any (n : Int) (a : Option Addr) (c : Nat) (es : List Ed) (v : Value) (fl : List Int) (i : Int) (w : World) (h : RdG edR w (.slice a es.length c) es) (h' : Rd .i64 w v fl) (hsm : es.length ≤ 100000) :
    Calls Try.prog 16 #[.agg #[.int .i64 n, .slice a es.length c], v, .int .i64 i] w fun en w' => en = .returned (.int .i64 (roomV n es fl i)) ∧ Below w.heap.size w w' := by
  have hs := (Sep.start w).newCells #[.int .i64 n, .slice a es.length c] 24
  obtain ⟨a', c', rfl⟩ := h'.shape
  go_enter Try.func16, Try.ntmps16
  go_wp2_with fail
  refine (rwithin_any n a c es _ fl _ (hs.rdG h) (hs.rd h')).mono ?_
  rintro en w1 ⟨rfl, hb⟩
  replace hs := hs.belowStep hb
  clear hb; (try clear n0 n1)
  cases hr : withinB n es fl
  · have HE := Lib.hid (show roomV n es fl i = 0 by simp [roomV, hr])
    clear hr
    go_wp2_with fail
    go_ret
    exact ⟨by rw [HE.out]; rfl, hs.below⟩
  · have n0 := cell_of (hs.cells 0 rfl) 0
    have n1 := cell_of (hs.cells 0 rfl) 1
    simp only [List.getElem?_toArray, List.getElem?_cons_zero, List.getElem?_cons_succ] at n0 n1
    go_wp2_with fail
    refine (rhas_any n a es.length c i _ (by omega)).mono ?_
    rintro en w2 ⟨rfl, hb⟩
    replace hs := hs.belowStep hb
    clear hb; (try clear n0 n1)
    cases hh : hasB es.length i
    · have HE := Lib.hid (show roomV n es fl i = 0 by simp [roomV, hh])
      clear hh hr
      go_wp2_with fail
      go_ret
      exact ⟨by rw [HE.out]; rfl, hs.below⟩
    · have hi := (hasB_iff _ _).1 hh
      obtain ⟨I, rfl⟩ : ∃ I : Nat, i = I := ⟨i.toNat, by omega⟩
      have hhf := has_half hh
      have HE := Lib.hid (show roomV n es fl I = roomE es fl I by simp [roomV, hh, hr])
      have hlen := (within_cap hr).1
      have hhf2 : I / 2 < fl.length := by omega
      obtain ⟨b1, o1, e1, hb1, hc1⟩ := (hs.rdG h).at (I / 2) hhf
      obtain ⟨b2, o2, e2, hb2, x0⟩ := (hs.rd h').at (I / 2) hhf2
      subst e1; subst e2
      obtain ⟨y0, y1⟩ := within_at hr hhf
      have he := (edgeB_iff _ _).1 ((right_cap (within_cap hr).2.1).2.2.2.2 _ (List.getElem_mem hhf))
      obtain ⟨_, _, q0, q1, _, _⟩ := he
      have HEE := Lib.hid (show roomE es fl I = if oddB I = true then fl.getD (I / 2) 0 else es[I / 2].c - fl.getD (I / 2) 0 by unfold roomE; rw [edAt_of hhf])
      have x2 := hc1 2 (by decide)
      simp only [edR, Nat.add_zero, List.getElem?_cons_zero, List.getElem?_cons_succ] at x2
      generalize fl.getD (I / 2) 0 = x at *
      generalize es[I / 2].c = q at *
      clear hc1 hr hlen hh hi
      have n0 := cell_of (hs.cells 0 rfl) 0
      have n1 := cell_of (hs.cells 0 rfl) 1
      simp only [List.getElem?_toArray, List.getElem?_cons_zero, List.getElem?_cons_succ] at n0 n1
      cases ho : oddB I
      · rw [ho] at HEE
        have hev := even_yes ho
        go_wp2_with fail
        refine Mix.region [0, 0, 0, 0, 0, 0, 0, 0, 0, 0, 0, 0, 0, 0] (fun _ => True) (by kernel_rfl) (by kernel_rfl) trivial ?_
        simp only [List.zip_cons_cons, List.zip_nil_right]
        iterate 14 (refine Mix.step0 fun K hK => ?_; go_simp; (try (go_bits; try go_simp)); first | ((with_reducible refine hK _ _ ?_); clear hK K) | ((try (simp only [IntWalk.iteOmega]; try go_simp)); (try go_bits); (with_reducible refine hK _ _ ?_); clear hK K))
        refine Mix.done ?_
        go_wp2_with fail
        go_ret
        exact ⟨by rw [HE.out, HEE.out]; rfl, hs.drew.below⟩
      · rw [ho] at HEE
        have hev := even_no ho
        go_wp2_with fail
        go_ret
        exact ⟨by rw [HE.out, HEE.out]; rfl, hs.below⟩

set_option maxHeartbeats 2000000 in
theorem rpush_any (n : Int) (a : Option Addr) (c : Nat) (es : List Ed) (v : Value) (fl : List Int) (i b : Int) (w : World) (h : RdG edR w (.slice a es.length c) es) (h' : Rd .i64 w v fl) (hsm : es.length ≤ 100000) :
    Calls Try.prog 18 #[.agg #[.int .i64 n, .slice a es.length c], v, .int .i64 i, .int .i64 b] w fun en w' => ∃ u, en = .returned (.tuple #[u, .int .i64 (pushE n es fl i b)]) ∧ Sep w w' [intsT .i64 2 u (pushV n es fl i b)] := by
  obtain ⟨i0, hi0, hz0, hz1, hz2⟩ := info_parts Try.infoI64r
  have hs := (Sep.start w).newCells #[.int .i64 n, .slice a es.length c] 24
  obtain ⟨a', c', rfl⟩ := h'.shape
  go_enter Try.func18, Try.ntmps18
  go_wp2_with fail
  refine (rwithin_any n a c es _ fl _ (hs.rdG h) (hs.rd h')).mono ?_
  rintro en w1 ⟨rfl, hb⟩
  replace hs := hs.belowStep hb
  clear hb; (try clear n0 n1)
  cases hr : withinB n es fl
  · have HE := Lib.hid (pushE_no (n := n) (es := es) (fl := fl) (a := i) (b := b) (.inr (.inr hr)))
    clear hr
    go_wp2_with fail
    go_ret2
    exact ⟨_, by rw [HE.out.1]; rfl, by rw [HE.out.2]; exact hs.tail.nilInts _ _⟩
  · have HR := Lib.hid hr
    clear hr
    have n0 := cell_of (hs.cells 0 rfl) 0
    have n1 := cell_of (hs.cells 0 rfl) 1
    simp only [List.getElem?_toArray, List.getElem?_cons_zero, List.getElem?_cons_succ] at n0 n1
    go_wp2_with fail
    refine (rhas_any n a es.length c i _ (by omega)).mono ?_
    rintro en w2 ⟨rfl, hb⟩
    replace hs := hs.belowStep hb
    clear hb; (try clear n0 n1)
    cases hh : hasB es.length i
    · have HE := Lib.hid (pushE_no (n := n) (es := es) (fl := fl) (a := i) (b := b) (.inr (.inl hh)))
      clear hh
      go_wp2_with fail
      go_ret2
      exact ⟨_, by rw [HE.out.1]; rfl, by rw [HE.out.2]; exact hs.tail.nilInts _ _⟩
    · by_cases hb0 : b < 0
      · have HE := Lib.hid (pushE_no (n := n) (es := es) (fl := fl) (a := i) (b := b) (.inl hb0))
        clear hh
        go_wp2_with fail
        go_ret2
        exact ⟨_, by rw [HE.out.1]; rfl, by rw [HE.out.2]; exact hs.tail.nilInts _ _⟩
      · have hi := (hasB_iff _ _).1 hh
        obtain ⟨I, rfl⟩ : ∃ I : Nat, i = I := ⟨i.toNat, by omega⟩
        have HH := Lib.hid hh
        have HRV := Lib.hid (show roomV n es fl I = roomE es fl I by simp [roomV, hh, HR.out])
        clear hi hh
        have n0 := cell_of (hs.cells 0 rfl) 0
        have n1 := cell_of (hs.cells 0 rfl) 1
        simp only [List.getElem?_toArray, List.getElem?_cons_zero, List.getElem?_cons_succ] at n0 n1
        go_wp2_with fail
        refine (rroom_any n a c es _ fl I _ (hs.rdG h) (hs.rd h') hsm).mono ?_
        rintro en w3 ⟨rfl, hb⟩
        rw [HRV.out]
        replace hs := hs.belowStep hb
        clear hb; (try clear n0 n1)
        by_cases hbr : roomE es fl I < b
        · have HE := Lib.hid (pushE_full (n := n) (es := es) (fl := fl) (a := I) (b := b) (by omega) HH.out HR.out (by simpa using hbr))
          go_wp2_with fail
          go_ret2
          exact ⟨_, by rw [HE.out.1]; rfl, by rw [HE.out.2]; exact hs.tail.nilInts _ _⟩
        · have HE := Lib.hid (pushE_ok (n := n) (es := es) (fl := fl) (a := I) (b := b) (by omega) HH.out HR.out (by simpa using hbr))
          have hlen := (within_cap HR.out).1
          have hl2 := (right_cap (within_cap HR.out).2.1).2.2.1
          have hhalf := has_half HH.out
          have hhf : I / 2 < fl.length := by omega
          have hrb := room_bound HR.out HH.out
          obtain ⟨y0, y1⟩ := within_at HR.out hhalf
          have he := (edgeB_iff _ _).1 ((right_cap (within_cap HR.out).2.1).2.2.2.2 _ (List.getElem_mem hhalf))
          have b1 : b ≤ 4503599627370496 := by omega
          have y2 : fl.getD (I / 2) 0 ≤ 4503599627370496 := by omega
          have hfl : fl.length ≤ 1000000 := by omega
          clear hlen hl2 hrb he hhalf y1
          replace hs := hs.litInts .i64 2 [] (by simp [maxLen])
          simp only [List.map_cons, List.map_nil, List.length_cons, List.length_nil, Nat.reduceAdd, World.size_alloc] at hs
          go_wp2_with (at_builtin; refine wpList_appRd rfl (.tmp 31) (.tmp 32) 25 rfl 2 i0 _ 8 Try.underlying25 hi0 hz0 hz1 hz2 rfl _ [] .i64 _ fl hs 0 rfl (hs.rd h') rfl rfl ?c3 ?c4 ?grow)
          case c3 => (try simp); (try simp only [maxLen]); (try omega)
          case c4 => (try simp); (try simp only [maxLen]); (try omega)
          case grow =>
            intro vo w4 hs3
            (try simp only [List.set_cons_zero, List.nil_append] at hs3)
            clear hs
            obtain ⟨g, cp, rfl, hg, hcR, hfr⟩ := (hs3.ints 0 rfl).get (I / 2) hhf
            have r0 := hcR (I / 2) hhf
            have r1 := hfr (I / 2)
            have HT := Lib.hid (fun q : Int => (hs3.setInts (j := I / 2) 0 rfl q).takeN 1)
            have HP := Lib.hid (show pushL fl I b = fl.set (I / 2) (fl.getD (I / 2) 0 + sgn I b) from rfl)
            generalize fl.getD (I / 2) 0 = x at *
            clear hcR hfr
            cases ho : oddB I
            · have HS := Lib.hid (show sgn I b = b by simp [sgn, ho])
              have hev := even_yes ho
              go_wp2_with fail
              go_wp2_with fail
              go_ret2
              refine ⟨_, by rw [HE.out.1]; rfl, ?_⟩
              rw [HE.out.2]
              simp only [Int.toNat_natCast]
              rw [HP.out, HS.out]; exact (HT.out _)
            · have HS := Lib.hid (show sgn I b = -b by simp [sgn, ho])
              have hev := even_no ho
              go_wp2_with fail
              go_ret2
              refine ⟨_, by rw [HE.out.1]; rfl, ?_⟩
              rw [HE.out.2]
              simp only [Int.toNat_natCast]
              rw [HP.out, HS.out]; exact (HT.out _)
end Go.Proofs.Ytmfjfhmoljnnkaa
