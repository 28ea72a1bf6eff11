/-
  The reference's nets (gabletref11), walked: Over.
-/
import Derived.Test.YtlbpkfjebaelpaaNRef3W
import Derived.Test.YtlbpkfjebaelpaaNOver
namespace Go.Proofs.Ytlbpkfjebaelpaa
open Go Go.RowKit Go.Mem Go.NetP

theorem Try.infoI64 : (Try.prog.info? 2).map (fun i => (i.zero, i.size, i.bytes)) = some (some (.int .i64 0), 1, 8) := by kernel_rfl

set_option maxRecDepth 100000 in
set_option maxHeartbeats 4000000 in
theorem rover_any (n : Int) (a : Option Addr) (c : Nat) (es : List Ed) (v : Value) (fl : List Int) (w : World) (h : RdG edR w (.slice a es.length c) es) (h' : Rd .i64 w v fl) :
    Calls Try.prog 34 #[.agg #[.int .i64 n, .slice a es.length c], v] w fun en w' => ∃ u, en = .returned u ∧ Sep w w' [intsT .i64 2 u (overV n es fl)] := by
  have hle := h'.le'
  obtain ⟨a', c', rfl⟩ := h'.shape
  obtain ⟨i0, hi0, hz0, hz1, hz2⟩ := info_parts Try.infoI64
  have hs0 := (Sep.start w).newCells #[.int .i64 n, .slice a es.length c] 28
  go_enter Try.func34, Try.ntmps34
  go_wp2_with fail
  refine (rwithin_any _ _ _ es _ fl _ (hs0.rdG h) (hs0.rd h')).mono ?_
  rintro en w1 ⟨rfl, hb1⟩
  have hs1 := hs0.belowStep hb1
  clear hs0 hb1
  cases hr : withinB n es fl
  · have H := Lib.hid (show overV n es fl = [] by simp [overV, hr])
    clear hr
    go_wp2_with fail
    go_ret
    exact ⟨_, rfl, by rw [H.out]; exact hs1.tail.nilInts _ _⟩
  · have HR := Lib.hid hr
    have HL := Lib.hid (within_cap hr).1
    obtain ⟨k1, k2, k3, _, _⟩ := right_cap (within_cap hr).2.1
    obtain ⟨N, rfl⟩ : ∃ N : Nat, n = N := ⟨n.toNat, by omega⟩
    have HV := Lib.hid (show overV N es fl = overL N es fl by simp [overV, hr])
    have kN : N ≤ 40 := by omega
    clear hr
    have fin : ∀ W L, Sep w W (L ++ [cellsT w.heap.size #[.int .i64 N, .slice a es.length c] 28]) → W.cell? ⟨w.heap.size, 0, none⟩ = some (.int .i64 N) ∧ W.cell? ⟨w.heap.size, 1, none⟩ = some (.slice a es.length c) :=
      fun W L h => by
        have hi : (L ++ [cellsT w.heap.size #[.int .i64 N, .slice a es.length c] 28])[L.length]? = some (cellsT w.heap.size #[.int .i64 N, .slice a es.length c] 28) := by simp
        exact ⟨cell_of (h.cells L.length hi) 0, cell_of (h.cells L.length hi) 1⟩
    have FIN := Lib.hid fin
    obtain ⟨n0, n1⟩ := fin _ [] hs1
    clear fin
    go_wp2_with (at_make; refine wpList_makeInts rfl (.tmp 13) (.tmp 13) 22 rfl 2 i0 .i64 8 Try.underlying22 hi0 hz0 hz1 hz2 N .i64 .i64 rfl rfl hs1 ?m1 ?m2 ?m3)
    case m1 => (try simp); (try simp only [maxLen]); (try omega)
    case m2 => (try simp); (try simp only [maxLen]); (try omega)
    case m3 =>
      intro w2 g hs2
      clear hs1 n0 n1
      go_wp2_with fail
      refine wp_loopM [none, none, none, none, none, none, some 6, some 7, none, none, none, none, none, none, none, some 15, some 16, some 17, some 18, some 19, some 20, some 21, some 22, some 23, some 24, some 25, some 26, some 27, some 28, some 29, some 30, some 31, some 32, some 33, some 34, some 35, some 36, some 37, some 38, some 39, some 40, some 41, some 42, some 43, some 44, some 45, some 46, some 47, some 48, some 49, some 50, some 51, some 52, some 53, some 54, some 55, some 56, some 57, some 58, some 59, some 60, some 61, some 62, some 63, some 64, some 65, some 66, none] (fun (r : Nat) (f : Nat → Value) (wr : World) => (fun (v : Value) => ∃ p : Nat, v = .int .i64 p ∧ p ≤ N ∧ r = N - p ∧ Sep w wr [intsT .i64 2 (.slice (some ⟨g, 0, none⟩) N N) (pre N es fl p), cellsT w.heap.size #[.int .i64 N, .slice a es.length c] 28]) (f 6)) (N) (by kernel_rfl) ?atStart1 ?round1
      case' atStart1 => (try dsimp only [nthV])
      case' round1 =>
        intro gk f wr l hl hrel J1 K1 hJ1 hK1
        (try simp only [mask] at hl)
        generalize f 6 = u6 at hl hrel
        subst hl
        (try dsimp only at hrel)
      case atStart1 => exact ⟨0, rfl, Nat.zero_le _, rfl, by simpa [pre] using hs2⟩
      case round1 =>
        clear hs2
        obtain ⟨p, rfl, hp, rfl, hs⟩ := hrel
        obtain ⟨n0, n1⟩ := FIN.out _ [_] hs
        by_cases hlt : p < N
        · rw [row_start hlt] at hs
          go_wp2_with fail
          refine wp_loopM [none, none, none, none, none, none, none, some 7, none, none, none, none, none, none, none, none, none, none, none, none, none, some 21, some 22, some 23, some 24, some 25, some 26, some 27, some 28, some 29, some 30, some 31, some 32, some 33, some 34, some 35, some 36, some 37, some 38, some 39, some 40, some 41, some 42, some 43, some 44, some 45, some 46, some 47, some 48, some 49, some 50, some 51, some 52, some 53, some 54, some 55, some 56, some 57, some 58, some 59, some 60, some 61, some 62, some 63, some 64, some 65, some 66, none] (fun (r : Nat) (f : Nat → Value) (wr : World) => (fun (v : Value) => ∃ i : Nat, v = .int .i64 i ∧ i ≤ fl.length ∧ r = fl.length - i ∧ Sep w wr [intsT .i64 2 (.slice (some ⟨g, 0, none⟩) N N) (row N es fl p (overAt es fl p i)), cellsT w.heap.size #[.int .i64 N, .slice a es.length c] 28]) (f 7)) (fl.length) (by kernel_rfl) ?atStart2 ?round2
          case' atStart2 => (try dsimp only [nthV])
          case' round2 =>
            intro gk f wr l hl hrel J2 K2 hJ2 hK2
            (try simp only [mask] at hl)
            generalize f 7 = u7 at hl hrel
            subst hl
            (try dsimp only at hrel)
          case atStart2 => exact ⟨0, rfl, Nat.zero_le _, rfl, hs⟩
          case round2 =>
            clear hs n0 n1
            obtain ⟨i, rfl, hi, rfl, hs⟩ := hrel
            obtain ⟨n0, n1⟩ := FIN.out _ [_] hs
            by_cases hlf : i < fl.length
            · have hle2 : i < es.length := by rw [← HL.out]; exact hlf
              obtain ⟨b1, o1, e1, hb1, hc1⟩ := (hs.rdG h).at i hle2
              obtain ⟨b2, o2, e2, hb2, hx⟩ := (hs.rd h').at i hlf
              subst e1; subst e2
              have c0 := hc1 0 (by decide)
              have c1 := hc1 1 (by decide)
              obtain ⟨x0, x1⟩ := within_at HR.out hle2
              obtain ⟨_, _, _, _, hed⟩ := right_cap (within_cap HR.out).2.1
              have hq := (edgeB_iff _ _).1 (hed _ (List.getElem_mem hle2))
              obtain ⟨_, _, q0, q1, _, _⟩ := hq
              have HSS := Lib.hid (overAt_succ es fl p i)
              rw [edAt_of hle2] at HSS
              obtain ⟨s0, s1⟩ := overAt_bound HR.out p i (by omega)
              obtain ⟨e, hee⟩ : ∃ e, e = es[i] := ⟨_, rfl⟩
              rw [← hee] at c0 c1 HSS x1 q0 q1
              simp only [edR, Nat.add_zero, List.getElem?_cons_zero, List.getElem?_cons_succ] at c0 c1
              obtain ⟨x, hxe⟩ : ∃ x, x = fl.getD i 0 := ⟨_, rfl⟩
              rw [← hxe] at hx HSS x0 x1
              generalize hS : overAt es fl p i = S at *
              have HS := Lib.hid hS
              have HEE := Lib.hid hee
              have HXE := Lib.hid hxe
              clear hc1 hee hxe hS hed
              have hrl : (row N es fl p S).length = N := row_length hlt
              obtain ⟨g2, cp, eg, hg, hcR, hfr⟩ := (hs.ints 0 rfl).get p (by rw [hrl]; exact hlt)
              injection eg with eg1 eg2 eg3
              clear eg2 eg3
              injection eg1 with eg1
              injection eg1 with eg1
              subst eg1
              have r0 := hcR p (by rw [hrl]; exact hlt)
              rw [row_get] at r0
              clear hcR hrl
              have hxb : x ≤ 4503599627370496 := by omega
              go_upto_if 34 with fail
              refine wp_cutM [none, none, none, none, none, none, none, none, none, none, none, none, none, none, none, none, none, none, none, none, none, none, none, none, none, none, none, some 27, some 28, some 29, some 30, some 31, some 32, some 33, some 34, some 35, some 36, some 37, some 38, some 39, some 40, some 41, some 42, some 43, some 44, some 45, some 46, none, none, none, none, none, none, none, none, none, none, none, none, none, none, none, none, none, none, none, none, none] (fun (f : Nat → Value) (W2 : World) => Sep w W2 [intsT .i64 2 (.slice (some ⟨g, 0, none⟩) N N) (row N es fl p (S + gain (decide (e.t = p)) x)), cellsT w.heap.size #[.int .i64 N, .slice (some ⟨b1, o1, none⟩) es.length c] 28]) ?first3 ?rest3
              case' first3 => intro JC KC hJC hKC
              case' rest3 =>
                intro f wr l hl hrel
                (try simp only [mask] at hl)
                subst hl
                (try dsimp only at hrel)
              case first3 =>
                by_cases ht : e.t = p
                · have HT := Lib.hid (show gain (decide (e.t = p)) x = x by simp [gain, ht])
                  have ht' : (e.t == (p : Int)) = true := by simpa using ht
                  clear ht
                  go_wp2_with fail
                  refine Mix.region [0, 0, 0, 0, 0, 0, 0, 0, 0, 0, 0, 0, 2] (fun _ => True) (by kernel_rfl) (by kernel_rfl) trivial ?_
                  simp only [List.zip_cons_cons, List.zip_nil_right]
                  iterate 12 (refine Mix.step0 fun K hK => ?_; go_simp; (try (go_bits; try go_simp)); first | ((with_reducible refine hK _ _ ?_); clear hK K) | ((try (simp only [IntWalk.iteOmega]; try go_simp)); (try go_bits); (with_reducible refine hK _ _ ?_); clear hK K))
                  refine Mix.step2n (by first | rfl | simp [Region.wanted, yielded]) fun K hK => ?_
                  go_wp2_with fail
                  generalize hW : World.drew _ = WB
                  have hsB : Sep w WB [intsT .i64 2 (.slice (some ⟨g, 0, none⟩) N N) ((row N es fl p S).set p (S + x)), cellsT w.heap.size #[.int .i64 N, .slice (some ⟨b1, o1, none⟩) es.length c] 28] := by rw [← hW]; exact (hs.setInts 0 rfl _).drew
                  rw [row_set] at hsB
                  clear hW hfr r0
                  refine Mix.post_mk (C := (fun _ => True)) trivial (hK _ _ ?_)
                  clear hK K
                  refine Mix.done ?_
                  go_wp2_with fail
                  refine Meet.intro (by kernel_rfl) (hJC _ _ ?rel4)
                  case' rel4 => (try dsimp only [nthV])
                  rw [HT.out]; exact hsB
                · have HT := Lib.hid (show gain (decide (e.t = p)) x = 0 by simp [gain, ht])
                  have ht' : (e.t == (p : Int)) = false := by simpa using ht
                  clear ht
                  go_wp2_with fail
                  refine Meet.intro (by kernel_rfl) (hJC _ _ ?rel5)
                  case' rel5 => (try dsimp only [nthV])
                  rw [HT.out, Int.add_zero]; exact hs
              case rest3 =>
                clear hs hx c0 c1 r0 hfr hg n0 n1
                have hs := hrel
                clear hrel
                obtain ⟨n0, n1⟩ := FIN.out _ [_] hs
                obtain ⟨p0, p1⟩ := gain_bound (decide (e.t = p)) x x0
                generalize hT : S + gain (decide (e.t = p)) x = T at *
                have HT := Lib.hid hT
                have t0 : -(i * 4503599627370496 : Int) ≤ T := by omega
                have t1 : T ≤ i * 4503599627370496 + 4503599627370496 := by omega
                clear hT
                have hrl : (row N es fl p T).length = N := row_length hlt
                obtain ⟨g2, cp, eg, hg, hcR, hfr⟩ := (hs.ints 0 rfl).get p (by rw [hrl]; exact hlt)
                injection eg with eg1 eg2 eg3
                clear eg2 eg3
                injection eg1 with eg1
                injection eg1 with eg1
                subst eg1
                have r0 := hcR p (by rw [hrl]; exact hlt)
                rw [row_get] at r0
                clear hcR hrl
                obtain ⟨b3, o3, e3, _, hc1⟩ := (hs.rdG h).at i hle2
                obtain ⟨b4, o4, e4, _, hx⟩ := (hs.rd h').at i hlf
                injection e3 with e3
                injection e3 with e3 e3'
                injection e4 with e4
                injection e4 with e4 e4'
                subst e3; subst e3'; subst e4; subst e4'
                have c0 := hc1 0 (by decide)
                rw [← HEE.out] at c0
                rw [← HXE.out] at hx
                simp only [edR, Nat.add_zero, List.getElem?_cons_zero, List.getElem?_cons_succ] at c0
                clear hc1
                by_cases hf : e.f = p
                · have HG := Lib.hid (show gain (decide (e.f = p)) x = x by simp [gain, hf])
                  have hf' : (e.f == (p : Int)) = true := by simpa using hf
                  clear hf
                  go_wp2_with fail
                  refine Mix.region [0, 0, 0, 0, 0, 0, 0, 0, 0, 0, 0, 0, 2] (fun _ => True) (by kernel_rfl) (by kernel_rfl) trivial ?_
                  simp only [List.zip_cons_cons, List.zip_nil_right]
                  iterate 12 (refine Mix.step0 fun K hK => ?_; go_simp; (try (go_bits; try go_simp)); first | ((with_reducible refine hK _ _ ?_); clear hK K) | ((try (simp only [IntWalk.iteOmega]; try go_simp)); (try go_bits); (with_reducible refine hK _ _ ?_); clear hK K))
                  refine Mix.step2n (by first | rfl | simp [Region.wanted, yielded]) fun K hK => ?_
                  go_wp2_with fail
                  generalize hW : World.drew _ = WB
                  have hsB : Sep w WB [intsT .i64 2 (.slice (some ⟨g, 0, none⟩) N N) ((row N es fl p T).set p (T - x)), cellsT w.heap.size #[.int .i64 N, .slice (some ⟨b1, o1, none⟩) es.length c] 28] := by rw [← hW]; exact (hs.setInts 0 rfl _).drew
                  rw [row_set] at hsB
                  clear hW hfr r0
                  refine Mix.post_mk (C := (fun _ => True)) trivial (hK _ _ ?_)
                  clear hK K
                  refine Mix.done ?_
                  go_wp2_with fail
                  refine Round.intro (fl.length - (i + 1)) ?measure6 (by kernel_rfl) (hJ2 _ _ _ ?rel6)
                  case' rel6 => (try dsimp only [nthV])
                  case measure6 => omega
                  case rel6 => exact ⟨i + 1, by go_num, hlf, rfl, by rw [HSS.out, HG.out]; exact hsB⟩
                · have HG := Lib.hid (show gain (decide (e.f = p)) x = 0 by simp [gain, hf])
                  have hf' : (e.f == (p : Int)) = false := by simpa using hf
                  clear hf
                  go_wp2_with fail
                  refine Round.intro (fl.length - (i + 1)) ?measure7 (by kernel_rfl) (hJ2 _ _ _ ?rel7)
                  case' rel7 => (try dsimp only [nthV])
                  case measure7 => omega
                  case rel7 => exact ⟨i + 1, by go_num, hlf, rfl, by rw [HSS.out, HG.out, Int.sub_zero]; exact hs⟩
            · have hif : i = fl.length := by omega
              rw [hif, row_end] at hs
              clear hif
              go_wp2_with fail
              refine Round.intro (N - (p + 1)) ?measure8 (by kernel_rfl) (hJ1 _ _ _ ?rel8)
              case' rel8 => (try dsimp only [nthV])
              case measure8 => omega
              case rel8 => exact ⟨p + 1, by go_num, hlt, rfl, hs⟩
        · obtain rfl : p = N := by omega
          rw [pre_end, ← HV.out] at hs
          have hs3 := hs.takeN 1
          go_wp2_with fail
          go_ret
          exact ⟨_, rfl, hs3⟩
end Go.Proofs.Ytlbpkfjebaelpaa
