/-
  The reference of paths, walked.
-/
import Derived.Test.YtfafecgnjjkagaaRA
import Derived.Test.YtfafecgnjjkagaaPA
import Derived.Test.YtfafecgnjjkagaaPC
namespace Go.PathP
open Go Go.Mem Go.NetP Go.RestP Go.CertP
theorem RS.start (n : Nat) (zs : List Int) {D : List Int} (hl : D.length = n) (h : ∀ v, v < n → g D v = -1) : RS n zs 0 D := ⟨hl, fun z hz => by simp at hz, fun v hv => .inr ⟨by simp, h v hv⟩⟩
theorem from_no {n : Nat} {zs : List Int} {k : Nat} (hk : k < zs.length) (h : zs.getD k 0 < 0 ∨ (n : Int) ≤ zs.getD k 0) : fromB n zs = false := by
  have e : zs.getD k 0 = zs[k] := by rw [List.getD_eq_getElem?_getD, List.getElem?_eq_getElem hk]; rfl
  rw [Bool.eq_false_iff]; intro q
  simp only [fromB, Bool.and_eq_true] at q
  have := nodeI_iff.1 (List.all_eq_true.1 q.1 _ (List.getElem_mem hk))
  omega
theorem RS.isB {n : Nat} {zs : List Int} {D : List Int} (h : RS n zs zs.length D) (hz : 0 < zs.length) : fromB n zs = true := by
  have ha := h.all_
  rw [List.take_length] at ha
  simp only [fromB, Bool.and_eq_true]
  refine ⟨List.all_eq_true.2 fun z hz => nodeI_iff.2 (ha z hz), decide_eq_true fun e => ?_⟩
  subst e; simp at hz
theorem RS.at_end {n : Nat} {zs : List Int} {D : List Int} (h : RS n zs zs.length D) : ∀ v, v < n → (v ∈ fromN zs ∧ g D v = 0) ∨ (¬ v ∈ fromN zs ∧ g D v = -1) := by
  have := h.at_
  rw [List.take_length] at this
  exact this
end Go.PathP
namespace Go.Proofs.Ytfafecgnjjkagaa
open Go Go.RowKit Go.Mem Go.NetP Go.RestP Go.CertP Go.PathP Go.Shelf
/-- The reference's numbers. -/
def refL (b1 b2 b3 N nb : Nat) (cs : Array Value) (D H B : List Int) : List Thing :=
  [intsT .i64 3 (.slice (some ⟨b3, 0, none⟩) N N) B, intsT .i64 3 (.slice (some ⟨b2, 0, none⟩) N N) H, intsT .i64 2 (.slice (some ⟨b1, 0, none⟩) N N) D, cellsT nb cs 24]
set_option maxRecDepth 100000 in
set_option maxHeartbeats 6000000 in
theorem rways_any (nn : Int) (a : Option Addr) (c : Nat) (es : List Ed) (vf vp vs : Value) (fl pot zs : List Int) (w : World) (h : RdG edR w (.slice a es.length c) es) (hf : Rd .i64 w vf fl) (hp : Rd .i64 w vp pot) (hz : Rd .i64 w vs zs) (hsm : zs.length ≤ 1000) :
    Calls Try.prog 12 #[.agg #[.int .i64 nn, .slice a es.length c], vf, vp, vs] w fun en w' => WaysP nn es fl pot zs w en w' := by
  obtain ⟨af, cf, rfl⟩ := hf.shape
  obtain ⟨ap, cp, rfl⟩ := hp.shape
  obtain ⟨az, cz, rfl⟩ := hz.shape
  obtain ⟨i0, hi0, hi1, hi2, hi3⟩ := info_parts Try.infoI64w
  obtain ⟨j0, hj0, hj1, hj2, hj3⟩ := info_parts Try.infoIntw
  have hs := (Sep.start w).newCells #[.int .i64 nn, .slice a es.length c] 24
  have HW := Lib.hid (rfits_any nn a c es _ fl _ pot _ (hs.rdG h) (hs.rd hf) (hs.rd hp))
  have n0 := cell_of (hs.cells 0 rfl) 0
  have n1 := cell_of (hs.cells 0 rfl) 1
  simp only [List.getElem?_toArray, List.getElem?_cons_zero, List.getElem?_cons_succ] at n0 n1
  go_enter Try.func12, Try.ntmps12
  go_wp2_with fail
  refine HW.out.mono ?_
  rintro en w2 ⟨rfl, hb⟩
  replace hs := hs.belowStep hb
  clear hb HW n0 n1
  cases hfit : fitsB nn es fl pot
  · have HF := Lib.hid (show (fitsB nn es fl pot && fromB nn.toNat zs) = false by rw [hfit]; rfl)
    clear hfit
    go_wp2_with fail
    go_ret3
    exact .inl ⟨HF.out, rfl, hs.below⟩
  obtain ⟨hw, hr, hp', _⟩ := fits_parts hfit
  have HFIT := Lib.hid hfit
  by_cases hz0 : zs.length = 0
  · have e1 : ((zs.length : Int) == 0) = true := by rw [hz0]; rfl
    have HF := Lib.hid (show (fitsB nn es fl pot && fromB nn.toNat zs) = false by
      have : zs = [] := List.length_eq_zero_iff.1 hz0
      subst this
      simp [fromB])
    clear hfit hw hr hp' hz0
    go_wp2_with fail
    go_ret3
    exact .inl ⟨HF.out, rfl, hs.below⟩
  have e1 : ((zs.length : Int) == 0) = false := by rw [beq_eq_false_iff_ne]; omega
  have HZ0 := Lib.hid (show 0 < zs.length by omega)
  obtain ⟨hn1, hn40, hes, _, _⟩ := right_cap hr
  obtain ⟨N, rfl⟩ : ∃ N : Nat, nn = N := ⟨nn.toNat, by omega⟩
  have hN : N ≤ 40 := by omega
  have HWI := Lib.hid hw
  have HR := Lib.hid hr
  have HPB := Lib.hid hp'
  have HLEN := Lib.hid (show fl.length = es.length from by
    simp only [withinB, Bool.and_eq_true, decide_eq_true_eq] at hw; omega)
  have hf200 : fl.length ≤ 200 := by have := HLEN.out; omega
  clear hw hr hp' hfit hz0
  have n0 := cell_of (hs.cells 0 rfl) 0
  have n1 := cell_of (hs.cells 0 rfl) 1
  simp only [List.getElem?_toArray, List.getElem?_cons_zero, List.getElem?_cons_succ] at n0 n1
  go_wp2_with (at_make; refine wpList_makeInts rfl (.tmp 38) (.tmp 38) 25 rfl 2 i0 .i64 8 Try.underlying25 hi0 hi1 hi2 hi3 N .i64 .i64 rfl rfl hs ?m1 ?m2 ?m3)
  case m1 => (try simp); (try simp only [maxLen]); (try omega)
  case m2 => (try simp); (try simp only [maxLen]); (try omega)
  case m3 =>
    intro w3 b1 hs1
    clear hs n0 n1 e1
    have hs := hs1
    clear hs1
    have n0 := cell_of (hs.cells 1 rfl) 0
    have n1 := cell_of (hs.cells 1 rfl) 1
    simp only [List.getElem?_toArray, List.getElem?_cons_zero, List.getElem?_cons_succ] at n0 n1
    go_wp2_with (at_make; refine wpList_makeInts rfl (.tmp 41) (.tmp 41) 26 rfl 3 j0 .i64 8 Try.underlying26 hj0 hj1 hj2 hj3 N .i64 .i64 rfl rfl hs ?m1 ?m2 ?m3)
    case m1 => (try simp); (try simp only [maxLen]); (try omega)
    case m2 => (try simp); (try simp only [maxLen]); (try omega)
    case m3 =>
      intro w4 b2 hs1
      clear hs n0 n1
      have hs := hs1
      clear hs1
      have n0 := cell_of (hs.cells 2 rfl) 0
      have n1 := cell_of (hs.cells 2 rfl) 1
      simp only [List.getElem?_toArray, List.getElem?_cons_zero, List.getElem?_cons_succ] at n0 n1
      go_wp2_with (at_make; refine wpList_makeInts rfl (.tmp 44) (.tmp 44) 26 rfl 3 j0 .i64 8 Try.underlying26 hj0 hj1 hj2 hj3 N .i64 .i64 rfl rfl hs ?m1 ?m2 ?m3)
      case m1 => (try simp); (try simp only [maxLen]); (try omega)
      case m2 => (try simp); (try simp only [maxLen]); (try omega)
      case m3 =>
        intro w5 b3 hs1
        clear hs n0 n1
        obtain ⟨nb, hnb⟩ : ∃ nb, nb = w.heap.size := ⟨_, rfl⟩
        rw [← hnb] at hs1 ⊢
        clear hnb
        replace hs1 : Sep w w5 (refL b1 b2 b3 N nb #[.int .i64 N, .slice a es.length c] (List.replicate N 0) (List.replicate N 0) (List.replicate N 0)) := hs1
        go_wp2_with fail
        refine wp_loopM [none, none, none, none, none, none, none, none, none, none, none, none, none, none, some 14, none, none, none, none, none, none, none, none, none, none, none, none, none, none, none, none, none, none, none, none, none, none, none, none, none, none, none, none, none, none, none, some 46, some 47, some 48, some 49, some 50, some 51, some 52, some 53, some 54, some 55, some 56, some 57, none, none, none, none, none, none, none, none, none, none, none, none, none, none, none, none, none, none, none, none, none, none, none, none, none, none, none, none, none, none, none, none, none, none, none, none, none, none, none, none, none, none, none, none, none, none, none, none, none, none, none, none, none, none, none, none, none, none, none, none, none, none, none, none, none, none, none, none, none, none, none, none, none, none, none, none, none, none, none, none, none, none, none, none, none, none, none, none, none, none, none, none, none, none, none, none, none, none, none, none, none, none, none, none, none, none, none, none, none, none, none, none, none, none, none, none, none, none, none, none, none, none, none, none, none, none, none, none, none, none, none, none, none, none, none, none, none, none, none, none, none, none, none, none, none, none, none, none, none, none, none, none, none, none, none, none, none, none, none, none, none, none, none, none, none, none, none, none, none, none, none, none, none, none, none, none, none, none, none, none, none, none, none, none, none, none, none, none, none, none, none] (fun (r : Nat) (f : Nat → Value) (wr : World) => (fun (v : Value) => ∃ (k : Nat) (D B : List Int), v = .int .i64 k ∧ k ≤ N ∧ r = N - k ∧ Hid (D.length = N ∧ B.length = N ∧ ∀ v, v < k → g D v = -1 ∧ g B v = -1) ∧ Sep w wr (refL b1 b2 b3 N nb #[.int .i64 N, .slice a es.length c] D (List.replicate N 0) B)) (f 14)) (N) (by kernel_rfl) ?atStart1 ?round1
        case' atStart1 => (try dsimp only [nthV])
        case' round1 =>
          intro gk f wr l hl hrel J1 K1 hJ1 hK1
          (try simp only [mask] at hl)
          generalize f 14 = u14 at hl hrel
          subst hl
          (try dsimp only at hrel)
        case atStart1 => exact ⟨0, _, _, rfl, Nat.zero_le _, rfl, Lib.hid ⟨by simp, by simp, fun v hv => by omega⟩, hs1⟩
        case round1 =>
          clear hs1
          obtain ⟨k, D, B, rfl, hk, rfl, HDB, hs⟩ := hrel
          have n0 := cell_of (hs.cells 3 rfl) 0
          have n1 := cell_of (hs.cells 3 rfl) 1
          simp only [List.getElem?_toArray, List.getElem?_cons_zero, List.getElem?_cons_succ] at n0 n1
          by_cases hlt : k < N
          · obtain ⟨g', cg', eg, _, hcR, df⟩ := (hs.ints 2 rfl).get k (by rw [HDB.out.1]; exact hlt)
            injection eg with eg q1 q2
            injection eg with eg
            injection eg with eg
            subst eg
            have d0 := hcR k (by rw [HDB.out.1]; exact hlt)
            clear q1 q2 hcR
            go_upto_region 10 with fail
            have hs2 := hs.setInts (j := k) 2 rfl (-1)
            clear hs n0 n1 d0 df
            have hs : Sep w _ (refL b1 b2 b3 N nb #[.int .i64 N, .slice a es.length c] (D.set k (-1)) (List.replicate N 0) B) := hs2
            clear hs2
            obtain ⟨g', cg', eg, _, hcR, df⟩ := (hs.ints 0 rfl).get k (by rw [HDB.out.2.1]; exact hlt)
            injection eg with eg q1 q2
            injection eg with eg
            injection eg with eg
            subst eg
            have d0 := hcR k (by rw [HDB.out.2.1]; exact hlt)
            clear q1 q2 hcR
            go_wp2_with fail
            have hs2 : Sep w _ (refL b1 b2 b3 N nb #[.int .i64 N, .slice a es.length c] (D.set k (-1)) (List.replicate N 0) (B.set k (-1))) := hs.setInts (j := k) 0 rfl (-1)
            clear hs d0 df
            have HDN := Lib.hid (show (D.set k (-1)).length = N ∧ (B.set k (-1)).length = N ∧ ∀ v, v < k + 1 → g (D.set k (-1)) v = -1 ∧ g (B.set k (-1)) v = -1 by
              obtain ⟨q1, q2, q3⟩ := HDB.out
              refine ⟨by rw [List.length_set]; exact q1, by rw [List.length_set]; exact q2, fun v hv => ?_⟩
              rw [g_set (by rw [q1]; exact hlt), g_set (by rw [q2]; exact hlt)]
              by_cases e : k = v
              · subst e; rw [upd_same, upd_same]; exact ⟨rfl, rfl⟩
              · rw [upd_ne _ _ e, upd_ne _ _ e]; exact q3 v (by omega))
            refine Round.intro (N - (k + 1)) ?measure2 (by kernel_rfl) (hJ1 _ _ _ ?rel2)
            case' rel2 => (try dsimp only [nthV])
            case measure2 => omega
            case rel2 => exact ⟨k + 1, _, _, by go_num, hlt, rfl, HDN, hs2⟩
          · obtain rfl : N = k := by omega
            obtain ⟨q1, q2, q3⟩ := HDB.out
            have HRS := Lib.hid (RS.start N zs q1 (fun v hv => (q3 v hv).1))
            have e2 : B = List.replicate N (-1) := ext_g (by rw [q2]; simp) fun v hv => by rw [(q3 v (by omega)).2, g_rep N (-1) (by omega)]
            subst e2
            clear q1 q2 q3 HDB
            go_wp2_with fail
            clear n0 n1
            refine wp_loopM [none, none, none, none, none, none, none, none, some 8, some 9, some 10, none, none, none, none, some 15, none, none, none, none, none, none, none, none, none, none, none, none, none, none, none, none, none, none, none, none, none, none, none, none, none, none, none, none, none, none, none, none, none, none, none, none, none, none, none, none, none, none, some 58, some 59, some 60, some 61, some 62, some 63, some 64, some 65, some 66, some 67, some 68, some 69, some 70, some 71, some 72, some 73, some 74, some 75, some 76, some 77, some 78, some 79, some 80, some 81, some 82, some 83, none, none, none, none, none, none, none, none, none, none, none, none, none, none, none, none, none, none, none, none, none, none, none, none, none, none, none, none, none, none, none, none, none, none, none, none, none, none, none, none, none, none, none, none, none, none, none, none, none, none, none, none, none, none, none, none, none, none, none, none, none, none, none, none, none, none, none, none, none, none, none, none, none, none, none, none, none, none, none, none, none, none, none, none, none, none, none, none, none, none, none, none, none, none, none, none, none, none, none, none, none, none, none, none, none, none, none, none, none, none, none, none, none, none, none, none, none, none, none, none, none, none, none, none, none, none, none, none, none, none, none, none, none, none, none, none, none, none, none, none, none, none, none, none, none, none, none, none, none, none, none, none, none, none, none, none, none, none, none, none, none, none, none, none, none] (fun (r : Nat) (f : Nat → Value) (wr : World) => (fun (v : Value) => ∃ (k : Nat) (D : List Int), v = .int .i64 k ∧ k ≤ zs.length ∧ r = zs.length - k ∧ Hid (RS N zs k D) ∧ Sep w wr (refL b1 b2 b3 N nb #[.int .i64 N, .slice a es.length c] D (List.replicate N 0) (List.replicate N (-1)))) (f 15)) (zs.length) (by kernel_rfl) ?atStart3 ?round3
            case' atStart3 => (try dsimp only [nthV])
            case' round3 =>
              intro gk f wr l hl hrel J2 K2 hJ2 hK2
              (try simp only [mask] at hl)
              generalize f 15 = u15 at hl hrel
              subst hl
              (try dsimp only at hrel)
            case atStart3 => exact ⟨0, _, rfl, Nat.zero_le _, rfl, HRS, hs⟩
            case round3 =>
              clear hs HRS
              obtain ⟨k, D, rfl, hk, rfl, HRS, hs⟩ := hrel
              have n0 := cell_of (hs.cells 3 rfl) 0
              have n1 := cell_of (hs.cells 3 rfl) 1
              simp only [List.getElem?_toArray, List.getElem?_cons_zero, List.getElem?_cons_succ] at n0 n1
              by_cases hlt : k < zs.length
              · obtain ⟨bz, oz, e1, hb1, hc1⟩ := (hs.rd hz).at k hlt
                subst e1
                obtain ⟨X, hX⟩ : ∃ X, X = zs.getD k 0 := ⟨_, rfl⟩
                rw [← hX] at hc1
                have HX := Lib.hid hX
                clear hX
                by_cases hx0 : X < 0
                · have HE := Lib.hid (show fromB N zs = false from from_no hlt (.inl (by rw [← HX.out]; exact hx0)))
                  have d1 : decide (X < 0) = true := decide_eq_true hx0
                  clear hx0
                  go_wp2_with fail
                  refine Mix.region [0, 0, 0, 0, 0, 0, 0, 0, 0, 0, 0, 0, 0, 0] (fun _ => True) (by kernel_rfl) (by kernel_rfl) trivial ?_
                  simp only [List.zip_cons_cons, List.zip_nil_right]
                  iterate 6 (refine Mix.step0 fun K hK => ?_; go_simp; (try (go_bits; try go_simp)); first | ((with_reducible refine hK _ _ ?_); clear hK K) | ((try (simp only [IntWalk.iteOmega]; try go_simp)); (try go_bits); (with_reducible refine hK _ _ ?_); clear hK K))
                  iterate 7 (first | (refine Mix.stepS rfl fun K hK => ?_; go_simp; (with_reducible refine hK _ _ ?_); clear hK K) | (refine Mix.step0 fun K hK => ?_; go_simp; (try (go_bits; try go_simp)); first | ((with_reducible refine hK _ _ ?_); clear hK K) | ((try (simp only [IntWalk.iteOmega]; try go_simp)); (try go_bits); (with_reducible refine hK _ _ ?_); clear hK K)))
                  iterate 1 (refine Mix.step0 fun K hK => ?_; go_simp; (try (go_bits; try go_simp)); first | ((with_reducible refine hK _ _ ?_); clear hK K) | ((try (simp only [IntWalk.iteOmega]; try go_simp)); (try go_bits); (with_reducible refine hK _ _ ?_); clear hK K))
                  refine Mix.done ?_
                  go_wp2_with fail
                  go_ret3
                  exact .inl ⟨by rw [Int.toNat_natCast, HE.out, Bool.and_false], rfl, hs.drew.below⟩
                · have d1 : decide (X < 0) = false := decide_eq_false hx0
                  by_cases hx1 : (N : Int) ≤ X
                  · have HE := Lib.hid (show fromB N zs = false from from_no hlt (.inr (by rw [← HX.out]; exact hx1)))
                    have d2 : decide ((N : Int) ≤ X) = true := decide_eq_true hx1
                    clear hx0 hx1
                    go_wp2_with fail
                    refine Mix.region [0, 0, 0, 0, 0, 0, 0, 0, 0, 0, 0, 0, 0, 0] (fun _ => True) (by kernel_rfl) (by kernel_rfl) trivial ?_
                    simp only [List.zip_cons_cons, List.zip_nil_right]
                    iterate 6 (refine Mix.step0 fun K hK => ?_; go_simp; (try (go_bits; try go_simp)); first | ((with_reducible refine hK _ _ ?_); clear hK K) | ((try (simp only [IntWalk.iteOmega]; try go_simp)); (try go_bits); (with_reducible refine hK _ _ ?_); clear hK K))
                    iterate 7 (first | (refine Mix.stepS rfl fun K hK => ?_; go_simp; (with_reducible refine hK _ _ ?_); clear hK K) | (refine Mix.step0 fun K hK => ?_; go_simp; (try (go_bits; try go_simp)); first | ((with_reducible refine hK _ _ ?_); clear hK K) | ((try (simp only [IntWalk.iteOmega]; try go_simp)); (try go_bits); (with_reducible refine hK _ _ ?_); clear hK K)))
                    iterate 1 (refine Mix.step0 fun K hK => ?_; go_simp; (try (go_bits; try go_simp)); first | ((with_reducible refine hK _ _ ?_); clear hK K) | ((try (simp only [IntWalk.iteOmega]; try go_simp)); (try go_bits); (with_reducible refine hK _ _ ?_); clear hK K))
                    refine Mix.done ?_
                    go_wp2_with fail
                    go_ret3
                    exact .inl ⟨by rw [Int.toNat_natCast, HE.out, Bool.and_false], rfl, hs.drew.below⟩
                  · have d2 : decide ((N : Int) ≤ X) = false := decide_eq_false hx1
                    obtain ⟨u, rfl⟩ : ∃ u : Nat, X = u := ⟨X.toNat, by omega⟩
                    have hu : u < N := by omega
                    have HST := Lib.hid (HRS.out.step hlt HX.out.symm hu)
                    clear hx0 hx1
                    have huI : (u : Int) < N := by omega
                    obtain ⟨g', cg', eg, _, hcR, df⟩ := (hs.ints 2 rfl).get u (by rw [HRS.out.len]; exact hu)
                    injection eg with eg q1 q2
                    injection eg with eg
                    injection eg with eg
                    subst eg
                    have d0 := hcR u (by rw [HRS.out.len]; exact hu)
                    clear q1 q2 hcR
                    go_wp2_with fail
                    refine Mix.region [0, 0, 0, 0, 0, 0, 0, 0, 0, 0, 0, 0, 0, 0] (fun _ => True) (by kernel_rfl) (by kernel_rfl) trivial ?_
                    simp only [List.zip_cons_cons, List.zip_nil_right]
                    iterate 6 (refine Mix.step0 fun K hK => ?_; go_simp; (try (go_bits; try go_simp)); first | ((with_reducible refine hK _ _ ?_); clear hK K) | ((try (simp only [IntWalk.iteOmega]; try go_simp)); (try go_bits); (with_reducible refine hK _ _ ?_); clear hK K))
                    iterate 7 (first | (refine Mix.stepS rfl fun K hK => ?_; go_simp; (with_reducible refine hK _ _ ?_); clear hK K) | (refine Mix.step0 fun K hK => ?_; go_simp; (try (go_bits; try go_simp)); first | ((with_reducible refine hK _ _ ?_); clear hK K) | ((try (simp only [IntWalk.iteOmega]; try go_simp)); (try go_bits); (with_reducible refine hK _ _ ?_); clear hK K)))
                    iterate 1 (refine Mix.step0 fun K hK => ?_; go_simp; (try (go_bits; try go_simp)); first | ((with_reducible refine hK _ _ ?_); clear hK K) | ((try (simp only [IntWalk.iteOmega]; try go_simp)); (try go_bits); (with_reducible refine hK _ _ ?_); clear hK K))
                    refine Mix.done ?_
                    go_wp2_with fail
                    have hs2 : Sep w _ (refL b1 b2 b3 N nb #[.int .i64 N, .slice a es.length c] (D.set u 0) (List.replicate N 0) (List.replicate N (-1))) := hs.drew.setInts (j := u) 2 rfl 0
                    clear hs d0 df n0 n1
                    refine Round.intro (zs.length - (k + 1)) ?measure4 (by kernel_rfl) (hJ2 _ _ _ ?rel4)
                    case' rel4 => (try dsimp only [nthV])
                    case measure4 => omega
                    case rel4 => exact ⟨k + 1, _, by go_num, hlt, rfl, HST, hs2⟩
              · obtain rfl : k = zs.length := by omega
                have HFB := Lib.hid (HRS.out.isB HZ0.out)
                have HNET := Lib.hid (fits_net (n := N) HFIT.out (src := (· ∈ fromN zs)) (from_lt HFB.out))
                have HBF := Lib.hid (BF.start HNET.out HRS.out.len HRS.out.at_end)
                go_wp2_with fail
                clear n0 n1
                refine wp_loopM [none, none, none, none, none, none, none, none, none, none, none, none, none, none, none, none, some 16, some 17, some 18, some 19, some 20, some 21, none, none, none, none, none, none, none, none, none, none, none, none, none, none, none, none, none, none, none, none, none, none, none, none, none, none, none, none, none, none, none, none, none, none, none, none, none, none, none, none, none, none, none, none, none, none, none, none, none, none, none, none, none, none, none, none, none, none, none, none, none, none, some 84, some 85, some 86, some 87, some 88, some 89, some 90, some 91, some 92, some 93, some 94, some 95, some 96, some 97, some 98, some 99, some 100, some 101, some 102, some 103, some 104, some 105, some 106, some 107, some 108, some 109, some 110, some 111, some 112, some 113, some 114, some 115, some 116, some 117, some 118, some 119, some 120, some 121, some 122, some 123, some 124, some 125, some 126, some 127, some 128, some 129, some 130, some 131, some 132, some 133, some 134, some 135, some 136, some 137, some 138, some 139, some 140, some 141, some 142, some 143, some 144, some 145, some 146, some 147, some 148, some 149, some 150, some 151, some 152, some 153, some 154, some 155, some 156, some 157, some 158, some 159, some 160, some 161, some 162, some 163, some 164, some 165, some 166, some 167, some 168, some 169, none, none, none, none, none, none, none, none, none, none, none, none, none, none, none, none, none, none, none, none, none, none, none, none, none, none, none, none, none, none, none, none, none, none, none, none, none, none, none, none, none, none, none, none, none, none, none, none, none, none, none, none, none, none, none, none, none, none, none, none, none, none, none, none, none, none, none, none, none, none, none, none, none, none, none, none, none, none, none] (fun (r : Nat) (f : Nat → Value) (wr : World) => (fun (v : Value) => ∃ (k : Nat) (D H : List Int), v = .int .i64 k ∧ k ≤ N ∧ r = N - k ∧ Hid (BF (arcsL es fl pot) (· ∈ fromN zs) N maxL k [] D H) ∧ Sep w wr (refL b1 b2 b3 N nb #[.int .i64 N, .slice a es.length c] D H (List.replicate N (-1)))) (f 16)) (N) (by kernel_rfl) ?atStart5 ?round5
                case' atStart5 => (try dsimp only [nthV])
                case' round5 =>
                  intro gk f wr l hl hrel J3 K3 hJ3 hK3
                  (try simp only [mask] at hl)
                  generalize f 16 = u16 at hl hrel
                  subst hl
                  (try dsimp only at hrel)
                case atStart5 => exact ⟨0, D, _, rfl, Nat.zero_le _, rfl, HBF, hs⟩
                case round5 =>
                  clear hs HBF HRS
                  obtain ⟨k, D, H, rfl, hk, rfl, HBF, hs⟩ := hrel
                  have n0 := cell_of (hs.cells 3 rfl) 0
                  have n1 := cell_of (hs.cells 3 rfl) 1
                  simp only [List.getElem?_toArray, List.getElem?_cons_zero, List.getElem?_cons_succ] at n0 n1
                  by_cases hlt : k < N
                  · go_wp2_with fail
                    clear n0 n1
                    refine wp_loopM [none, none, none, none, none, none, none, none, none, none, none, none, none, none, none, none, none, some 17, some 18, some 19, some 20, some 21, none, none, none, none, none, none, none, none, none, none, none, none, none, none, none, none, none, none, none, none, none, none, none, none, none, none, none, none, none, none, none, none, none, none, none, none, none, none, none, none, none, none, none, none, none, none, none, none, none, none, none, none, none, none, none, none, none, none, none, none, none, none, none, none, none, none, none, none, some 90, some 91, some 92, some 93, some 94, some 95, some 96, some 97, some 98, some 99, some 100, some 101, some 102, some 103, some 104, some 105, some 106, some 107, some 108, some 109, some 110, some 111, some 112, some 113, some 114, some 115, some 116, some 117, some 118, some 119, some 120, some 121, some 122, some 123, some 124, some 125, some 126, some 127, some 128, some 129, some 130, some 131, some 132, some 133, some 134, some 135, some 136, some 137, some 138, some 139, some 140, some 141, some 142, some 143, some 144, some 145, some 146, some 147, some 148, some 149, some 150, some 151, some 152, some 153, some 154, some 155, some 156, some 157, some 158, some 159, some 160, some 161, some 162, some 163, some 164, some 165, some 166, some 167, some 168, some 169, none, none, none, none, none, none, none, none, none, none, none, none, none, none, none, none, none, none, none, none, none, none, none, none, none, none, none, none, none, none, none, none, none, none, none, none, none, none, none, none, none, none, none, none, none, none, none, none, none, none, none, none, none, none, none, none, none, none, none, none, none, none, none, none, none, none, none, none, none, none, none, none, none, none, none, none, none, none, none] (fun (r : Nat) (f : Nat → Value) (wq : World) => (fun (v : Value) => ∃ (m : Nat) (D H : List Int), v = .int .i64 m ∧ m ≤ 2 * fl.length ∧ r = 2 * fl.length - m ∧ Hid (BF (arcsL es fl pot) (· ∈ fromN zs) N maxL k (arcsN es fl pot m) D H) ∧ Sep w wq (refL b1 b2 b3 N nb #[.int .i64 N, .slice a es.length c] D H (List.replicate N (-1)))) (f 17)) (2 * fl.length) (by kernel_rfl) ?atStart6 ?round6
                    case' atStart6 => (try dsimp only [nthV])
                    case' round6 =>
                      intro gk f wr l hl hrel J4 K4 hJ4 hK4
                      (try simp only [mask] at hl)
                      generalize f 17 = u17 at hl hrel
                      subst hl
                      (try dsimp only at hrel)
                    case atStart6 => exact ⟨0, D, H, rfl, Nat.zero_le _, rfl, HBF, hs⟩
                    case round6 =>
                      clear hs HBF
                      obtain ⟨m, D, H, rfl, hm, rfl, HBF, hs⟩ := hrel
                      by_cases hmt : m < 2 * fl.length
                      · have hme : m < 2 * es.length := by have := HLEN.out; omega
                        have hh : hasB es.length (m : Int) = true := by rw [hasB_iff]; omega
                        have HRO := Lib.hid (room_in HWI.out hh)
                        have HEN := Lib.hid (ends_in HWI.out hh)
                        obtain ⟨hu0, hv0, _, _⟩ := ends_node HR.out hme
                        obtain ⟨U, hU⟩ : ∃ U : Nat, (endsE es m).1 = U := ⟨(endsE es m).1.toNat, by omega⟩
                        obtain ⟨V, hV⟩ : ∃ V : Nat, (endsE es m).2.1 = V := ⟨(endsE es m).2.1.toNat, by omega⟩
                        have hUN : U < N := by omega
                        have hVN : V < N := by omega
                        have HAT := Lib.hid (show PathP.arcAt es pot m = ⟨m, U, V, lenA es pot m⟩ from by unfold PathP.arcAt; rw [hU, hV]; rfl)
                        obtain ⟨C, hC⟩ : ∃ C, C = (endsE es m).2.2 := ⟨_, rfl⟩
                        have HUV := Lib.hid (show (endsE es m).1 = U ∧ (endsE es m).2.1 = V ∧ (endsE es m).2.2 = C from ⟨hU, hV, hC.symm⟩)
                        clear hu0 hv0 hU hV hC hh
                        have n0 := cell_of (hs.cells 3 rfl) 0
                        have n1 := cell_of (hs.cells 3 rfl) 1
                        simp only [List.getElem?_toArray, List.getElem?_cons_zero, List.getElem?_cons_succ] at n0 n1
                        go_wp2_with fail
                        refine (rends_any _ a c es m _ (hs.rdG h) (by omega)).mono ?_
                        rintro en w6 ⟨rfl, hb⟩
                        rw [HEN.out, HUV.out.1, HUV.out.2.1, HUV.out.2.2]
                        clear n0 n1
                        replace hs := hs.belowStep hb
                        clear hb
                        have n0 := cell_of (hs.cells 3 rfl) 0
                        have n1 := cell_of (hs.cells 3 rfl) 1
                        simp only [List.getElem?_toArray, List.getElem?_cons_zero, List.getElem?_cons_succ] at n0 n1
                        go_wp2_with fail
                        refine (rroom_any _ a c es _ fl m _ (hs.rdG h) (hs.rd hf) (by omega)).mono ?_
                        rintro en w7 ⟨rfl, hb⟩
                        rw [HRO.out]
                        clear n0 n1
                        replace hs := hs.belowStep hb
                        clear hb
                        obtain ⟨R, hR⟩ : ∃ R, R = roomE es fl m := ⟨_, rfl⟩
                        rw [← hR]
                        have HRR := Lib.hid hR
                        clear hR
                        by_cases hR0 : R ≤ 0
                        · have d1 : decide (R ≤ 0) = true := decide_eq_true hR0
                          have HST := Lib.hid (HBF.out.skip (by rw [← HRR.out]; exact hR0))
                          clear hR0
                          go_wp2_with fail
                          refine Round.intro (2 * fl.length - (m + 1)) ?measure7 (by kernel_rfl) (hJ4 _ _ _ ?rel7)
                          case' rel7 => (try dsimp only [nthV])
                          case measure7 => omega
                          case rel7 => exact ⟨m + 1, D, H, by go_num, hmt, rfl, HST, hs⟩
                        · have d1 : decide (R ≤ 0) = false := decide_eq_false hR0
                          have HARC := Lib.hid (HBF.out.arc hme (by rw [← HRR.out]; omega))
                          have HNE := Lib.hid (show LabOk N D H from labOk_of HBF.out.real HNET.out hN HBF.out.lD HBF.out.lH)
                          have HLB := Lib.hid (len_bound HR.out HPB.out hme)
                          clear hR0
                          obtain ⟨g', cg', eg, _, hcR, df⟩ := (hs.ints 2 rfl).get U (by rw [HNE.out.lD]; exact hUN)
                          injection eg with eg q1 q2
                          injection eg with eg
                          injection eg with eg
                          subst eg
                          have du := hcR U (by rw [HNE.out.lD]; exact hUN)
                          clear q1 q2 hcR
                          obtain ⟨x, hx⟩ : ∃ x, x = g D U := ⟨_, rfl⟩
                          rw [show D.getD U 0 = x from hx.symm] at du
                          have HX := Lib.hid hx
                          clear hx df
                          by_cases hx0 : x < 0
                          · have d2 : decide (x < 0) = true := decide_eq_true hx0
                            have HST := Lib.hid (HARC.out (D, H) (by rw [HAT.out]; exact (relB_no (by rw [← HX.out]; exact hx0)).symm))
                            clear hx0
                            go_wp2_with fail
                            refine Round.intro (2 * fl.length - (m + 1)) ?measure8 (by kernel_rfl) (hJ4 _ _ _ ?rel8)
                            case' rel8 => (try dsimp only [nthV])
                            case measure8 => omega
                            case rel8 => exact ⟨m + 1, D, H, by go_num, hmt, rfl, HST, hs⟩
                          · have d2 : decide (x < 0) = false := decide_eq_false hx0
                            have hxb : 0 ≤ x ∧ x ≤ 87960942262080 := by have := HNE.out.d U hUN; have := HX.out; omega
                            obtain ⟨hx1, hx2⟩ := hxb
                            clear hx0
                            have n0 := cell_of (hs.cells 3 rfl) 0
                            have n1 := cell_of (hs.cells 3 rfl) 1
                            simp only [List.getElem?_toArray, List.getElem?_cons_zero, List.getElem?_cons_succ] at n0 n1
                            go_wp2_with fail
                            have hCW : (fun W : World => W.cell? ⟨b1, U, none⟩ = some (.int .i64 x)) w7.drew := du
                            refine Mix.region [1, 1, 1, 1, 0, 0, 0, 2, 0, 0] (fun W : World => W.cell? ⟨b1, U, none⟩ = some (.int .i64 x)) (by kernel_rfl) (by kernel_rfl) hCW ?_
                            simp only [List.zip_cons_cons, List.zip_nil_right]
                            (refine Mix.step1 fun K hK => ?_; go_simp; (try (go_bits; try go_simp)); first | ((with_reducible refine hK _ _ ?_); clear hK K) | ((try (simp only [IntWalk.iteOmega]; try go_simp)); (try go_bits); (with_reducible refine hK _ _ ?_); clear hK K))
                            (refine Mix.step1 fun K hK => ?_; go_simp; (try (go_bits; try go_simp)); first | ((with_reducible refine hK _ _ ?_); clear hK K) | ((try (simp only [IntWalk.iteOmega]; try go_simp)); (try go_bits); (with_reducible refine hK _ _ ?_); clear hK K))
                            (refine Mix.step1 fun K hK => ?_; go_simp; (try (go_bits; try go_simp)); first | ((with_reducible refine hK _ _ ?_); clear hK K) | ((try (simp only [IntWalk.iteOmega]; try go_simp)); (try go_bits); (with_reducible refine hK _ _ ?_); clear hK K))
                            (refine Mix.step1 fun K hK => ?_; go_simp; refine ⟨fun W => ?_, hK _ _ ?_⟩; (intro hW1; (try intro hW2); (try intro hW3); (try intro hW4); (try intro hW5); (try intro hW6); (try intro hW7); (try intro hW8); go_simp); clear hK K)
                            iterate 3 (refine Mix.step0 fun K hK => ?_; go_simp; (try (go_bits; try go_simp)); first | ((with_reducible refine hK _ _ ?_); clear hK K) | ((try (simp only [IntWalk.iteOmega]; try go_simp)); (try go_bits); (with_reducible refine hK _ _ ?_); clear hK K))
                            refine Mix.step2n (by first | rfl | simp [Region.wanted, yielded]) fun K hK => ?_
                            go_wp2_with fail
                            refine (rlen_any _ a c es _ pot m _ (hs.drew.rdG h) (hs.drew.rd hp) HR.out hme HPB.out).mono ?_
                            rintro en w8 ⟨rfl, hb⟩
                            replace hs := hs.drew.belowStep hb
                            clear hb n0 n1 du hCW
                            obtain ⟨T, hT⟩ : ∃ T, T = lenA es pot m := ⟨_, rfl⟩
                            rw [← hT]
                            have HT := Lib.hid hT
                            obtain ⟨ht1, ht2⟩ : -2199023256552 ≤ T ∧ T ≤ 2199023256552 := by have := HLB.out; unfold maxL at this; omega
                            clear hT
                            obtain ⟨g', cg', eg, _, hcR, df⟩ := (hs.ints 2 rfl).get U (by rw [HNE.out.lD]; exact hUN)
                            injection eg with eg q1 q2
                            injection eg with eg
                            injection eg with eg
                            subst eg
                            have du := hcR U (by rw [HNE.out.lD]; exact hUN)
                            clear q1 q2 hcR
                            rw [show D.getD U 0 = x from HX.out.symm] at du
                            have hCW := du
                            clear df
                            go_wp2_with fail
                            refine Mix.post_mk (C := (fun W : World => W.cell? ⟨b1, U, none⟩ = some (.int .i64 x))) (by first | exact hCW | exact HCW.out _) (hK _ _ ?_)
                            clear hK K
                            iterate 2 (refine Mix.step0 fun K hK => ?_; go_simp; (try (go_bits; try go_simp)); first | ((with_reducible refine hK _ _ ?_); clear hK K) | ((try (simp only [IntWalk.iteOmega]; try go_simp)); (try go_bits); (with_reducible refine hK _ _ ?_); clear hK K))
                            refine Mix.done ?_
                            obtain ⟨g', cg', eg, _, hcR, df⟩ := (hs.ints 2 rfl).get V (by rw [HNE.out.lD]; exact hVN)
                            injection eg with eg q1 q2
                            injection eg with eg
                            injection eg with eg
                            subst eg
                            have dv := hcR V (by rw [HNE.out.lD]; exact hVN)
                            clear q1 q2 hcR
                            obtain ⟨g', cg', eg, _, hcR, df1⟩ := (hs.ints 1 rfl).get U (by rw [HNE.out.lH]; exact hUN)
                            injection eg with eg q1 q2
                            injection eg with eg
                            injection eg with eg
                            subst eg
                            have hu := hcR U (by rw [HNE.out.lH]; exact hUN)
                            clear q1 q2 hcR
                            obtain ⟨g', cg', eg, _, hcR, df2⟩ := (hs.ints 1 rfl).get V (by rw [HNE.out.lH]; exact hVN)
                            injection eg with eg q1 q2
                            injection eg with eg
                            injection eg with eg
                            subst eg
                            have hv := hcR V (by rw [HNE.out.lH]; exact hVN)
                            clear q1 q2 hcR
                            obtain ⟨y, hy⟩ : ∃ y, y = g D V := ⟨_, rfl⟩
                            rw [show D.getD V 0 = y from hy.symm] at dv
                            obtain ⟨p, hp1⟩ : ∃ p, p = g H U := ⟨_, rfl⟩
                            rw [show H.getD U 0 = p from hp1.symm] at hu
                            obtain ⟨z, hz1⟩ : ∃ z, z = g H V := ⟨_, rfl⟩
                            rw [show H.getD V 0 = z from hz1.symm] at hv
                            have HPZ := Lib.hid (show y = g D V ∧ p = g H U ∧ z = g H V from ⟨hy, hp1, hz1⟩)
                            have hy0 : -1 ≤ y := by have := HNE.out.d V hVN; omega
                            obtain ⟨hp0, hp9⟩ : 0 ≤ p ∧ p ≤ 39 := by have := HNE.out.h U hUN; omega
                            clear hy hp1 hz1
                            have HYES := Lib.hid (fun (hbt : y < 0 ∨ x + T < y ∨ (x + T = y ∧ p + 1 < z)) => HARC.out (D.set V (x + T), H.set V (p + 1)) (by
                              obtain ⟨r1, r2, r3⟩ := HPZ.out
                              rw [HAT.out, relB_eq (by rw [← HX.out]; exact hx1), ← HX.out, ← HT.out, ← r2, if_pos (bet_iff.2 (by rw [← r1, ← r3]; omega))]))
                            have HNO := Lib.hid (fun (hbt : ¬ (y < 0 ∨ x + T < y ∨ (x + T = y ∧ p + 1 < z))) => HARC.out (D, H) (by
                              obtain ⟨r1, r2, r3⟩ := HPZ.out
                              rw [HAT.out, relB_eq (by rw [← HX.out]; exact hx1), ← HX.out, ← HT.out, ← r2, if_neg (fun q => by have := bet_iff.1 q; rw [← r1, ← r3] at this; omega)]))
                            by_cases q1 : y < 0
                            · have e1 : decide (y < 0) = true := decide_eq_true q1
                              have HST := Lib.hid (HYES.out (.inl q1))
                              clear q1
                              go_wp2_with fail
                              refine Mix.region [0, 0, 0, 0, 0, 0, 0, 0, 0, 0, 0, 0, 0, 0, 0, 0, 0, 0, 0, 0, 0, 0, 0, 0, 0, 0, 0, 0, 0, 0, 0, 0, 0] (fun _ => True) (by kernel_rfl) (by kernel_rfl) trivial ?_
                              simp only [List.zip_cons_cons, List.zip_nil_right]
                              iterate 6 (refine Mix.step0 fun K hK => ?_; go_simp; (try (go_bits; try go_simp)); first | ((with_reducible refine hK _ _ ?_); clear hK K) | ((try (simp only [IntWalk.iteOmega]; try go_simp)); (try go_bits); (with_reducible refine hK _ _ ?_); clear hK K))
                              iterate 6 (first | (refine Mix.stepS rfl fun K hK => ?_; go_simp; (with_reducible refine hK _ _ ?_); clear hK K) | (refine Mix.step0 fun K hK => ?_; go_simp; (try (go_bits; try go_simp)); first | ((with_reducible refine hK _ _ ?_); clear hK K) | ((try (simp only [IntWalk.iteOmega]; try go_simp)); (try go_bits); (with_reducible refine hK _ _ ?_); clear hK K)))
                              iterate 2 (refine Mix.step0 fun K hK => ?_; go_simp; (try (go_bits; try go_simp)); first | ((with_reducible refine hK _ _ ?_); clear hK K) | ((try (simp only [IntWalk.iteOmega]; try go_simp)); (try go_bits); (with_reducible refine hK _ _ ?_); clear hK K))
                              iterate 18 (first | (refine Mix.stepS rfl fun K hK => ?_; go_simp; (with_reducible refine hK _ _ ?_); clear hK K) | (refine Mix.step0 fun K hK => ?_; go_simp; (try (go_bits; try go_simp)); first | ((with_reducible refine hK _ _ ?_); clear hK K) | ((try (simp only [IntWalk.iteOmega]; try go_simp)); (try go_bits); (with_reducible refine hK _ _ ?_); clear hK K)))
                              iterate 1 (refine Mix.step0 fun K hK => ?_; go_simp; (try (go_bits; try go_simp)); first | ((with_reducible refine hK _ _ ?_); clear hK K) | ((try (simp only [IntWalk.iteOmega]; try go_simp)); (try go_bits); (with_reducible refine hK _ _ ?_); clear hK K))
                              refine Mix.done ?_
                              go_upto_region 28 with fail
                              have hs2 : Sep w _ (refL b1 b2 b3 N nb #[.int .i64 N, .slice a es.length c] (D.set V (x + T)) H (List.replicate N (-1))) := (hs.setInts (j := V) 2 rfl (x + T)).drew
                              clear hs dv hu hv df df1 df2
                              have hs := hs2
                              clear hs2
                              obtain ⟨g', cg', eg, _, hcR, df1⟩ := (hs.ints 1 rfl).get U (by rw [HNE.out.lH]; exact hUN)
                              injection eg with eg q1 q2
                              injection eg with eg
                              injection eg with eg
                              subst eg
                              have hu := hcR U (by rw [HNE.out.lH]; exact hUN)
                              clear q1 q2 hcR
                              obtain ⟨g', cg', eg, _, hcR, df2⟩ := (hs.ints 1 rfl).get V (by rw [HNE.out.lH]; exact hVN)
                              injection eg with eg q1 q2
                              injection eg with eg
                              injection eg with eg
                              subst eg
                              have hv := hcR V (by rw [HNE.out.lH]; exact hVN)
                              clear q1 q2 hcR
                              rw [show H.getD U 0 = p from HPZ.out.2.1.symm] at hu
                              go_wp2_with fail
                              have hs2 : Sep w _ (refL b1 b2 b3 N nb #[.int .i64 N, .slice a es.length c] (D.set V (x + T)) (H.set V (p + 1)) (List.replicate N (-1))) := hs.setInts (j := V) 1 rfl (p + 1)
                              clear hs hu hv df1 df2
                              refine Round.intro (2 * fl.length - (m + 1)) ?measure9 (by kernel_rfl) (hJ4 _ _ _ ?rel9)
                              case' rel9 => (try dsimp only [nthV])
                              case measure9 => omega
                              case rel9 => exact ⟨m + 1, _, _, by go_num, hmt, rfl, HST, hs2⟩
                            · have e1 : decide (y < 0) = false := decide_eq_false q1
                              by_cases q2 : x + T < y
                              · have e2 : decide (x + T < y) = true := decide_eq_true q2
                                have HST := Lib.hid (HYES.out (.inr (.inl q2)))
                                clear q1 q2
                                go_wp2_with fail
                                refine Mix.region [0, 0, 0, 0, 0, 0, 0, 0, 0, 0, 0, 0, 0, 0, 0, 0, 0, 0, 0, 0, 0, 0, 0, 0, 0, 0, 0, 0, 0, 0, 0, 0, 0] (fun _ => True) (by kernel_rfl) (by kernel_rfl) trivial ?_
                                simp only [List.zip_cons_cons, List.zip_nil_right]
                                iterate 6 (refine Mix.step0 fun K hK => ?_; go_simp; (try (go_bits; try go_simp)); first | ((with_reducible refine hK _ _ ?_); clear hK K) | ((try (simp only [IntWalk.iteOmega]; try go_simp)); (try go_bits); (with_reducible refine hK _ _ ?_); clear hK K))
                                iterate 6 (first | (refine Mix.stepS rfl fun K hK => ?_; go_simp; (with_reducible refine hK _ _ ?_); clear hK K) | (refine Mix.step0 fun K hK => ?_; go_simp; (try (go_bits; try go_simp)); first | ((with_reducible refine hK _ _ ?_); clear hK K) | ((try (simp only [IntWalk.iteOmega]; try go_simp)); (try go_bits); (with_reducible refine hK _ _ ?_); clear hK K)))
                                iterate 2 (refine Mix.step0 fun K hK => ?_; go_simp; (try (go_bits; try go_simp)); first | ((with_reducible refine hK _ _ ?_); clear hK K) | ((try (simp only [IntWalk.iteOmega]; try go_simp)); (try go_bits); (with_reducible refine hK _ _ ?_); clear hK K))
                                iterate 18 (first | (refine Mix.stepS rfl fun K hK => ?_; go_simp; (with_reducible refine hK _ _ ?_); clear hK K) | (refine Mix.step0 fun K hK => ?_; go_simp; (try (go_bits; try go_simp)); first | ((with_reducible refine hK _ _ ?_); clear hK K) | ((try (simp only [IntWalk.iteOmega]; try go_simp)); (try go_bits); (with_reducible refine hK _ _ ?_); clear hK K)))
                                iterate 1 (refine Mix.step0 fun K hK => ?_; go_simp; (try (go_bits; try go_simp)); first | ((with_reducible refine hK _ _ ?_); clear hK K) | ((try (simp only [IntWalk.iteOmega]; try go_simp)); (try go_bits); (with_reducible refine hK _ _ ?_); clear hK K))
                                refine Mix.done ?_
                                go_upto_region 28 with fail
                                have hs2 : Sep w _ (refL b1 b2 b3 N nb #[.int .i64 N, .slice a es.length c] (D.set V (x + T)) H (List.replicate N (-1))) := (hs.setInts (j := V) 2 rfl (x + T)).drew
                                clear hs dv hu hv df df1 df2
                                have hs := hs2
                                clear hs2
                                obtain ⟨g', cg', eg, _, hcR, df1⟩ := (hs.ints 1 rfl).get U (by rw [HNE.out.lH]; exact hUN)
                                injection eg with eg q1 q2
                                injection eg with eg
                                injection eg with eg
                                subst eg
                                have hu := hcR U (by rw [HNE.out.lH]; exact hUN)
                                clear q1 q2 hcR
                                obtain ⟨g', cg', eg, _, hcR, df2⟩ := (hs.ints 1 rfl).get V (by rw [HNE.out.lH]; exact hVN)
                                injection eg with eg q1 q2
                                injection eg with eg
                                injection eg with eg
                                subst eg
                                have hv := hcR V (by rw [HNE.out.lH]; exact hVN)
                                clear q1 q2 hcR
                                rw [show H.getD U 0 = p from HPZ.out.2.1.symm] at hu
                                go_wp2_with fail
                                have hs2 : Sep w _ (refL b1 b2 b3 N nb #[.int .i64 N, .slice a es.length c] (D.set V (x + T)) (H.set V (p + 1)) (List.replicate N (-1))) := hs.setInts (j := V) 1 rfl (p + 1)
                                clear hs hu hv df1 df2
                                refine Round.intro (2 * fl.length - (m + 1)) ?measure10 (by kernel_rfl) (hJ4 _ _ _ ?rel10)
                                case' rel10 => (try dsimp only [nthV])
                                case measure10 => omega
                                case rel10 => exact ⟨m + 1, _, _, by go_num, hmt, rfl, HST, hs2⟩
                              · have e2 : decide (x + T < y) = false := decide_eq_false q2
                                by_cases q3 : x + T = y
                                · have e3 : (x + T == y) = true := beq_iff_eq.2 q3
                                  have HQ3 := Lib.hid q3
                                  by_cases q4 : p + 1 < z
                                  · have e4 : decide (p + 1 < z) = true := decide_eq_true q4
                                    have HST := Lib.hid (HYES.out (.inr (.inr ⟨q3, q4⟩)))
                                    clear q1 q2 q3 q4
                                    go_wp2_with fail
                                    refine Mix.region [0, 0, 0, 0, 0, 0, 0, 0, 0, 0, 0, 0, 0, 0, 0, 0, 0, 0, 0, 0, 0, 0, 0, 0, 0, 0, 0, 0, 0, 0, 0, 0, 0] (fun _ => True) (by kernel_rfl) (by kernel_rfl) trivial ?_
                                    simp only [List.zip_cons_cons, List.zip_nil_right]
                                    iterate 6 (refine Mix.step0 fun K hK => ?_; go_simp; (try (go_bits; try go_simp)); first | ((with_reducible refine hK _ _ ?_); clear hK K) | ((try (simp only [IntWalk.iteOmega]; try go_simp)); (try go_bits); (with_reducible refine hK _ _ ?_); clear hK K))
                                    iterate 6 (first | (refine Mix.stepS rfl fun K hK => ?_; go_simp; (with_reducible refine hK _ _ ?_); clear hK K) | (refine Mix.step0 fun K hK => ?_; go_simp; (try (go_bits; try go_simp)); first | ((with_reducible refine hK _ _ ?_); clear hK K) | ((try (simp only [IntWalk.iteOmega]; try go_simp)); (try go_bits); (with_reducible refine hK _ _ ?_); clear hK K)))
                                    iterate 2 (refine Mix.step0 fun K hK => ?_; go_simp; (try (go_bits; try go_simp)); first | ((with_reducible refine hK _ _ ?_); clear hK K) | ((try (simp only [IntWalk.iteOmega]; try go_simp)); (try go_bits); (with_reducible refine hK _ _ ?_); clear hK K))
                                    iterate 18 (first | (refine Mix.stepS rfl fun K hK => ?_; go_simp; (with_reducible refine hK _ _ ?_); clear hK K) | (refine Mix.step0 fun K hK => ?_; go_simp; (try (go_bits; try go_simp)); first | ((with_reducible refine hK _ _ ?_); clear hK K) | ((try (simp only [IntWalk.iteOmega]; try go_simp)); (try go_bits); (with_reducible refine hK _ _ ?_); clear hK K)))
                                    iterate 1 (refine Mix.step0 fun K hK => ?_; go_simp; (try (go_bits; try go_simp)); first | ((with_reducible refine hK _ _ ?_); clear hK K) | ((try (simp only [IntWalk.iteOmega]; try go_simp)); (try go_bits); (with_reducible refine hK _ _ ?_); clear hK K))
                                    refine Mix.done ?_
                                    go_upto_region 28 with fail
                                    have hs2 : Sep w _ (refL b1 b2 b3 N nb #[.int .i64 N, .slice a es.length c] (D.set V (x + T)) H (List.replicate N (-1))) := (hs.setInts (j := V) 2 rfl (x + T)).drew
                                    clear hs dv hu hv df df1 df2
                                    have hs := hs2
                                    clear hs2
                                    obtain ⟨g', cg', eg, _, hcR, df1⟩ := (hs.ints 1 rfl).get U (by rw [HNE.out.lH]; exact hUN)
                                    injection eg with eg q1 q2
                                    injection eg with eg
                                    injection eg with eg
                                    subst eg
                                    have hu := hcR U (by rw [HNE.out.lH]; exact hUN)
                                    clear q1 q2 hcR
                                    obtain ⟨g', cg', eg, _, hcR, df2⟩ := (hs.ints 1 rfl).get V (by rw [HNE.out.lH]; exact hVN)
                                    injection eg with eg q1 q2
                                    injection eg with eg
                                    injection eg with eg
                                    subst eg
                                    have hv := hcR V (by rw [HNE.out.lH]; exact hVN)
                                    clear q1 q2 hcR
                                    rw [show H.getD U 0 = p from HPZ.out.2.1.symm] at hu
                                    go_wp2_with fail
                                    have hs2 : Sep w _ (refL b1 b2 b3 N nb #[.int .i64 N, .slice a es.length c] (D.set V (x + T)) (H.set V (p + 1)) (List.replicate N (-1))) := hs.setInts (j := V) 1 rfl (p + 1)
                                    clear hs hu hv df1 df2
                                    refine Round.intro (2 * fl.length - (m + 1)) ?measure11 (by kernel_rfl) (hJ4 _ _ _ ?rel11)
                                    case' rel11 => (try dsimp only [nthV])
                                    case measure11 => omega
                                    case rel11 => exact ⟨m + 1, _, _, by go_num, hmt, rfl, HST, hs2⟩
                                  · have e4 : decide (p + 1 < z) = false := decide_eq_false q4
                                    have HST := Lib.hid (HNO.out (by omega))
                                    clear q1 q2 q3 q4
                                    go_wp2_with fail
                                    refine Mix.region [0, 0, 0, 0, 0, 0, 0, 0, 0, 0, 0, 0, 0, 0, 0, 0, 0, 0, 0, 0, 0, 0, 0, 0, 0, 0, 0, 0, 0, 0, 0, 0, 0] (fun _ => True) (by kernel_rfl) (by kernel_rfl) trivial ?_
                                    simp only [List.zip_cons_cons, List.zip_nil_right]
                                    iterate 6 (refine Mix.step0 fun K hK => ?_; go_simp; (try (go_bits; try go_simp)); first | ((with_reducible refine hK _ _ ?_); clear hK K) | ((try (simp only [IntWalk.iteOmega]; try go_simp)); (try go_bits); (with_reducible refine hK _ _ ?_); clear hK K))
                                    iterate 6 (first | (refine Mix.stepS rfl fun K hK => ?_; go_simp; (with_reducible refine hK _ _ ?_); clear hK K) | (refine Mix.step0 fun K hK => ?_; go_simp; (try (go_bits; try go_simp)); first | ((with_reducible refine hK _ _ ?_); clear hK K) | ((try (simp only [IntWalk.iteOmega]; try go_simp)); (try go_bits); (with_reducible refine hK _ _ ?_); clear hK K)))
                                    iterate 2 (refine Mix.step0 fun K hK => ?_; go_simp; (try (go_bits; try go_simp)); first | ((with_reducible refine hK _ _ ?_); clear hK K) | ((try (simp only [IntWalk.iteOmega]; try go_simp)); (try go_bits); (with_reducible refine hK _ _ ?_); clear hK K))
                                    iterate 18 (first | (refine Mix.stepS rfl fun K hK => ?_; go_simp; (with_reducible refine hK _ _ ?_); clear hK K) | (refine Mix.step0 fun K hK => ?_; go_simp; (try (go_bits; try go_simp)); first | ((with_reducible refine hK _ _ ?_); clear hK K) | ((try (simp only [IntWalk.iteOmega]; try go_simp)); (try go_bits); (with_reducible refine hK _ _ ?_); clear hK K)))
                                    iterate 1 (refine Mix.step0 fun K hK => ?_; go_simp; (try (go_bits; try go_simp)); first | ((with_reducible refine hK _ _ ?_); clear hK K) | ((try (simp only [IntWalk.iteOmega]; try go_simp)); (try go_bits); (with_reducible refine hK _ _ ?_); clear hK K))
                                    refine Mix.done ?_
                                    go_wp2_with fail
                                    refine Round.intro (2 * fl.length - (m + 1)) ?measure12 (by kernel_rfl) (hJ4 _ _ _ ?rel12)
                                    case' rel12 => (try dsimp only [nthV])
                                    case measure12 => omega
                                    case rel12 => exact ⟨m + 1, D, H, by go_num, hmt, rfl, HST, hs.drew⟩
                                · have e3 : (x + T == y) = false := beq_eq_false_iff_ne.2 q3
                                  have HST := Lib.hid (HNO.out (by omega))
                                  clear q1 q2 q3
                                  go_wp2_with fail
                                  refine Mix.region [0, 0, 0, 0, 0, 0, 0, 0, 0, 0, 0, 0, 0, 0, 0, 0, 0, 0, 0, 0, 0, 0, 0, 0, 0, 0, 0, 0, 0, 0, 0, 0, 0] (fun _ => True) (by kernel_rfl) (by kernel_rfl) trivial ?_
                                  simp only [List.zip_cons_cons, List.zip_nil_right]
                                  iterate 6 (refine Mix.step0 fun K hK => ?_; go_simp; (try (go_bits; try go_simp)); first | ((with_reducible refine hK _ _ ?_); clear hK K) | ((try (simp only [IntWalk.iteOmega]; try go_simp)); (try go_bits); (with_reducible refine hK _ _ ?_); clear hK K))
                                  iterate 6 (first | (refine Mix.stepS rfl fun K hK => ?_; go_simp; (with_reducible refine hK _ _ ?_); clear hK K) | (refine Mix.step0 fun K hK => ?_; go_simp; (try (go_bits; try go_simp)); first | ((with_reducible refine hK _ _ ?_); clear hK K) | ((try (simp only [IntWalk.iteOmega]; try go_simp)); (try go_bits); (with_reducible refine hK _ _ ?_); clear hK K)))
                                  iterate 2 (refine Mix.step0 fun K hK => ?_; go_simp; (try (go_bits; try go_simp)); first | ((with_reducible refine hK _ _ ?_); clear hK K) | ((try (simp only [IntWalk.iteOmega]; try go_simp)); (try go_bits); (with_reducible refine hK _ _ ?_); clear hK K))
                                  iterate 18 (first | (refine Mix.stepS rfl fun K hK => ?_; go_simp; (with_reducible refine hK _ _ ?_); clear hK K) | (refine Mix.step0 fun K hK => ?_; go_simp; (try (go_bits; try go_simp)); first | ((with_reducible refine hK _ _ ?_); clear hK K) | ((try (simp only [IntWalk.iteOmega]; try go_simp)); (try go_bits); (with_reducible refine hK _ _ ?_); clear hK K)))
                                  iterate 1 (refine Mix.step0 fun K hK => ?_; go_simp; (try (go_bits; try go_simp)); first | ((with_reducible refine hK _ _ ?_); clear hK K) | ((try (simp only [IntWalk.iteOmega]; try go_simp)); (try go_bits); (with_reducible refine hK _ _ ?_); clear hK K))
                                  refine Mix.done ?_
                                  go_wp2_with fail
                                  refine Round.intro (2 * fl.length - (m + 1)) ?measure13 (by kernel_rfl) (hJ4 _ _ _ ?rel13)
                                  case' rel13 => (try dsimp only [nthV])
                                  case measure13 => omega
                                  case rel13 => exact ⟨m + 1, D, H, by go_num, hmt, rfl, HST, hs.drew⟩
                      · obtain rfl : m = 2 * fl.length := by omega
                        have HST := Lib.hid (HBF.out.next (fun a ha => by have := HLEN.out; rw [this]; exact ha) (by omega))
                        go_wp2_with fail
                        refine Round.intro (N - (k + 1)) ?measure14 (by kernel_rfl) (hJ3 _ _ _ ?rel14)
                        case' rel14 => (try dsimp only [nthV])
                        case measure14 => omega
                        case rel14 => exact ⟨k + 1, D, H, by go_num, hlt, rfl, by have := HST.out; exact Lib.hid (by simpa using this), hs⟩
                  · obtain rfl : N = k := by omega
                    have HLS := Lib.hid (HBF.out.least (Int.le_refl _))
                    have HRE := Lib.hid HBF.out.real
                    have HLN := Lib.hid (show D.length = N ∧ H.length = N from ⟨HBF.out.lD, HBF.out.lH⟩)
                    have HNE := Lib.hid (show LabOk N D H from labOk_of HBF.out.real HNET.out hN HBF.out.lD HBF.out.lH)
                    have HB0 := Lib.hid (show BO es fl pot D H N 0 (List.replicate N (-1)) from ⟨by simp, fun w hw => by omega, fun w _ hw => g_rep N (-1) hw⟩)
                    clear HBF
                    go_wp2_with fail
                    clear n0 n1
                    refine wp_loopM [none, none, none, none, none, none, none, none, none, none, none, none, none, none, none, none, none, none, none, none, none, none, some 22, some 23, some 24, some 25, some 26, none, none, none, none, none, none, none, none, none, none, none, none, none, none, none, none, none, none, none, none, none, none, none, none, none, none, none, none, none, none, none, none, none, none, none, none, none, none, none, none, none, none, none, none, none, none, none, none, none, none, none, none, none, none, none, none, none, none, none, none, none, none, none, none, none, none, none, none, none, none, none, none, none, none, none, none, none, none, none, none, none, none, none, none, none, none, none, none, none, none, none, none, none, none, none, none, none, none, none, none, none, none, none, none, none, none, none, none, none, none, none, none, none, none, none, none, none, none, none, none, none, none, none, none, none, none, none, none, none, none, none, none, none, none, none, none, none, none, none, none, none, none, none, some 170, some 171, some 172, some 173, some 174, some 175, some 176, some 177, some 178, some 179, some 180, some 181, some 182, some 183, some 184, some 185, some 186, some 187, some 188, some 189, some 190, some 191, some 192, some 193, some 194, some 195, some 196, some 197, some 198, some 199, some 200, some 201, some 202, some 203, some 204, some 205, some 206, some 207, some 208, some 209, some 210, some 211, some 212, some 213, some 214, some 215, some 216, some 217, some 218, some 219, some 220, some 221, some 222, some 223, some 224, some 225, some 226, some 227, some 228, some 229, some 230, some 231, some 232, some 233, some 234, some 235, some 236, some 237, some 238, some 239, some 240, some 241, some 242, some 243, some 244, some 245, some 246, none, none] (fun (r : Nat) (f : Nat → Value) (wr : World) => (fun (v : Value) => ∃ (q : Nat) (B : List Int), v = .int .i64 q ∧ q ≤ N ∧ r = N - q ∧ Hid (BO es fl pot D H N q B) ∧ Sep w wr (refL b1 b2 b3 N nb #[.int .i64 N, .slice a es.length c] D H B)) (f 22)) (N) (by kernel_rfl) ?atStart15 ?round15
                    case' atStart15 => (try dsimp only [nthV])
                    case' round15 =>
                      intro gk f wr l hl hrel J5 K5 hJ5 hK5
                      (try simp only [mask] at hl)
                      generalize f 22 = u22 at hl hrel
                      subst hl
                      (try dsimp only at hrel)
                    case atStart15 => exact ⟨0, _, rfl, Nat.zero_le _, rfl, HB0, hs⟩
                    case round15 =>
                      clear hs HB0
                      obtain ⟨q, B, rfl, hq, rfl, HBO, hs⟩ := hrel
                      have n0 := cell_of (hs.cells 3 rfl) 0
                      have n1 := cell_of (hs.cells 3 rfl) 1
                      simp only [List.getElem?_toArray, List.getElem?_cons_zero, List.getElem?_cons_succ] at n0 n1
                      by_cases hqt : q < N
                      · obtain ⟨z, hz1⟩ : ∃ z, z = g H q := ⟨_, rfl⟩
                        have HZ := Lib.hid hz1
                        clear hz1
                        have HIN := Lib.hid (show BD es fl pot D H N q (2 * es.length) B ∧ (z ≤ 0 → BO es fl pot D H N (q + 1) B) from ⟨HBO.out.in_ hqt, fun h => HBO.out.zero hqt (by have := HZ.out; have := HNE.out.h q hqt; omega)⟩)
                        clear HBO
                        go_wp2_with fail
                        clear n0 n1
                        refine wp_loopM [none, none, none, none, none, none, none, none, none, none, none, none, none, none, none, none, none, none, none, none, none, none, none, some 23, some 24, some 25, some 26, none, none, none, none, none, none, none, none, none, none, none, none, none, none, none, none, none, none, none, none, none, none, none, none, none, none, none, none, none, none, none, none, none, none, none, none, none, none, none, none, none, none, none, none, none, none, none, none, none, none, none, none, none, none, none, none, none, none, none, none, none, none, none, none, none, none, none, none, none, none, none, none, none, none, none, none, none, none, none, none, none, none, none, none, none, none, none, none, none, none, none, none, none, none, none, none, none, none, none, none, none, none, none, none, none, none, none, none, none, none, none, none, none, none, none, none, none, none, none, none, none, none, none, none, none, none, none, none, none, none, none, none, none, none, none, none, none, none, none, none, none, none, none, none, none, none, none, none, none, none, none, none, none, some 180, some 181, some 182, some 183, some 184, some 185, some 186, some 187, some 188, some 189, some 190, some 191, some 192, some 193, some 194, some 195, some 196, some 197, some 198, some 199, some 200, some 201, some 202, some 203, some 204, some 205, some 206, some 207, some 208, some 209, some 210, some 211, some 212, some 213, some 214, some 215, some 216, some 217, some 218, some 219, some 220, some 221, some 222, some 223, some 224, some 225, some 226, some 227, some 228, some 229, some 230, some 231, some 232, some 233, some 234, some 235, some 236, some 237, some 238, some 239, some 240, some 241, some 242, some 243, some 244, some 245, some 246, none, none] (fun (r : Nat) (f : Nat → Value) (wq : World) => (fun (v : Value) => ∃ (B : List Int), v = .int .i64 ((r : Int) - 1) ∧ r ≤ 2 * fl.length ∧ Hid (BD es fl pot D H N q r B ∧ (z ≤ 0 → BO es fl pot D H N (q + 1) B)) ∧ Sep w wq (refL b1 b2 b3 N nb #[.int .i64 N, .slice a es.length c] D H B)) (f 23)) (2 * fl.length) (by kernel_rfl) ?atStart16 ?round16
                        case' atStart16 => (try dsimp only [nthV])
                        case' round16 =>
                          intro gk f wr l hl hrel J6 K6 hJ6 hK6
                          (try simp only [mask] at hl)
                          generalize f 23 = u23 at hl hrel
                          subst hl
                          (try dsimp only at hrel)
                        case atStart16 => exact ⟨B, by go_num, Nat.le_refl _, (by rw [HLEN.out]; exact HIN), hs⟩
                        case round16 =>
                          clear hs HIN
                          obtain ⟨B, rfl, hj, HIN, hs⟩ := hrel
                          have n0 := cell_of (hs.cells 3 rfl) 0
                          have n1 := cell_of (hs.cells 3 rfl) 1
                          simp only [List.getElem?_toArray, List.getElem?_cons_zero, List.getElem?_cons_succ] at n0 n1
                          by_cases hj0 : gk = 0
                          · subst hj0
                            have HO := Lib.hid HIN.out.1.out
                            go_wp2_with fail
                            refine Round.intro (N - (q + 1)) ?measure17 (by kernel_rfl) (hJ5 _ _ _ ?rel17)
                            case' rel17 => (try dsimp only [nthV])
                            case measure17 => omega
                            case rel17 => exact ⟨q + 1, B, by go_num, hqt, rfl, HO, hs⟩
                          · obtain ⟨i, rfl⟩ : ∃ i, gk = i + 1 := ⟨gk - 1, by omega⟩
                            rw [show (((i + 1 : Nat) : Int) - 1) = i by omega]
                            obtain ⟨g', cg', eg, _, hcR, hzf⟩ := (hs.ints 1 rfl).get q (by rw [HNE.out.lH]; exact hqt)
                            injection eg with eg q1 q2
                            injection eg with eg
                            injection eg with eg
                            subst eg
                            have hz := hcR q (by rw [HNE.out.lH]; exact hqt)
                            clear q1 q2 hcR
                            rw [show H.getD q 0 = z from HZ.out.symm] at hz
                            clear hzf
                            by_cases hz0 : z ≤ 0
                            · have d1 : decide (0 < z) = false := decide_eq_false (by omega)
                              have HO := Lib.hid (HIN.out.2 hz0)
                              clear hz0
                              go_wp2_with fail
                              refine Round.intro (N - (q + 1)) ?measure18 (by kernel_rfl) (hJ5 _ _ _ ?rel18)
                              case' rel18 => (try dsimp only [nthV])
                              case measure18 => omega
                              case rel18 => exact ⟨q + 1, B, by go_num, hqt, rfl, HO, hs⟩
                            · have d1 : decide (0 < z) = true := decide_eq_true (by omega)
                              have HKEEP := Lib.hid (fun (hn : roomE es fl i ≤ 0 ∨ byC D H q (PathP.arcAt es pot i) = false) => (show BD es fl pot D H N q i B ∧ (z ≤ 0 → BO es fl pot D H N (q + 1) B) from ⟨HIN.out.1.no hn, fun h0 => absurd h0 hz0⟩))
                              have hie : i < 2 * es.length := by have := HLEN.out; omega
                              have HSET := Lib.hid (fun (hr : 0 < roomE es fl i) (hc : byC D H q (PathP.arcAt es pot i) = true) => (show BD es fl pot D H N q i (B.set q i) ∧ (z ≤ 0 → BO es fl pot D H N (q + 1) (B.set q i)) from ⟨HIN.out.1.yes hqt hie hr hc, fun h0 => absurd h0 hz0⟩))
                              have HZ0 := Lib.hid (show 0 < z by omega)
                              clear hz0
                              have hh : hasB es.length (i : Int) = true := by rw [hasB_iff]; omega
                              have HRO := Lib.hid (room_in HWI.out hh)
                              have HEN := Lib.hid (ends_in HWI.out hh)
                              obtain ⟨hu0, hv0, _, _⟩ := ends_node HR.out hie
                              obtain ⟨U, hU⟩ : ∃ U : Nat, (endsE es i).1 = U := ⟨(endsE es i).1.toNat, by omega⟩
                              obtain ⟨V, hV⟩ : ∃ V : Nat, (endsE es i).2.1 = V := ⟨(endsE es i).2.1.toNat, by omega⟩
                              have hUN : U < N := by omega
                              have hVN : V < N := by omega
                              obtain ⟨C, hC⟩ : ∃ C, C = (endsE es i).2.2 := ⟨_, rfl⟩
                              have HUV := Lib.hid (show (endsE es i).1 = U ∧ (endsE es i).2.1 = V ∧ (endsE es i).2.2 = C from ⟨hU, hV, hC.symm⟩)
                              obtain ⟨T, hT⟩ : ∃ T, T = lenA es pot i := ⟨_, rfl⟩
                              have HTT := Lib.hid hT
                              obtain ⟨x, hx⟩ : ∃ x, x = g D U := ⟨_, rfl⟩
                              have HX := Lib.hid hx
                              obtain ⟨y, hy⟩ : ∃ y, y = g D q := ⟨_, rfl⟩
                              have HY := Lib.hid hy
                              obtain ⟨p, hp9⟩ : ∃ p, p = g H U := ⟨_, rfl⟩
                              have HP := Lib.hid hp9
                              obtain ⟨R, hR⟩ : ∃ R, R = roomE es fl i := ⟨_, rfl⟩
                              have HRR := Lib.hid hR
                              have HC := Lib.hid (show byC D H q (PathP.arcAt es pot i) = (decide (V = q) && decide (0 ≤ x) && decide (x + T = y) && decide (p + 1 = z)) by
                                have e : PathP.arcAt es pot i = ⟨i, U, V, T⟩ := by unfold PathP.arcAt; rw [hU, hV, hT]; rfl
                                have hz := HZ.out
                                have h0 := HZ0.out
                                rw [e, hx, hy, hp9, hz]
                                exact byC_parts (by omega))
                              have HLB := Lib.hid (len_bound HR.out HPB.out hie)
                              obtain ⟨ht1, ht2⟩ : -2199023256552 ≤ T ∧ T ≤ 2199023256552 := by have := HLB.out; have := HTT.out; unfold maxL at *; omega
                              obtain ⟨hp1, hp2⟩ : 0 ≤ p ∧ p ≤ 39 := by have := HNE.out.h U hUN; omega
                              have hxb : x ≤ 87960942262080 := by have := HNE.out.d U hUN; omega
                              clear hu0 hv0 hU hV hC hh hT hx hy hp9 hR
                              go_wp2_with fail
                              refine (rends_any _ a c es i _ (hs.rdG h) (by omega)).mono ?_
                              rintro en w6 ⟨rfl, hb⟩
                              rw [HEN.out, HUV.out.1, HUV.out.2.1, HUV.out.2.2]
                              clear n0 n1 hz
                              replace hs := hs.belowStep hb
                              clear hb
                              have n0 := cell_of (hs.cells 3 rfl) 0
                              have n1 := cell_of (hs.cells 3 rfl) 1
                              simp only [List.getElem?_toArray, List.getElem?_cons_zero, List.getElem?_cons_succ] at n0 n1
                              obtain ⟨g', cg', eg, _, hcR, df⟩ := (hs.ints 2 rfl).get U (by rw [HNE.out.lD]; exact hUN)
                              injection eg with eg q1 q2
                              injection eg with eg
                              injection eg with eg
                              subst eg
                              have du := hcR U (by rw [HNE.out.lD]; exact hUN)
                              clear q1 q2 hcR
                              rw [show D.getD U 0 = x from HX.out.symm] at du
                              obtain ⟨g', cg', eg, _, hcR, dfq⟩ := (hs.ints 2 rfl).get q (by rw [HNE.out.lD]; exact hqt)
                              injection eg with eg q1 q2
                              injection eg with eg
                              injection eg with eg
                              subst eg
                              have dq := hcR q (by rw [HNE.out.lD]; exact hqt)
                              clear q1 q2 hcR
                              rw [show D.getD q 0 = y from HY.out.symm] at dq
                              clear df dfq
                              have hCW : (fun W : World => W.cell? ⟨b1, U, none⟩ = some (.int .i64 x) ∧ W.cell? ⟨b1, q, none⟩ = some (.int .i64 y)) w6.drew := ⟨du, dq⟩
                              clear du dq
                              by_cases hvq : V = q
                              · have e1 : ((V : Int) == (q : Int)) = true := beq_iff_eq.2 (by omega)
                                by_cases hR0 : R ≤ 0
                                · have d2 : decide (0 < R) = false := decide_eq_false (by omega)
                                  have HST := Lib.hid (HKEEP.out (.inl (by rw [← HRR.out]; exact hR0)))
                                  clear hvq hR0
                                  go_wp2_with fail
                                  refine Mix.region [0, 0, 0, 0, 0, 0, 0, 2, 0, 0, 0, 0, 0, 0, 0, 0, 0, 0, 1, 1, 1, 1, 0, 0, 0, 2, 0, 1, 1, 1, 1, 0, 0, 0, 0, 0, 0, 0, 0, 0, 0, 0, 0, 0, 0] (fun W : World => W.cell? ⟨b1, U, none⟩ = some (.int .i64 x) ∧ W.cell? ⟨b1, q, none⟩ = some (.int .i64 y)) (by kernel_rfl) (by kernel_rfl) hCW ?_
                                  simp only [List.zip_cons_cons, List.zip_nil_right]
                                  iterate 4 (refine Mix.step0 fun K hK => ?_; go_simp; (try (go_bits; try go_simp)); first | ((with_reducible refine hK _ _ ?_); clear hK K) | ((try (simp only [IntWalk.iteOmega]; try go_simp)); (try go_bits); (with_reducible refine hK _ _ ?_); clear hK K))
                                  iterate 3 (first | (refine Mix.stepS rfl fun K hK => ?_; go_simp; (with_reducible refine hK _ _ ?_); clear hK K) | (refine Mix.step0 fun K hK => ?_; go_simp; (try (go_bits; try go_simp)); first | ((with_reducible refine hK _ _ ?_); clear hK K) | ((try (simp only [IntWalk.iteOmega]; try go_simp)); (try go_bits); (with_reducible refine hK _ _ ?_); clear hK K)))
                                  refine Mix.step2n (by first | rfl | simp [Region.wanted, yielded]) fun K hK => ?_
                                  go_wp2_with fail
                                  refine (rroom_any _ a c es _ fl i _ (hs.drew.rdG h) (hs.drew.rd hf) (by omega)).mono ?_
                                  rintro en w8 ⟨rfl, hb⟩
                                  rw [HRO.out, ← HRR.out]
                                  replace hs := hs.drew.belowStep hb
                                  clear hb n0 n1 hCW
                                  obtain ⟨g', cg', eg, _, hcR, df⟩ := (hs.ints 2 rfl).get U (by rw [HNE.out.lD]; exact hUN)
                                  injection eg with eg q1 q2
                                  injection eg with eg
                                  injection eg with eg
                                  subst eg
                                  have du := hcR U (by rw [HNE.out.lD]; exact hUN)
                                  clear q1 q2 hcR
                                  rw [show D.getD U 0 = x from HX.out.symm] at du
                                  obtain ⟨g', cg', eg, _, hcR, dfq⟩ := (hs.ints 2 rfl).get q (by rw [HNE.out.lD]; exact hqt)
                                  injection eg with eg q1 q2
                                  injection eg with eg
                                  injection eg with eg
                                  subst eg
                                  have dq := hcR q (by rw [HNE.out.lD]; exact hqt)
                                  clear q1 q2 hcR
                                  rw [show D.getD q 0 = y from HY.out.symm] at dq
                                  clear df dfq
                                  have hCW := And.intro du dq
                                  clear du dq
                                  have n0 := cell_of (hs.cells 3 rfl) 0
                                  have n1 := cell_of (hs.cells 3 rfl) 1
                                  simp only [List.getElem?_toArray, List.getElem?_cons_zero, List.getElem?_cons_succ] at n0 n1
                                  go_wp2_with fail
                                  refine Mix.post_mk (C := (fun W : World => W.cell? ⟨b1, U, none⟩ = some (.int .i64 x) ∧ W.cell? ⟨b1, q, none⟩ = some (.int .i64 y))) (by first | exact hCW | exact HCW.out _) (hK _ _ ?_)
                                  clear hK K
                                  iterate 1 (first | (refine Mix.stepS rfl fun K hK => ?_; go_simp; (with_reducible refine hK _ _ ?_); clear hK K) | (refine Mix.step0 fun K hK => ?_; go_simp; (try (go_bits; try go_simp)); first | ((with_reducible refine hK _ _ ?_); clear hK K) | ((try (simp only [IntWalk.iteOmega]; try go_simp)); (try go_bits); (with_reducible refine hK _ _ ?_); clear hK K)))
                                  iterate 2 (refine Mix.step0 fun K hK => ?_; go_simp; (try (go_bits; try go_simp)); first | ((with_reducible refine hK _ _ ?_); clear hK K) | ((try (simp only [IntWalk.iteOmega]; try go_simp)); (try go_bits); (with_reducible refine hK _ _ ?_); clear hK K))
                                  iterate 5 (first | (refine Mix.stepS rfl fun K hK => ?_; go_simp; (with_reducible refine hK _ _ ?_); clear hK K) | (refine Mix.step0 fun K hK => ?_; go_simp; (try (go_bits; try go_simp)); first | ((with_reducible refine hK _ _ ?_); clear hK K) | ((try (simp only [IntWalk.iteOmega]; try go_simp)); (try go_bits); (with_reducible refine hK _ _ ?_); clear hK K)))
                                  iterate 2 (refine Mix.step0 fun K hK => ?_; go_simp; (try (go_bits; try go_simp)); first | ((with_reducible refine hK _ _ ?_); clear hK K) | ((try (simp only [IntWalk.iteOmega]; try go_simp)); (try go_bits); (with_reducible refine hK _ _ ?_); clear hK K))
                                  (first | (refine Mix.stepS rfl fun K hK => ?_; go_simp; (with_reducible refine hK _ _ ?_); clear hK K) | (refine Mix.step1 fun K hK => ?_; go_simp; (try (go_bits; try go_simp)); first | ((with_reducible refine hK _ _ ?_); clear hK K) | ((try (simp only [IntWalk.iteOmega]; try go_simp)); (try go_bits); (with_reducible refine hK _ _ ?_); clear hK K)))
                                  (first | (refine Mix.stepS rfl fun K hK => ?_; go_simp; (with_reducible refine hK _ _ ?_); clear hK K) | (refine Mix.step1 fun K hK => ?_; go_simp; (try (go_bits; try go_simp)); first | ((with_reducible refine hK _ _ ?_); clear hK K) | ((try (simp only [IntWalk.iteOmega]; try go_simp)); (try go_bits); (with_reducible refine hK _ _ ?_); clear hK K)))
                                  (first | (refine Mix.stepS rfl fun K hK => ?_; go_simp; (with_reducible refine hK _ _ ?_); clear hK K) | (refine Mix.step1 fun K hK => ?_; go_simp; (try (go_bits; try go_simp)); first | ((with_reducible refine hK _ _ ?_); clear hK K) | ((try (simp only [IntWalk.iteOmega]; try go_simp)); (try go_bits); (with_reducible refine hK _ _ ?_); clear hK K)))
                                  (first | (refine Mix.stepS rfl fun K hK => ?_; go_simp; (with_reducible refine hK _ _ ?_); clear hK K) | (refine Mix.step1 fun K hK => ?_; go_simp; refine ⟨fun W => ?_, hK _ _ ?_⟩; (intro hW1; (try intro hW2); (try intro hW3); (try intro hW4); (try intro hW5); (try intro hW6); (try intro hW7); (try intro hW8); go_simp); clear hK K))
                                  iterate 3 (first | (refine Mix.stepS rfl fun K hK => ?_; go_simp; (with_reducible refine hK _ _ ?_); clear hK K) | (refine Mix.step0 fun K hK => ?_; go_simp; (try (go_bits; try go_simp)); first | ((with_reducible refine hK _ _ ?_); clear hK K) | ((try (simp only [IntWalk.iteOmega]; try go_simp)); (try go_bits); (with_reducible refine hK _ _ ?_); clear hK K)))
                                  refine Mix.step2s (by first | rfl | simp [Region.wanted, yielded]) ?_
                                  iterate 1 (first | (refine Mix.stepS rfl fun K hK => ?_; go_simp; (with_reducible refine hK _ _ ?_); clear hK K) | (refine Mix.step0 fun K hK => ?_; go_simp; (try (go_bits; try go_simp)); first | ((with_reducible refine hK _ _ ?_); clear hK K) | ((try (simp only [IntWalk.iteOmega]; try go_simp)); (try go_bits); (with_reducible refine hK _ _ ?_); clear hK K)))
                                  (first | (refine Mix.stepS rfl fun K hK => ?_; go_simp; (with_reducible refine hK _ _ ?_); clear hK K) | (refine Mix.step1 fun K hK => ?_; go_simp; (try (go_bits; try go_simp)); first | ((with_reducible refine hK _ _ ?_); clear hK K) | ((try (simp only [IntWalk.iteOmega]; try go_simp)); (try go_bits); (with_reducible refine hK _ _ ?_); clear hK K)))
                                  (first | (refine Mix.stepS rfl fun K hK => ?_; go_simp; (with_reducible refine hK _ _ ?_); clear hK K) | (refine Mix.step1 fun K hK => ?_; go_simp; (try (go_bits; try go_simp)); first | ((with_reducible refine hK _ _ ?_); clear hK K) | ((try (simp only [IntWalk.iteOmega]; try go_simp)); (try go_bits); (with_reducible refine hK _ _ ?_); clear hK K)))
                                  (first | (refine Mix.stepS rfl fun K hK => ?_; go_simp; (with_reducible refine hK _ _ ?_); clear hK K) | (refine Mix.step1 fun K hK => ?_; go_simp; (try (go_bits; try go_simp)); first | ((with_reducible refine hK _ _ ?_); clear hK K) | ((try (simp only [IntWalk.iteOmega]; try go_simp)); (try go_bits); (with_reducible refine hK _ _ ?_); clear hK K)))
                                  (first | (refine Mix.stepS rfl fun K hK => ?_; go_simp; (with_reducible refine hK _ _ ?_); clear hK K) | (refine Mix.step1 fun K hK => ?_; go_simp; refine ⟨fun W => ?_, hK _ _ ?_⟩; (intro hW1; (try intro hW2); (try intro hW3); (try intro hW4); (try intro hW5); (try intro hW6); (try intro hW7); (try intro hW8); go_simp); clear hK K))
                                  iterate 1 (first | (refine Mix.stepS rfl fun K hK => ?_; go_simp; (with_reducible refine hK _ _ ?_); clear hK K) | (refine Mix.step0 fun K hK => ?_; go_simp; (try (go_bits; try go_simp)); first | ((with_reducible refine hK _ _ ?_); clear hK K) | ((try (simp only [IntWalk.iteOmega]; try go_simp)); (try go_bits); (with_reducible refine hK _ _ ?_); clear hK K)))
                                  iterate 2 (refine Mix.step0 fun K hK => ?_; go_simp; (try (go_bits; try go_simp)); first | ((with_reducible refine hK _ _ ?_); clear hK K) | ((try (simp only [IntWalk.iteOmega]; try go_simp)); (try go_bits); (with_reducible refine hK _ _ ?_); clear hK K))
                                  iterate 10 (first | (refine Mix.stepS rfl fun K hK => ?_; go_simp; (with_reducible refine hK _ _ ?_); clear hK K) | (refine Mix.step0 fun K hK => ?_; go_simp; (try (go_bits; try go_simp)); first | ((with_reducible refine hK _ _ ?_); clear hK K) | ((try (simp only [IntWalk.iteOmega]; try go_simp)); (try go_bits); (with_reducible refine hK _ _ ?_); clear hK K)))
                                  iterate 1 (refine Mix.step0 fun K hK => ?_; go_simp; (try (go_bits; try go_simp)); first | ((with_reducible refine hK _ _ ?_); clear hK K) | ((try (simp only [IntWalk.iteOmega]; try go_simp)); (try go_bits); (with_reducible refine hK _ _ ?_); clear hK K))
                                  refine Mix.done ?_
                                  go_wp2_with fail
                                  refine Round.intro (i) ?measure19 (by kernel_rfl) (hJ6 _ _ _ ?rel19)
                                  case' rel19 => (try dsimp only [nthV])
                                  case measure19 => omega
                                  case rel19 => exact ⟨B, rfl, by omega, HST, (by first | exact hs | exact hs.drew)⟩
                                · have d2 : decide (0 < R) = true := decide_eq_true (by omega)
                                  by_cases hx0 : x < 0
                                  · have d3 : decide (0 ≤ x) = false := decide_eq_false (by omega)
                                    have HST := Lib.hid (HKEEP.out (.inr (by rw [HC.out, d3, Bool.and_false, Bool.false_and, Bool.false_and])))
                                    clear hvq hR0 hx0
                                    go_wp2_with fail
                                    refine Mix.region [0, 0, 0, 0, 0, 0, 0, 2, 0, 0, 0, 0, 0, 0, 0, 0, 0, 0, 1, 1, 1, 1, 0, 0, 0, 2, 0, 1, 1, 1, 1, 0, 0, 0, 0, 0, 0, 0, 0, 0, 0, 0, 0, 0, 0] (fun W : World => W.cell? ⟨b1, U, none⟩ = some (.int .i64 x) ∧ W.cell? ⟨b1, q, none⟩ = some (.int .i64 y)) (by kernel_rfl) (by kernel_rfl) hCW ?_
                                    simp only [List.zip_cons_cons, List.zip_nil_right]
                                    iterate 4 (refine Mix.step0 fun K hK => ?_; go_simp; (try (go_bits; try go_simp)); first | ((with_reducible refine hK _ _ ?_); clear hK K) | ((try (simp only [IntWalk.iteOmega]; try go_simp)); (try go_bits); (with_reducible refine hK _ _ ?_); clear hK K))
                                    iterate 3 (first | (refine Mix.stepS rfl fun K hK => ?_; go_simp; (with_reducible refine hK _ _ ?_); clear hK K) | (refine Mix.step0 fun K hK => ?_; go_simp; (try (go_bits; try go_simp)); first | ((with_reducible refine hK _ _ ?_); clear hK K) | ((try (simp only [IntWalk.iteOmega]; try go_simp)); (try go_bits); (with_reducible refine hK _ _ ?_); clear hK K)))
                                    refine Mix.step2n (by first | rfl | simp [Region.wanted, yielded]) fun K hK => ?_
                                    go_wp2_with fail
                                    refine (rroom_any _ a c es _ fl i _ (hs.drew.rdG h) (hs.drew.rd hf) (by omega)).mono ?_
                                    rintro en w8 ⟨rfl, hb⟩
                                    rw [HRO.out, ← HRR.out]
                                    replace hs := hs.drew.belowStep hb
                                    clear hb n0 n1 hCW
                                    obtain ⟨g', cg', eg, _, hcR, df⟩ := (hs.ints 2 rfl).get U (by rw [HNE.out.lD]; exact hUN)
                                    injection eg with eg q1 q2
                                    injection eg with eg
                                    injection eg with eg
                                    subst eg
                                    have du := hcR U (by rw [HNE.out.lD]; exact hUN)
                                    clear q1 q2 hcR
                                    rw [show D.getD U 0 = x from HX.out.symm] at du
                                    obtain ⟨g', cg', eg, _, hcR, dfq⟩ := (hs.ints 2 rfl).get q (by rw [HNE.out.lD]; exact hqt)
                                    injection eg with eg q1 q2
                                    injection eg with eg
                                    injection eg with eg
                                    subst eg
                                    have dq := hcR q (by rw [HNE.out.lD]; exact hqt)
                                    clear q1 q2 hcR
                                    rw [show D.getD q 0 = y from HY.out.symm] at dq
                                    clear df dfq
                                    have hCW := And.intro du dq
                                    clear du dq
                                    have n0 := cell_of (hs.cells 3 rfl) 0
                                    have n1 := cell_of (hs.cells 3 rfl) 1
                                    simp only [List.getElem?_toArray, List.getElem?_cons_zero, List.getElem?_cons_succ] at n0 n1
                                    go_wp2_with fail
                                    refine Mix.post_mk (C := (fun W : World => W.cell? ⟨b1, U, none⟩ = some (.int .i64 x) ∧ W.cell? ⟨b1, q, none⟩ = some (.int .i64 y))) (by first | exact hCW | exact HCW.out _) (hK _ _ ?_)
                                    clear hK K
                                    iterate 1 (first | (refine Mix.stepS rfl fun K hK => ?_; go_simp; (with_reducible refine hK _ _ ?_); clear hK K) | (refine Mix.step0 fun K hK => ?_; go_simp; (try (go_bits; try go_simp)); first | ((with_reducible refine hK _ _ ?_); clear hK K) | ((try (simp only [IntWalk.iteOmega]; try go_simp)); (try go_bits); (with_reducible refine hK _ _ ?_); clear hK K)))
                                    iterate 2 (refine Mix.step0 fun K hK => ?_; go_simp; (try (go_bits; try go_simp)); first | ((with_reducible refine hK _ _ ?_); clear hK K) | ((try (simp only [IntWalk.iteOmega]; try go_simp)); (try go_bits); (with_reducible refine hK _ _ ?_); clear hK K))
                                    iterate 5 (first | (refine Mix.stepS rfl fun K hK => ?_; go_simp; (with_reducible refine hK _ _ ?_); clear hK K) | (refine Mix.step0 fun K hK => ?_; go_simp; (try (go_bits; try go_simp)); first | ((with_reducible refine hK _ _ ?_); clear hK K) | ((try (simp only [IntWalk.iteOmega]; try go_simp)); (try go_bits); (with_reducible refine hK _ _ ?_); clear hK K)))
                                    iterate 2 (refine Mix.step0 fun K hK => ?_; go_simp; (try (go_bits; try go_simp)); first | ((with_reducible refine hK _ _ ?_); clear hK K) | ((try (simp only [IntWalk.iteOmega]; try go_simp)); (try go_bits); (with_reducible refine hK _ _ ?_); clear hK K))
                                    (first | (refine Mix.stepS rfl fun K hK => ?_; go_simp; (with_reducible refine hK _ _ ?_); clear hK K) | (refine Mix.step1 fun K hK => ?_; go_simp; (try (go_bits; try go_simp)); first | ((with_reducible refine hK _ _ ?_); clear hK K) | ((try (simp only [IntWalk.iteOmega]; try go_simp)); (try go_bits); (with_reducible refine hK _ _ ?_); clear hK K)))
                                    (first | (refine Mix.stepS rfl fun K hK => ?_; go_simp; (with_reducible refine hK _ _ ?_); clear hK K) | (refine Mix.step1 fun K hK => ?_; go_simp; (try (go_bits; try go_simp)); first | ((with_reducible refine hK _ _ ?_); clear hK K) | ((try (simp only [IntWalk.iteOmega]; try go_simp)); (try go_bits); (with_reducible refine hK _ _ ?_); clear hK K)))
                                    (first | (refine Mix.stepS rfl fun K hK => ?_; go_simp; (with_reducible refine hK _ _ ?_); clear hK K) | (refine Mix.step1 fun K hK => ?_; go_simp; (try (go_bits; try go_simp)); first | ((with_reducible refine hK _ _ ?_); clear hK K) | ((try (simp only [IntWalk.iteOmega]; try go_simp)); (try go_bits); (with_reducible refine hK _ _ ?_); clear hK K)))
                                    (first | (refine Mix.stepS rfl fun K hK => ?_; go_simp; (with_reducible refine hK _ _ ?_); clear hK K) | (refine Mix.step1 fun K hK => ?_; go_simp; refine ⟨fun W => ?_, hK _ _ ?_⟩; (intro hW1; (try intro hW2); (try intro hW3); (try intro hW4); (try intro hW5); (try intro hW6); (try intro hW7); (try intro hW8); go_simp); clear hK K))
                                    iterate 3 (first | (refine Mix.stepS rfl fun K hK => ?_; go_simp; (with_reducible refine hK _ _ ?_); clear hK K) | (refine Mix.step0 fun K hK => ?_; go_simp; (try (go_bits; try go_simp)); first | ((with_reducible refine hK _ _ ?_); clear hK K) | ((try (simp only [IntWalk.iteOmega]; try go_simp)); (try go_bits); (with_reducible refine hK _ _ ?_); clear hK K)))
                                    refine Mix.step2s (by first | rfl | simp [Region.wanted, yielded]) ?_
                                    iterate 1 (first | (refine Mix.stepS rfl fun K hK => ?_; go_simp; (with_reducible refine hK _ _ ?_); clear hK K) | (refine Mix.step0 fun K hK => ?_; go_simp; (try (go_bits; try go_simp)); first | ((with_reducible refine hK _ _ ?_); clear hK K) | ((try (simp only [IntWalk.iteOmega]; try go_simp)); (try go_bits); (with_reducible refine hK _ _ ?_); clear hK K)))
                                    (first | (refine Mix.stepS rfl fun K hK => ?_; go_simp; (with_reducible refine hK _ _ ?_); clear hK K) | (refine Mix.step1 fun K hK => ?_; go_simp; (try (go_bits; try go_simp)); first | ((with_reducible refine hK _ _ ?_); clear hK K) | ((try (simp only [IntWalk.iteOmega]; try go_simp)); (try go_bits); (with_reducible refine hK _ _ ?_); clear hK K)))
                                    (first | (refine Mix.stepS rfl fun K hK => ?_; go_simp; (with_reducible refine hK _ _ ?_); clear hK K) | (refine Mix.step1 fun K hK => ?_; go_simp; (try (go_bits; try go_simp)); first | ((with_reducible refine hK _ _ ?_); clear hK K) | ((try (simp only [IntWalk.iteOmega]; try go_simp)); (try go_bits); (with_reducible refine hK _ _ ?_); clear hK K)))
                                    (first | (refine Mix.stepS rfl fun K hK => ?_; go_simp; (with_reducible refine hK _ _ ?_); clear hK K) | (refine Mix.step1 fun K hK => ?_; go_simp; (try (go_bits; try go_simp)); first | ((with_reducible refine hK _ _ ?_); clear hK K) | ((try (simp only [IntWalk.iteOmega]; try go_simp)); (try go_bits); (with_reducible refine hK _ _ ?_); clear hK K)))
                                    (first | (refine Mix.stepS rfl fun K hK => ?_; go_simp; (with_reducible refine hK _ _ ?_); clear hK K) | (refine Mix.step1 fun K hK => ?_; go_simp; refine ⟨fun W => ?_, hK _ _ ?_⟩; (intro hW1; (try intro hW2); (try intro hW3); (try intro hW4); (try intro hW5); (try intro hW6); (try intro hW7); (try intro hW8); go_simp); clear hK K))
                                    iterate 1 (first | (refine Mix.stepS rfl fun K hK => ?_; go_simp; (with_reducible refine hK _ _ ?_); clear hK K) | (refine Mix.step0 fun K hK => ?_; go_simp; (try (go_bits; try go_simp)); first | ((with_reducible refine hK _ _ ?_); clear hK K) | ((try (simp only [IntWalk.iteOmega]; try go_simp)); (try go_bits); (with_reducible refine hK _ _ ?_); clear hK K)))
                                    iterate 2 (refine Mix.step0 fun K hK => ?_; go_simp; (try (go_bits; try go_simp)); first | ((with_reducible refine hK _ _ ?_); clear hK K) | ((try (simp only [IntWalk.iteOmega]; try go_simp)); (try go_bits); (with_reducible refine hK _ _ ?_); clear hK K))
                                    iterate 10 (first | (refine Mix.stepS rfl fun K hK => ?_; go_simp; (with_reducible refine hK _ _ ?_); clear hK K) | (refine Mix.step0 fun K hK => ?_; go_simp; (try (go_bits; try go_simp)); first | ((with_reducible refine hK _ _ ?_); clear hK K) | ((try (simp only [IntWalk.iteOmega]; try go_simp)); (try go_bits); (with_reducible refine hK _ _ ?_); clear hK K)))
                                    iterate 1 (refine Mix.step0 fun K hK => ?_; go_simp; (try (go_bits; try go_simp)); first | ((with_reducible refine hK _ _ ?_); clear hK K) | ((try (simp only [IntWalk.iteOmega]; try go_simp)); (try go_bits); (with_reducible refine hK _ _ ?_); clear hK K))
                                    refine Mix.done ?_
                                    go_wp2_with fail
                                    refine Round.intro (i) ?measure20 (by kernel_rfl) (hJ6 _ _ _ ?rel20)
                                    case' rel20 => (try dsimp only [nthV])
                                    case measure20 => omega
                                    case rel20 => exact ⟨B, rfl, by omega, HST, (by first | exact hs | exact hs.drew)⟩
                                  · have d3 : decide (0 ≤ x) = true := decide_eq_true (by omega)
                                    have hx1 : 0 ≤ x := by omega
                                    by_cases hxy : x + T = y
                                    · have d4 : (x + T == y) = true := beq_iff_eq.2 hxy
                                      by_cases hpz : p + 1 = z
                                      · have d5 : (p + 1 == z) = true := beq_iff_eq.2 hpz
                                        have HST := Lib.hid (HSET.out (by rw [← HRR.out]; omega) (by rw [HC.out, d3, decide_eq_true hvq, decide_eq_true hxy, decide_eq_true hpz]; rfl))
                                        clear hvq hR0 hx0 hxy hpz
                                        go_wp2_with fail
                                        refine Mix.region [0, 0, 0, 0, 0, 0, 0, 2, 0, 0, 0, 0, 0, 0, 0, 0, 0, 0, 1, 1, 1, 1, 0, 0, 0, 2, 0, 1, 1, 1, 1, 0, 0, 0, 0, 0, 0, 0, 0, 0, 0, 0, 0, 0, 0] (fun W : World => W.cell? ⟨b1, U, none⟩ = some (.int .i64 x) ∧ W.cell? ⟨b1, q, none⟩ = some (.int .i64 y)) (by kernel_rfl) (by kernel_rfl) hCW ?_
                                        simp only [List.zip_cons_cons, List.zip_nil_right]
                                        iterate 4 (refine Mix.step0 fun K hK => ?_; go_simp; (try (go_bits; try go_simp)); first | ((with_reducible refine hK _ _ ?_); clear hK K) | ((try (simp only [IntWalk.iteOmega]; try go_simp)); (try go_bits); (with_reducible refine hK _ _ ?_); clear hK K))
                                        iterate 3 (first | (refine Mix.stepS rfl fun K hK => ?_; go_simp; (with_reducible refine hK _ _ ?_); clear hK K) | (refine Mix.step0 fun K hK => ?_; go_simp; (try (go_bits; try go_simp)); first | ((with_reducible refine hK _ _ ?_); clear hK K) | ((try (simp only [IntWalk.iteOmega]; try go_simp)); (try go_bits); (with_reducible refine hK _ _ ?_); clear hK K)))
                                        refine Mix.step2n (by first | rfl | simp [Region.wanted, yielded]) fun K hK => ?_
                                        go_wp2_with fail
                                        refine (rroom_any _ a c es _ fl i _ (hs.drew.rdG h) (hs.drew.rd hf) (by omega)).mono ?_
                                        rintro en w8 ⟨rfl, hb⟩
                                        rw [HRO.out, ← HRR.out]
                                        replace hs := hs.drew.belowStep hb
                                        clear hb n0 n1 hCW
                                        obtain ⟨g', cg', eg, _, hcR, df⟩ := (hs.ints 2 rfl).get U (by rw [HNE.out.lD]; exact hUN)
                                        injection eg with eg q1 q2
                                        injection eg with eg
                                        injection eg with eg
                                        subst eg
                                        have du := hcR U (by rw [HNE.out.lD]; exact hUN)
                                        clear q1 q2 hcR
                                        rw [show D.getD U 0 = x from HX.out.symm] at du
                                        obtain ⟨g', cg', eg, _, hcR, dfq⟩ := (hs.ints 2 rfl).get q (by rw [HNE.out.lD]; exact hqt)
                                        injection eg with eg q1 q2
                                        injection eg with eg
                                        injection eg with eg
                                        subst eg
                                        have dq := hcR q (by rw [HNE.out.lD]; exact hqt)
                                        clear q1 q2 hcR
                                        rw [show D.getD q 0 = y from HY.out.symm] at dq
                                        clear df dfq
                                        have hCW := And.intro du dq
                                        clear du dq
                                        have n0 := cell_of (hs.cells 3 rfl) 0
                                        have n1 := cell_of (hs.cells 3 rfl) 1
                                        simp only [List.getElem?_toArray, List.getElem?_cons_zero, List.getElem?_cons_succ] at n0 n1
                                        go_wp2_with fail
                                        refine Mix.post_mk (C := (fun W : World => W.cell? ⟨b1, U, none⟩ = some (.int .i64 x) ∧ W.cell? ⟨b1, q, none⟩ = some (.int .i64 y))) (by first | exact hCW | exact HCW.out _) (hK _ _ ?_)
                                        clear hK K
                                        iterate 1 (first | (refine Mix.stepS rfl fun K hK => ?_; go_simp; (with_reducible refine hK _ _ ?_); clear hK K) | (refine Mix.step0 fun K hK => ?_; go_simp; (try (go_bits; try go_simp)); first | ((with_reducible refine hK _ _ ?_); clear hK K) | ((try (simp only [IntWalk.iteOmega]; try go_simp)); (try go_bits); (with_reducible refine hK _ _ ?_); clear hK K)))
                                        iterate 2 (refine Mix.step0 fun K hK => ?_; go_simp; (try (go_bits; try go_simp)); first | ((with_reducible refine hK _ _ ?_); clear hK K) | ((try (simp only [IntWalk.iteOmega]; try go_simp)); (try go_bits); (with_reducible refine hK _ _ ?_); clear hK K))
                                        iterate 5 (first | (refine Mix.stepS rfl fun K hK => ?_; go_simp; (with_reducible refine hK _ _ ?_); clear hK K) | (refine Mix.step0 fun K hK => ?_; go_simp; (try (go_bits; try go_simp)); first | ((with_reducible refine hK _ _ ?_); clear hK K) | ((try (simp only [IntWalk.iteOmega]; try go_simp)); (try go_bits); (with_reducible refine hK _ _ ?_); clear hK K)))
                                        iterate 2 (refine Mix.step0 fun K hK => ?_; go_simp; (try (go_bits; try go_simp)); first | ((with_reducible refine hK _ _ ?_); clear hK K) | ((try (simp only [IntWalk.iteOmega]; try go_simp)); (try go_bits); (with_reducible refine hK _ _ ?_); clear hK K))
                                        (first | (refine Mix.stepS rfl fun K hK => ?_; go_simp; (with_reducible refine hK _ _ ?_); clear hK K) | (refine Mix.step1 fun K hK => ?_; go_simp; (try (go_bits; try go_simp)); first | ((with_reducible refine hK _ _ ?_); clear hK K) | ((try (simp only [IntWalk.iteOmega]; try go_simp)); (try go_bits); (with_reducible refine hK _ _ ?_); clear hK K)))
                                        (first | (refine Mix.stepS rfl fun K hK => ?_; go_simp; (with_reducible refine hK _ _ ?_); clear hK K) | (refine Mix.step1 fun K hK => ?_; go_simp; (try (go_bits; try go_simp)); first | ((with_reducible refine hK _ _ ?_); clear hK K) | ((try (simp only [IntWalk.iteOmega]; try go_simp)); (try go_bits); (with_reducible refine hK _ _ ?_); clear hK K)))
                                        (first | (refine Mix.stepS rfl fun K hK => ?_; go_simp; (with_reducible refine hK _ _ ?_); clear hK K) | (refine Mix.step1 fun K hK => ?_; go_simp; (try (go_bits; try go_simp)); first | ((with_reducible refine hK _ _ ?_); clear hK K) | ((try (simp only [IntWalk.iteOmega]; try go_simp)); (try go_bits); (with_reducible refine hK _ _ ?_); clear hK K)))
                                        (first | (refine Mix.stepS rfl fun K hK => ?_; go_simp; (with_reducible refine hK _ _ ?_); clear hK K) | (refine Mix.step1 fun K hK => ?_; go_simp; refine ⟨fun W => ?_, hK _ _ ?_⟩; (intro hW1; (try intro hW2); (try intro hW3); (try intro hW4); (try intro hW5); (try intro hW6); (try intro hW7); (try intro hW8); go_simp); clear hK K))
                                        iterate 3 (first | (refine Mix.stepS rfl fun K hK => ?_; go_simp; (with_reducible refine hK _ _ ?_); clear hK K) | (refine Mix.step0 fun K hK => ?_; go_simp; (try (go_bits; try go_simp)); first | ((with_reducible refine hK _ _ ?_); clear hK K) | ((try (simp only [IntWalk.iteOmega]; try go_simp)); (try go_bits); (with_reducible refine hK _ _ ?_); clear hK K)))
                                        refine Mix.step2n (by first | rfl | simp [Region.wanted, yielded]) fun K hK => ?_
                                        go_wp2_with fail
                                        refine (rlen_any _ a c es _ pot i _ (hs.rdG h) (hs.rd hp) HR.out hie HPB.out).mono ?_
                                        rintro en w9 ⟨rfl, hb⟩
                                        rw [← HTT.out]
                                        replace hs := hs.belowStep hb
                                        clear hb n0 n1 hCW
                                        obtain ⟨g', cg', eg, _, hcR, df⟩ := (hs.ints 2 rfl).get U (by rw [HNE.out.lD]; exact hUN)
                                        injection eg with eg q1 q2
                                        injection eg with eg
                                        injection eg with eg
                                        subst eg
                                        have du := hcR U (by rw [HNE.out.lD]; exact hUN)
                                        clear q1 q2 hcR
                                        rw [show D.getD U 0 = x from HX.out.symm] at du
                                        obtain ⟨g', cg', eg, _, hcR, dfq⟩ := (hs.ints 2 rfl).get q (by rw [HNE.out.lD]; exact hqt)
                                        injection eg with eg q1 q2
                                        injection eg with eg
                                        injection eg with eg
                                        subst eg
                                        have dq := hcR q (by rw [HNE.out.lD]; exact hqt)
                                        clear q1 q2 hcR
                                        rw [show D.getD q 0 = y from HY.out.symm] at dq
                                        clear df dfq
                                        have hCW := And.intro du dq
                                        clear du dq
                                        have n0 := cell_of (hs.cells 3 rfl) 0
                                        have n1 := cell_of (hs.cells 3 rfl) 1
                                        simp only [List.getElem?_toArray, List.getElem?_cons_zero, List.getElem?_cons_succ] at n0 n1
                                        obtain ⟨g', cg', eg, _, hcR, hpf⟩ := (hs.ints 1 rfl).get U (by rw [HNE.out.lH]; exact hUN)
                                        injection eg with eg q1 q2
                                        injection eg with eg
                                        injection eg with eg
                                        subst eg
                                        have hpu := hcR U (by rw [HNE.out.lH]; exact hUN)
                                        clear q1 q2 hcR
                                        rw [show H.getD U 0 = p from HP.out.symm] at hpu
                                        obtain ⟨g', cg', eg, _, hcR, hzf⟩ := (hs.ints 1 rfl).get q (by rw [HNE.out.lH]; exact hqt)
                                        injection eg with eg q1 q2
                                        injection eg with eg
                                        injection eg with eg
                                        subst eg
                                        have hz := hcR q (by rw [HNE.out.lH]; exact hqt)
                                        clear q1 q2 hcR
                                        rw [show H.getD q 0 = z from HZ.out.symm] at hz
                                        clear hpf hzf
                                        go_wp2_with fail
                                        refine Mix.post_mk (C := (fun W : World => W.cell? ⟨b1, U, none⟩ = some (.int .i64 x) ∧ W.cell? ⟨b1, q, none⟩ = some (.int .i64 y))) (by first | exact hCW | exact HCW.out _) (hK _ _ ?_)
                                        clear hK K
                                        iterate 1 (first | (refine Mix.stepS rfl fun K hK => ?_; go_simp; (with_reducible refine hK _ _ ?_); clear hK K) | (refine Mix.step0 fun K hK => ?_; go_simp; (try (go_bits; try go_simp)); first | ((with_reducible refine hK _ _ ?_); clear hK K) | ((try (simp only [IntWalk.iteOmega]; try go_simp)); (try go_bits); (with_reducible refine hK _ _ ?_); clear hK K)))
                                        (first | (refine Mix.stepS rfl fun K hK => ?_; go_simp; (with_reducible refine hK _ _ ?_); clear hK K) | (refine Mix.step1 fun K hK => ?_; go_simp; (try (go_bits; try go_simp)); first | ((with_reducible refine hK _ _ ?_); clear hK K) | ((try (simp only [IntWalk.iteOmega]; try go_simp)); (try go_bits); (with_reducible refine hK _ _ ?_); clear hK K)))
                                        (first | (refine Mix.stepS rfl fun K hK => ?_; go_simp; (with_reducible refine hK _ _ ?_); clear hK K) | (refine Mix.step1 fun K hK => ?_; go_simp; (try (go_bits; try go_simp)); first | ((with_reducible refine hK _ _ ?_); clear hK K) | ((try (simp only [IntWalk.iteOmega]; try go_simp)); (try go_bits); (with_reducible refine hK _ _ ?_); clear hK K)))
                                        (first | (refine Mix.stepS rfl fun K hK => ?_; go_simp; (with_reducible refine hK _ _ ?_); clear hK K) | (refine Mix.step1 fun K hK => ?_; go_simp; (try (go_bits; try go_simp)); first | ((with_reducible refine hK _ _ ?_); clear hK K) | ((try (simp only [IntWalk.iteOmega]; try go_simp)); (try go_bits); (with_reducible refine hK _ _ ?_); clear hK K)))
                                        (first | (refine Mix.stepS rfl fun K hK => ?_; go_simp; (with_reducible refine hK _ _ ?_); clear hK K) | (refine Mix.step1 fun K hK => ?_; go_simp; refine ⟨fun W => ?_, hK _ _ ?_⟩; (intro hW1; (try intro hW2); (try intro hW3); (try intro hW4); (try intro hW5); (try intro hW6); (try intro hW7); (try intro hW8); go_simp); clear hK K))
                                        iterate 1 (first | (refine Mix.stepS rfl fun K hK => ?_; go_simp; (with_reducible refine hK _ _ ?_); clear hK K) | (refine Mix.step0 fun K hK => ?_; go_simp; (try (go_bits; try go_simp)); first | ((with_reducible refine hK _ _ ?_); clear hK K) | ((try (simp only [IntWalk.iteOmega]; try go_simp)); (try go_bits); (with_reducible refine hK _ _ ?_); clear hK K)))
                                        iterate 2 (refine Mix.step0 fun K hK => ?_; go_simp; (try (go_bits; try go_simp)); first | ((with_reducible refine hK _ _ ?_); clear hK K) | ((try (simp only [IntWalk.iteOmega]; try go_simp)); (try go_bits); (with_reducible refine hK _ _ ?_); clear hK K))
                                        iterate 10 (first | (refine Mix.stepS rfl fun K hK => ?_; go_simp; (with_reducible refine hK _ _ ?_); clear hK K) | (refine Mix.step0 fun K hK => ?_; go_simp; (try (go_bits; try go_simp)); first | ((with_reducible refine hK _ _ ?_); clear hK K) | ((try (simp only [IntWalk.iteOmega]; try go_simp)); (try go_bits); (with_reducible refine hK _ _ ?_); clear hK K)))
                                        iterate 1 (refine Mix.step0 fun K hK => ?_; go_simp; (try (go_bits; try go_simp)); first | ((with_reducible refine hK _ _ ?_); clear hK K) | ((try (simp only [IntWalk.iteOmega]; try go_simp)); (try go_bits); (with_reducible refine hK _ _ ?_); clear hK K))
                                        refine Mix.done ?_
                                        clear hCW n0 n1 hpu hz
                                        obtain ⟨g', cg', eg, _, hcR, hbf⟩ := (hs.ints 0 rfl).get q (by rw [HIN.out.1.len]; exact hqt)
                                        injection eg with eg q1 q2
                                        injection eg with eg
                                        injection eg with eg
                                        subst eg
                                        have hbq := hcR q (by rw [HIN.out.1.len]; exact hqt)
                                        clear q1 q2 hcR
                                        go_wp2_with fail
                                        have hs2 : Sep w _ (refL b1 b2 b3 N nb #[.int .i64 N, .slice a es.length c] D H (B.set q i)) := hs.setInts (j := q) 0 rfl i
                                        clear hs hbq hbf
                                        refine Round.intro (i) ?measure21 (by kernel_rfl) (hJ6 _ _ _ ?rel21)
                                        case' rel21 => (try dsimp only [nthV])
                                        case measure21 => omega
                                        case rel21 => exact ⟨_, rfl, by omega, HST, hs2⟩
                                      · have d5 : (p + 1 == z) = false := beq_eq_false_iff_ne.2 hpz
                                        have HST := Lib.hid (HKEEP.out (.inr (by rw [HC.out, decide_eq_false hpz, Bool.and_false])))
                                        clear hvq hR0 hx0 hxy hpz
                                        go_wp2_with fail
                                        refine Mix.region [0, 0, 0, 0, 0, 0, 0, 2, 0, 0, 0, 0, 0, 0, 0, 0, 0, 0, 1, 1, 1, 1, 0, 0, 0, 2, 0, 1, 1, 1, 1, 0, 0, 0, 0, 0, 0, 0, 0, 0, 0, 0, 0, 0, 0] (fun W : World => W.cell? ⟨b1, U, none⟩ = some (.int .i64 x) ∧ W.cell? ⟨b1, q, none⟩ = some (.int .i64 y)) (by kernel_rfl) (by kernel_rfl) hCW ?_
                                        simp only [List.zip_cons_cons, List.zip_nil_right]
                                        iterate 4 (refine Mix.step0 fun K hK => ?_; go_simp; (try (go_bits; try go_simp)); first | ((with_reducible refine hK _ _ ?_); clear hK K) | ((try (simp only [IntWalk.iteOmega]; try go_simp)); (try go_bits); (with_reducible refine hK _ _ ?_); clear hK K))
                                        iterate 3 (first | (refine Mix.stepS rfl fun K hK => ?_; go_simp; (with_reducible refine hK _ _ ?_); clear hK K) | (refine Mix.step0 fun K hK => ?_; go_simp; (try (go_bits; try go_simp)); first | ((with_reducible refine hK _ _ ?_); clear hK K) | ((try (simp only [IntWalk.iteOmega]; try go_simp)); (try go_bits); (with_reducible refine hK _ _ ?_); clear hK K)))
                                        refine Mix.step2n (by first | rfl | simp [Region.wanted, yielded]) fun K hK => ?_
                                        go_wp2_with fail
                                        refine (rroom_any _ a c es _ fl i _ (hs.drew.rdG h) (hs.drew.rd hf) (by omega)).mono ?_
                                        rintro en w8 ⟨rfl, hb⟩
                                        rw [HRO.out, ← HRR.out]
                                        replace hs := hs.drew.belowStep hb
                                        clear hb n0 n1 hCW
                                        obtain ⟨g', cg', eg, _, hcR, df⟩ := (hs.ints 2 rfl).get U (by rw [HNE.out.lD]; exact hUN)
                                        injection eg with eg q1 q2
                                        injection eg with eg
                                        injection eg with eg
                                        subst eg
                                        have du := hcR U (by rw [HNE.out.lD]; exact hUN)
                                        clear q1 q2 hcR
                                        rw [show D.getD U 0 = x from HX.out.symm] at du
                                        obtain ⟨g', cg', eg, _, hcR, dfq⟩ := (hs.ints 2 rfl).get q (by rw [HNE.out.lD]; exact hqt)
                                        injection eg with eg q1 q2
                                        injection eg with eg
                                        injection eg with eg
                                        subst eg
                                        have dq := hcR q (by rw [HNE.out.lD]; exact hqt)
                                        clear q1 q2 hcR
                                        rw [show D.getD q 0 = y from HY.out.symm] at dq
                                        clear df dfq
                                        have hCW := And.intro du dq
                                        clear du dq
                                        have n0 := cell_of (hs.cells 3 rfl) 0
                                        have n1 := cell_of (hs.cells 3 rfl) 1
                                        simp only [List.getElem?_toArray, List.getElem?_cons_zero, List.getElem?_cons_succ] at n0 n1
                                        go_wp2_with fail
                                        refine Mix.post_mk (C := (fun W : World => W.cell? ⟨b1, U, none⟩ = some (.int .i64 x) ∧ W.cell? ⟨b1, q, none⟩ = some (.int .i64 y))) (by first | exact hCW | exact HCW.out _) (hK _ _ ?_)
                                        clear hK K
                                        iterate 1 (first | (refine Mix.stepS rfl fun K hK => ?_; go_simp; (with_reducible refine hK _ _ ?_); clear hK K) | (refine Mix.step0 fun K hK => ?_; go_simp; (try (go_bits; try go_simp)); first | ((with_reducible refine hK _ _ ?_); clear hK K) | ((try (simp only [IntWalk.iteOmega]; try go_simp)); (try go_bits); (with_reducible refine hK _ _ ?_); clear hK K)))
                                        iterate 2 (refine Mix.step0 fun K hK => ?_; go_simp; (try (go_bits; try go_simp)); first | ((with_reducible refine hK _ _ ?_); clear hK K) | ((try (simp only [IntWalk.iteOmega]; try go_simp)); (try go_bits); (with_reducible refine hK _ _ ?_); clear hK K))
                                        iterate 5 (first | (refine Mix.stepS rfl fun K hK => ?_; go_simp; (with_reducible refine hK _ _ ?_); clear hK K) | (refine Mix.step0 fun K hK => ?_; go_simp; (try (go_bits; try go_simp)); first | ((with_reducible refine hK _ _ ?_); clear hK K) | ((try (simp only [IntWalk.iteOmega]; try go_simp)); (try go_bits); (with_reducible refine hK _ _ ?_); clear hK K)))
                                        iterate 2 (refine Mix.step0 fun K hK => ?_; go_simp; (try (go_bits; try go_simp)); first | ((with_reducible refine hK _ _ ?_); clear hK K) | ((try (simp only [IntWalk.iteOmega]; try go_simp)); (try go_bits); (with_reducible refine hK _ _ ?_); clear hK K))
                                        (first | (refine Mix.stepS rfl fun K hK => ?_; go_simp; (with_reducible refine hK _ _ ?_); clear hK K) | (refine Mix.step1 fun K hK => ?_; go_simp; (try (go_bits; try go_simp)); first | ((with_reducible refine hK _ _ ?_); clear hK K) | ((try (simp only [IntWalk.iteOmega]; try go_simp)); (try go_bits); (with_reducible refine hK _ _ ?_); clear hK K)))
                                        (first | (refine Mix.stepS rfl fun K hK => ?_; go_simp; (with_reducible refine hK _ _ ?_); clear hK K) | (refine Mix.step1 fun K hK => ?_; go_simp; (try (go_bits; try go_simp)); first | ((with_reducible refine hK _ _ ?_); clear hK K) | ((try (simp only [IntWalk.iteOmega]; try go_simp)); (try go_bits); (with_reducible refine hK _ _ ?_); clear hK K)))
                                        (first | (refine Mix.stepS rfl fun K hK => ?_; go_simp; (with_reducible refine hK _ _ ?_); clear hK K) | (refine Mix.step1 fun K hK => ?_; go_simp; (try (go_bits; try go_simp)); first | ((with_reducible refine hK _ _ ?_); clear hK K) | ((try (simp only [IntWalk.iteOmega]; try go_simp)); (try go_bits); (with_reducible refine hK _ _ ?_); clear hK K)))
                                        (first | (refine Mix.stepS rfl fun K hK => ?_; go_simp; (with_reducible refine hK _ _ ?_); clear hK K) | (refine Mix.step1 fun K hK => ?_; go_simp; refine ⟨fun W => ?_, hK _ _ ?_⟩; (intro hW1; (try intro hW2); (try intro hW3); (try intro hW4); (try intro hW5); (try intro hW6); (try intro hW7); (try intro hW8); go_simp); clear hK K))
                                        iterate 3 (first | (refine Mix.stepS rfl fun K hK => ?_; go_simp; (with_reducible refine hK _ _ ?_); clear hK K) | (refine Mix.step0 fun K hK => ?_; go_simp; (try (go_bits; try go_simp)); first | ((with_reducible refine hK _ _ ?_); clear hK K) | ((try (simp only [IntWalk.iteOmega]; try go_simp)); (try go_bits); (with_reducible refine hK _ _ ?_); clear hK K)))
                                        refine Mix.step2n (by first | rfl | simp [Region.wanted, yielded]) fun K hK => ?_
                                        go_wp2_with fail
                                        refine (rlen_any _ a c es _ pot i _ (hs.rdG h) (hs.rd hp) HR.out hie HPB.out).mono ?_
                                        rintro en w9 ⟨rfl, hb⟩
                                        rw [← HTT.out]
                                        replace hs := hs.belowStep hb
                                        clear hb n0 n1 hCW
                                        obtain ⟨g', cg', eg, _, hcR, df⟩ := (hs.ints 2 rfl).get U (by rw [HNE.out.lD]; exact hUN)
                                        injection eg with eg q1 q2
                                        injection eg with eg
                                        injection eg with eg
                                        subst eg
                                        have du := hcR U (by rw [HNE.out.lD]; exact hUN)
                                        clear q1 q2 hcR
                                        rw [show D.getD U 0 = x from HX.out.symm] at du
                                        obtain ⟨g', cg', eg, _, hcR, dfq⟩ := (hs.ints 2 rfl).get q (by rw [HNE.out.lD]; exact hqt)
                                        injection eg with eg q1 q2
                                        injection eg with eg
                                        injection eg with eg
                                        subst eg
                                        have dq := hcR q (by rw [HNE.out.lD]; exact hqt)
                                        clear q1 q2 hcR
                                        rw [show D.getD q 0 = y from HY.out.symm] at dq
                                        clear df dfq
                                        have hCW := And.intro du dq
                                        clear du dq
                                        have n0 := cell_of (hs.cells 3 rfl) 0
                                        have n1 := cell_of (hs.cells 3 rfl) 1
                                        simp only [List.getElem?_toArray, List.getElem?_cons_zero, List.getElem?_cons_succ] at n0 n1
                                        obtain ⟨g', cg', eg, _, hcR, hpf⟩ := (hs.ints 1 rfl).get U (by rw [HNE.out.lH]; exact hUN)
                                        injection eg with eg q1 q2
                                        injection eg with eg
                                        injection eg with eg
                                        subst eg
                                        have hpu := hcR U (by rw [HNE.out.lH]; exact hUN)
                                        clear q1 q2 hcR
                                        rw [show H.getD U 0 = p from HP.out.symm] at hpu
                                        obtain ⟨g', cg', eg, _, hcR, hzf⟩ := (hs.ints 1 rfl).get q (by rw [HNE.out.lH]; exact hqt)
                                        injection eg with eg q1 q2
                                        injection eg with eg
                                        injection eg with eg
                                        subst eg
                                        have hz := hcR q (by rw [HNE.out.lH]; exact hqt)
                                        clear q1 q2 hcR
                                        rw [show H.getD q 0 = z from HZ.out.symm] at hz
                                        clear hpf hzf
                                        go_wp2_with fail
                                        refine Mix.post_mk (C := (fun W : World => W.cell? ⟨b1, U, none⟩ = some (.int .i64 x) ∧ W.cell? ⟨b1, q, none⟩ = some (.int .i64 y))) (by first | exact hCW | exact HCW.out _) (hK _ _ ?_)
                                        clear hK K
                                        iterate 1 (first | (refine Mix.stepS rfl fun K hK => ?_; go_simp; (with_reducible refine hK _ _ ?_); clear hK K) | (refine Mix.step0 fun K hK => ?_; go_simp; (try (go_bits; try go_simp)); first | ((with_reducible refine hK _ _ ?_); clear hK K) | ((try (simp only [IntWalk.iteOmega]; try go_simp)); (try go_bits); (with_reducible refine hK _ _ ?_); clear hK K)))
                                        (first | (refine Mix.stepS rfl fun K hK => ?_; go_simp; (with_reducible refine hK _ _ ?_); clear hK K) | (refine Mix.step1 fun K hK => ?_; go_simp; (try (go_bits; try go_simp)); first | ((with_reducible refine hK _ _ ?_); clear hK K) | ((try (simp only [IntWalk.iteOmega]; try go_simp)); (try go_bits); (with_reducible refine hK _ _ ?_); clear hK K)))
                                        (first | (refine Mix.stepS rfl fun K hK => ?_; go_simp; (with_reducible refine hK _ _ ?_); clear hK K) | (refine Mix.step1 fun K hK => ?_; go_simp; (try (go_bits; try go_simp)); first | ((with_reducible refine hK _ _ ?_); clear hK K) | ((try (simp only [IntWalk.iteOmega]; try go_simp)); (try go_bits); (with_reducible refine hK _ _ ?_); clear hK K)))
                                        (first | (refine Mix.stepS rfl fun K hK => ?_; go_simp; (with_reducible refine hK _ _ ?_); clear hK K) | (refine Mix.step1 fun K hK => ?_; go_simp; (try (go_bits; try go_simp)); first | ((with_reducible refine hK _ _ ?_); clear hK K) | ((try (simp only [IntWalk.iteOmega]; try go_simp)); (try go_bits); (with_reducible refine hK _ _ ?_); clear hK K)))
                                        (first | (refine Mix.stepS rfl fun K hK => ?_; go_simp; (with_reducible refine hK _ _ ?_); clear hK K) | (refine Mix.step1 fun K hK => ?_; go_simp; refine ⟨fun W => ?_, hK _ _ ?_⟩; (intro hW1; (try intro hW2); (try intro hW3); (try intro hW4); (try intro hW5); (try intro hW6); (try intro hW7); (try intro hW8); go_simp); clear hK K))
                                        iterate 1 (first | (refine Mix.stepS rfl fun K hK => ?_; go_simp; (with_reducible refine hK _ _ ?_); clear hK K) | (refine Mix.step0 fun K hK => ?_; go_simp; (try (go_bits; try go_simp)); first | ((with_reducible refine hK _ _ ?_); clear hK K) | ((try (simp only [IntWalk.iteOmega]; try go_simp)); (try go_bits); (with_reducible refine hK _ _ ?_); clear hK K)))
                                        iterate 2 (refine Mix.step0 fun K hK => ?_; go_simp; (try (go_bits; try go_simp)); first | ((with_reducible refine hK _ _ ?_); clear hK K) | ((try (simp only [IntWalk.iteOmega]; try go_simp)); (try go_bits); (with_reducible refine hK _ _ ?_); clear hK K))
                                        iterate 10 (first | (refine Mix.stepS rfl fun K hK => ?_; go_simp; (with_reducible refine hK _ _ ?_); clear hK K) | (refine Mix.step0 fun K hK => ?_; go_simp; (try (go_bits; try go_simp)); first | ((with_reducible refine hK _ _ ?_); clear hK K) | ((try (simp only [IntWalk.iteOmega]; try go_simp)); (try go_bits); (with_reducible refine hK _ _ ?_); clear hK K)))
                                        iterate 1 (refine Mix.step0 fun K hK => ?_; go_simp; (try (go_bits; try go_simp)); first | ((with_reducible refine hK _ _ ?_); clear hK K) | ((try (simp only [IntWalk.iteOmega]; try go_simp)); (try go_bits); (with_reducible refine hK _ _ ?_); clear hK K))
                                        refine Mix.done ?_
                                        go_wp2_with fail
                                        refine Round.intro (i) ?measure22 (by kernel_rfl) (hJ6 _ _ _ ?rel22)
                                        case' rel22 => (try dsimp only [nthV])
                                        case measure22 => omega
                                        case rel22 => exact ⟨B, rfl, by omega, HST, (by first | exact hs | exact hs.drew)⟩
                                    · have d4 : (x + T == y) = false := beq_eq_false_iff_ne.2 hxy
                                      have HST := Lib.hid (HKEEP.out (.inr (by rw [HC.out, decide_eq_false hxy, Bool.and_false, Bool.false_and])))
                                      clear hvq hR0 hx0 hxy
                                      go_wp2_with fail
                                      refine Mix.region [0, 0, 0, 0, 0, 0, 0, 2, 0, 0, 0, 0, 0, 0, 0, 0, 0, 0, 1, 1, 1, 1, 0, 0, 0, 2, 0, 1, 1, 1, 1, 0, 0, 0, 0, 0, 0, 0, 0, 0, 0, 0, 0, 0, 0] (fun W : World => W.cell? ⟨b1, U, none⟩ = some (.int .i64 x) ∧ W.cell? ⟨b1, q, none⟩ = some (.int .i64 y)) (by kernel_rfl) (by kernel_rfl) hCW ?_
                                      simp only [List.zip_cons_cons, List.zip_nil_right]
                                      iterate 4 (refine Mix.step0 fun K hK => ?_; go_simp; (try (go_bits; try go_simp)); first | ((with_reducible refine hK _ _ ?_); clear hK K) | ((try (simp only [IntWalk.iteOmega]; try go_simp)); (try go_bits); (with_reducible refine hK _ _ ?_); clear hK K))
                                      iterate 3 (first | (refine Mix.stepS rfl fun K hK => ?_; go_simp; (with_reducible refine hK _ _ ?_); clear hK K) | (refine Mix.step0 fun K hK => ?_; go_simp; (try (go_bits; try go_simp)); first | ((with_reducible refine hK _ _ ?_); clear hK K) | ((try (simp only [IntWalk.iteOmega]; try go_simp)); (try go_bits); (with_reducible refine hK _ _ ?_); clear hK K)))
                                      refine Mix.step2n (by first | rfl | simp [Region.wanted, yielded]) fun K hK => ?_
                                      go_wp2_with fail
                                      refine (rroom_any _ a c es _ fl i _ (hs.drew.rdG h) (hs.drew.rd hf) (by omega)).mono ?_
                                      rintro en w8 ⟨rfl, hb⟩
                                      rw [HRO.out, ← HRR.out]
                                      replace hs := hs.drew.belowStep hb
                                      clear hb n0 n1 hCW
                                      obtain ⟨g', cg', eg, _, hcR, df⟩ := (hs.ints 2 rfl).get U (by rw [HNE.out.lD]; exact hUN)
                                      injection eg with eg q1 q2
                                      injection eg with eg
                                      injection eg with eg
                                      subst eg
                                      have du := hcR U (by rw [HNE.out.lD]; exact hUN)
                                      clear q1 q2 hcR
                                      rw [show D.getD U 0 = x from HX.out.symm] at du
                                      obtain ⟨g', cg', eg, _, hcR, dfq⟩ := (hs.ints 2 rfl).get q (by rw [HNE.out.lD]; exact hqt)
                                      injection eg with eg q1 q2
                                      injection eg with eg
                                      injection eg with eg
                                      subst eg
                                      have dq := hcR q (by rw [HNE.out.lD]; exact hqt)
                                      clear q1 q2 hcR
                                      rw [show D.getD q 0 = y from HY.out.symm] at dq
                                      clear df dfq
                                      have hCW := And.intro du dq
                                      clear du dq
                                      have n0 := cell_of (hs.cells 3 rfl) 0
                                      have n1 := cell_of (hs.cells 3 rfl) 1
                                      simp only [List.getElem?_toArray, List.getElem?_cons_zero, List.getElem?_cons_succ] at n0 n1
                                      go_wp2_with fail
                                      refine Mix.post_mk (C := (fun W : World => W.cell? ⟨b1, U, none⟩ = some (.int .i64 x) ∧ W.cell? ⟨b1, q, none⟩ = some (.int .i64 y))) (by first | exact hCW | exact HCW.out _) (hK _ _ ?_)
                                      clear hK K
                                      iterate 1 (first | (refine Mix.stepS rfl fun K hK => ?_; go_simp; (with_reducible refine hK _ _ ?_); clear hK K) | (refine Mix.step0 fun K hK => ?_; go_simp; (try (go_bits; try go_simp)); first | ((with_reducible refine hK _ _ ?_); clear hK K) | ((try (simp only [IntWalk.iteOmega]; try go_simp)); (try go_bits); (with_reducible refine hK _ _ ?_); clear hK K)))
                                      iterate 2 (refine Mix.step0 fun K hK => ?_; go_simp; (try (go_bits; try go_simp)); first | ((with_reducible refine hK _ _ ?_); clear hK K) | ((try (simp only [IntWalk.iteOmega]; try go_simp)); (try go_bits); (with_reducible refine hK _ _ ?_); clear hK K))
                                      iterate 5 (first | (refine Mix.stepS rfl fun K hK => ?_; go_simp; (with_reducible refine hK _ _ ?_); clear hK K) | (refine Mix.step0 fun K hK => ?_; go_simp; (try (go_bits; try go_simp)); first | ((with_reducible refine hK _ _ ?_); clear hK K) | ((try (simp only [IntWalk.iteOmega]; try go_simp)); (try go_bits); (with_reducible refine hK _ _ ?_); clear hK K)))
                                      iterate 2 (refine Mix.step0 fun K hK => ?_; go_simp; (try (go_bits; try go_simp)); first | ((with_reducible refine hK _ _ ?_); clear hK K) | ((try (simp only [IntWalk.iteOmega]; try go_simp)); (try go_bits); (with_reducible refine hK _ _ ?_); clear hK K))
                                      (first | (refine Mix.stepS rfl fun K hK => ?_; go_simp; (with_reducible refine hK _ _ ?_); clear hK K) | (refine Mix.step1 fun K hK => ?_; go_simp; (try (go_bits; try go_simp)); first | ((with_reducible refine hK _ _ ?_); clear hK K) | ((try (simp only [IntWalk.iteOmega]; try go_simp)); (try go_bits); (with_reducible refine hK _ _ ?_); clear hK K)))
                                      (first | (refine Mix.stepS rfl fun K hK => ?_; go_simp; (with_reducible refine hK _ _ ?_); clear hK K) | (refine Mix.step1 fun K hK => ?_; go_simp; (try (go_bits; try go_simp)); first | ((with_reducible refine hK _ _ ?_); clear hK K) | ((try (simp only [IntWalk.iteOmega]; try go_simp)); (try go_bits); (with_reducible refine hK _ _ ?_); clear hK K)))
                                      (first | (refine Mix.stepS rfl fun K hK => ?_; go_simp; (with_reducible refine hK _ _ ?_); clear hK K) | (refine Mix.step1 fun K hK => ?_; go_simp; (try (go_bits; try go_simp)); first | ((with_reducible refine hK _ _ ?_); clear hK K) | ((try (simp only [IntWalk.iteOmega]; try go_simp)); (try go_bits); (with_reducible refine hK _ _ ?_); clear hK K)))
                                      (first | (refine Mix.stepS rfl fun K hK => ?_; go_simp; (with_reducible refine hK _ _ ?_); clear hK K) | (refine Mix.step1 fun K hK => ?_; go_simp; refine ⟨fun W => ?_, hK _ _ ?_⟩; (intro hW1; (try intro hW2); (try intro hW3); (try intro hW4); (try intro hW5); (try intro hW6); (try intro hW7); (try intro hW8); go_simp); clear hK K))
                                      iterate 3 (first | (refine Mix.stepS rfl fun K hK => ?_; go_simp; (with_reducible refine hK _ _ ?_); clear hK K) | (refine Mix.step0 fun K hK => ?_; go_simp; (try (go_bits; try go_simp)); first | ((with_reducible refine hK _ _ ?_); clear hK K) | ((try (simp only [IntWalk.iteOmega]; try go_simp)); (try go_bits); (with_reducible refine hK _ _ ?_); clear hK K)))
                                      refine Mix.step2n (by first | rfl | simp [Region.wanted, yielded]) fun K hK => ?_
                                      go_wp2_with fail
                                      refine (rlen_any _ a c es _ pot i _ (hs.rdG h) (hs.rd hp) HR.out hie HPB.out).mono ?_
                                      rintro en w9 ⟨rfl, hb⟩
                                      rw [← HTT.out]
                                      replace hs := hs.belowStep hb
                                      clear hb n0 n1 hCW
                                      obtain ⟨g', cg', eg, _, hcR, df⟩ := (hs.ints 2 rfl).get U (by rw [HNE.out.lD]; exact hUN)
                                      injection eg with eg q1 q2
                                      injection eg with eg
                                      injection eg with eg
                                      subst eg
                                      have du := hcR U (by rw [HNE.out.lD]; exact hUN)
                                      clear q1 q2 hcR
                                      rw [show D.getD U 0 = x from HX.out.symm] at du
                                      obtain ⟨g', cg', eg, _, hcR, dfq⟩ := (hs.ints 2 rfl).get q (by rw [HNE.out.lD]; exact hqt)
                                      injection eg with eg q1 q2
                                      injection eg with eg
                                      injection eg with eg
                                      subst eg
                                      have dq := hcR q (by rw [HNE.out.lD]; exact hqt)
                                      clear q1 q2 hcR
                                      rw [show D.getD q 0 = y from HY.out.symm] at dq
                                      clear df dfq
                                      have hCW := And.intro du dq
                                      clear du dq
                                      have n0 := cell_of (hs.cells 3 rfl) 0
                                      have n1 := cell_of (hs.cells 3 rfl) 1
                                      simp only [List.getElem?_toArray, List.getElem?_cons_zero, List.getElem?_cons_succ] at n0 n1
                                      obtain ⟨g', cg', eg, _, hcR, hpf⟩ := (hs.ints 1 rfl).get U (by rw [HNE.out.lH]; exact hUN)
                                      injection eg with eg q1 q2
                                      injection eg with eg
                                      injection eg with eg
                                      subst eg
                                      have hpu := hcR U (by rw [HNE.out.lH]; exact hUN)
                                      clear q1 q2 hcR
                                      rw [show H.getD U 0 = p from HP.out.symm] at hpu
                                      obtain ⟨g', cg', eg, _, hcR, hzf⟩ := (hs.ints 1 rfl).get q (by rw [HNE.out.lH]; exact hqt)
                                      injection eg with eg q1 q2
                                      injection eg with eg
                                      injection eg with eg
                                      subst eg
                                      have hz := hcR q (by rw [HNE.out.lH]; exact hqt)
                                      clear q1 q2 hcR
                                      rw [show H.getD q 0 = z from HZ.out.symm] at hz
                                      clear hpf hzf
                                      go_wp2_with fail
                                      refine Mix.post_mk (C := (fun W : World => W.cell? ⟨b1, U, none⟩ = some (.int .i64 x) ∧ W.cell? ⟨b1, q, none⟩ = some (.int .i64 y))) (by first | exact hCW | exact HCW.out _) (hK _ _ ?_)
                                      clear hK K
                                      iterate 1 (first | (refine Mix.stepS rfl fun K hK => ?_; go_simp; (with_reducible refine hK _ _ ?_); clear hK K) | (refine Mix.step0 fun K hK => ?_; go_simp; (try (go_bits; try go_simp)); first | ((with_reducible refine hK _ _ ?_); clear hK K) | ((try (simp only [IntWalk.iteOmega]; try go_simp)); (try go_bits); (with_reducible refine hK _ _ ?_); clear hK K)))
                                      (first | (refine Mix.stepS rfl fun K hK => ?_; go_simp; (with_reducible refine hK _ _ ?_); clear hK K) | (refine Mix.step1 fun K hK => ?_; go_simp; (try (go_bits; try go_simp)); first | ((with_reducible refine hK _ _ ?_); clear hK K) | ((try (simp only [IntWalk.iteOmega]; try go_simp)); (try go_bits); (with_reducible refine hK _ _ ?_); clear hK K)))
                                      (first | (refine Mix.stepS rfl fun K hK => ?_; go_simp; (with_reducible refine hK _ _ ?_); clear hK K) | (refine Mix.step1 fun K hK => ?_; go_simp; (try (go_bits; try go_simp)); first | ((with_reducible refine hK _ _ ?_); clear hK K) | ((try (simp only [IntWalk.iteOmega]; try go_simp)); (try go_bits); (with_reducible refine hK _ _ ?_); clear hK K)))
                                      (first | (refine Mix.stepS rfl fun K hK => ?_; go_simp; (with_reducible refine hK _ _ ?_); clear hK K) | (refine Mix.step1 fun K hK => ?_; go_simp; (try (go_bits; try go_simp)); first | ((with_reducible refine hK _ _ ?_); clear hK K) | ((try (simp only [IntWalk.iteOmega]; try go_simp)); (try go_bits); (with_reducible refine hK _ _ ?_); clear hK K)))
                                      (first | (refine Mix.stepS rfl fun K hK => ?_; go_simp; (with_reducible refine hK _ _ ?_); clear hK K) | (refine Mix.step1 fun K hK => ?_; go_simp; refine ⟨fun W => ?_, hK _ _ ?_⟩; (intro hW1; (try intro hW2); (try intro hW3); (try intro hW4); (try intro hW5); (try intro hW6); (try intro hW7); (try intro hW8); go_simp); clear hK K))
                                      iterate 1 (first | (refine Mix.stepS rfl fun K hK => ?_; go_simp; (with_reducible refine hK _ _ ?_); clear hK K) | (refine Mix.step0 fun K hK => ?_; go_simp; (try (go_bits; try go_simp)); first | ((with_reducible refine hK _ _ ?_); clear hK K) | ((try (simp only [IntWalk.iteOmega]; try go_simp)); (try go_bits); (with_reducible refine hK _ _ ?_); clear hK K)))
                                      iterate 2 (refine Mix.step0 fun K hK => ?_; go_simp; (try (go_bits; try go_simp)); first | ((with_reducible refine hK _ _ ?_); clear hK K) | ((try (simp only [IntWalk.iteOmega]; try go_simp)); (try go_bits); (with_reducible refine hK _ _ ?_); clear hK K))
                                      iterate 10 (first | (refine Mix.stepS rfl fun K hK => ?_; go_simp; (with_reducible refine hK _ _ ?_); clear hK K) | (refine Mix.step0 fun K hK => ?_; go_simp; (try (go_bits; try go_simp)); first | ((with_reducible refine hK _ _ ?_); clear hK K) | ((try (simp only [IntWalk.iteOmega]; try go_simp)); (try go_bits); (with_reducible refine hK _ _ ?_); clear hK K)))
                                      iterate 1 (refine Mix.step0 fun K hK => ?_; go_simp; (try (go_bits; try go_simp)); first | ((with_reducible refine hK _ _ ?_); clear hK K) | ((try (simp only [IntWalk.iteOmega]; try go_simp)); (try go_bits); (with_reducible refine hK _ _ ?_); clear hK K))
                                      refine Mix.done ?_
                                      go_wp2_with fail
                                      refine Round.intro (i) ?measure23 (by kernel_rfl) (hJ6 _ _ _ ?rel23)
                                      case' rel23 => (try dsimp only [nthV])
                                      case measure23 => omega
                                      case rel23 => exact ⟨B, rfl, by omega, HST, (by first | exact hs | exact hs.drew)⟩
                              · have e1 : ((V : Int) == (q : Int)) = false := beq_eq_false_iff_ne.2 (by omega)
                                have HST := Lib.hid (HKEEP.out (.inr (by rw [HC.out, decide_eq_false hvq, Bool.false_and, Bool.false_and, Bool.false_and])))
                                clear hvq
                                go_wp2_with fail
                                refine Mix.region [0, 0, 0, 0, 0, 0, 0, 2, 0, 0, 0, 0, 0, 0, 0, 0, 0, 0, 1, 1, 1, 1, 0, 0, 0, 2, 0, 1, 1, 1, 1, 0, 0, 0, 0, 0, 0, 0, 0, 0, 0, 0, 0, 0, 0] (fun W : World => W.cell? ⟨b1, U, none⟩ = some (.int .i64 x) ∧ W.cell? ⟨b1, q, none⟩ = some (.int .i64 y)) (by kernel_rfl) (by kernel_rfl) hCW ?_
                                simp only [List.zip_cons_cons, List.zip_nil_right]
                                iterate 4 (refine Mix.step0 fun K hK => ?_; go_simp; (try (go_bits; try go_simp)); first | ((with_reducible refine hK _ _ ?_); clear hK K) | ((try (simp only [IntWalk.iteOmega]; try go_simp)); (try go_bits); (with_reducible refine hK _ _ ?_); clear hK K))
                                iterate 3 (first | (refine Mix.stepS rfl fun K hK => ?_; go_simp; (with_reducible refine hK _ _ ?_); clear hK K) | (refine Mix.step0 fun K hK => ?_; go_simp; (try (go_bits; try go_simp)); first | ((with_reducible refine hK _ _ ?_); clear hK K) | ((try (simp only [IntWalk.iteOmega]; try go_simp)); (try go_bits); (with_reducible refine hK _ _ ?_); clear hK K)))
                                refine Mix.step2s (by first | rfl | simp [Region.wanted, yielded]) ?_
                                iterate 1 (first | (refine Mix.stepS rfl fun K hK => ?_; go_simp; (with_reducible refine hK _ _ ?_); clear hK K) | (refine Mix.step0 fun K hK => ?_; go_simp; (try (go_bits; try go_simp)); first | ((with_reducible refine hK _ _ ?_); clear hK K) | ((try (simp only [IntWalk.iteOmega]; try go_simp)); (try go_bits); (with_reducible refine hK _ _ ?_); clear hK K)))
                                iterate 2 (refine Mix.step0 fun K hK => ?_; go_simp; (try (go_bits; try go_simp)); first | ((with_reducible refine hK _ _ ?_); clear hK K) | ((try (simp only [IntWalk.iteOmega]; try go_simp)); (try go_bits); (with_reducible refine hK _ _ ?_); clear hK K))
                                iterate 5 (first | (refine Mix.stepS rfl fun K hK => ?_; go_simp; (with_reducible refine hK _ _ ?_); clear hK K) | (refine Mix.step0 fun K hK => ?_; go_simp; (try (go_bits; try go_simp)); first | ((with_reducible refine hK _ _ ?_); clear hK K) | ((try (simp only [IntWalk.iteOmega]; try go_simp)); (try go_bits); (with_reducible refine hK _ _ ?_); clear hK K)))
                                iterate 2 (refine Mix.step0 fun K hK => ?_; go_simp; (try (go_bits; try go_simp)); first | ((with_reducible refine hK _ _ ?_); clear hK K) | ((try (simp only [IntWalk.iteOmega]; try go_simp)); (try go_bits); (with_reducible refine hK _ _ ?_); clear hK K))
                                (first | (refine Mix.stepS rfl fun K hK => ?_; go_simp; (with_reducible refine hK _ _ ?_); clear hK K) | (refine Mix.step1 fun K hK => ?_; go_simp; (try (go_bits; try go_simp)); first | ((with_reducible refine hK _ _ ?_); clear hK K) | ((try (simp only [IntWalk.iteOmega]; try go_simp)); (try go_bits); (with_reducible refine hK _ _ ?_); clear hK K)))
                                (first | (refine Mix.stepS rfl fun K hK => ?_; go_simp; (with_reducible refine hK _ _ ?_); clear hK K) | (refine Mix.step1 fun K hK => ?_; go_simp; (try (go_bits; try go_simp)); first | ((with_reducible refine hK _ _ ?_); clear hK K) | ((try (simp only [IntWalk.iteOmega]; try go_simp)); (try go_bits); (with_reducible refine hK _ _ ?_); clear hK K)))
                                (first | (refine Mix.stepS rfl fun K hK => ?_; go_simp; (with_reducible refine hK _ _ ?_); clear hK K) | (refine Mix.step1 fun K hK => ?_; go_simp; (try (go_bits; try go_simp)); first | ((with_reducible refine hK _ _ ?_); clear hK K) | ((try (simp only [IntWalk.iteOmega]; try go_simp)); (try go_bits); (with_reducible refine hK _ _ ?_); clear hK K)))
                                (first | (refine Mix.stepS rfl fun K hK => ?_; go_simp; (with_reducible refine hK _ _ ?_); clear hK K) | (refine Mix.step1 fun K hK => ?_; go_simp; refine ⟨fun W => ?_, hK _ _ ?_⟩; (intro hW1; (try intro hW2); (try intro hW3); (try intro hW4); (try intro hW5); (try intro hW6); (try intro hW7); (try intro hW8); go_simp); clear hK K))
                                iterate 3 (first | (refine Mix.stepS rfl fun K hK => ?_; go_simp; (with_reducible refine hK _ _ ?_); clear hK K) | (refine Mix.step0 fun K hK => ?_; go_simp; (try (go_bits; try go_simp)); first | ((with_reducible refine hK _ _ ?_); clear hK K) | ((try (simp only [IntWalk.iteOmega]; try go_simp)); (try go_bits); (with_reducible refine hK _ _ ?_); clear hK K)))
                                refine Mix.step2s (by first | rfl | simp [Region.wanted, yielded]) ?_
                                iterate 1 (first | (refine Mix.stepS rfl fun K hK => ?_; go_simp; (with_reducible refine hK _ _ ?_); clear hK K) | (refine Mix.step0 fun K hK => ?_; go_simp; (try (go_bits; try go_simp)); first | ((with_reducible refine hK _ _ ?_); clear hK K) | ((try (simp only [IntWalk.iteOmega]; try go_simp)); (try go_bits); (with_reducible refine hK _ _ ?_); clear hK K)))
                                (first | (refine Mix.stepS rfl fun K hK => ?_; go_simp; (with_reducible refine hK _ _ ?_); clear hK K) | (refine Mix.step1 fun K hK => ?_; go_simp; (try (go_bits; try go_simp)); first | ((with_reducible refine hK _ _ ?_); clear hK K) | ((try (simp only [IntWalk.iteOmega]; try go_simp)); (try go_bits); (with_reducible refine hK _ _ ?_); clear hK K)))
                                (first | (refine Mix.stepS rfl fun K hK => ?_; go_simp; (with_reducible refine hK _ _ ?_); clear hK K) | (refine Mix.step1 fun K hK => ?_; go_simp; (try (go_bits; try go_simp)); first | ((with_reducible refine hK _ _ ?_); clear hK K) | ((try (simp only [IntWalk.iteOmega]; try go_simp)); (try go_bits); (with_reducible refine hK _ _ ?_); clear hK K)))
                                (first | (refine Mix.stepS rfl fun K hK => ?_; go_simp; (with_reducible refine hK _ _ ?_); clear hK K) | (refine Mix.step1 fun K hK => ?_; go_simp; (try (go_bits; try go_simp)); first | ((with_reducible refine hK _ _ ?_); clear hK K) | ((try (simp only [IntWalk.iteOmega]; try go_simp)); (try go_bits); (with_reducible refine hK _ _ ?_); clear hK K)))
                                (first | (refine Mix.stepS rfl fun K hK => ?_; go_simp; (with_reducible refine hK _ _ ?_); clear hK K) | (refine Mix.step1 fun K hK => ?_; go_simp; refine ⟨fun W => ?_, hK _ _ ?_⟩; (intro hW1; (try intro hW2); (try intro hW3); (try intro hW4); (try intro hW5); (try intro hW6); (try intro hW7); (try intro hW8); go_simp); clear hK K))
                                iterate 1 (first | (refine Mix.stepS rfl fun K hK => ?_; go_simp; (with_reducible refine hK _ _ ?_); clear hK K) | (refine Mix.step0 fun K hK => ?_; go_simp; (try (go_bits; try go_simp)); first | ((with_reducible refine hK _ _ ?_); clear hK K) | ((try (simp only [IntWalk.iteOmega]; try go_simp)); (try go_bits); (with_reducible refine hK _ _ ?_); clear hK K)))
                                iterate 2 (refine Mix.step0 fun K hK => ?_; go_simp; (try (go_bits; try go_simp)); first | ((with_reducible refine hK _ _ ?_); clear hK K) | ((try (simp only [IntWalk.iteOmega]; try go_simp)); (try go_bits); (with_reducible refine hK _ _ ?_); clear hK K))
                                iterate 10 (first | (refine Mix.stepS rfl fun K hK => ?_; go_simp; (with_reducible refine hK _ _ ?_); clear hK K) | (refine Mix.step0 fun K hK => ?_; go_simp; (try (go_bits; try go_simp)); first | ((with_reducible refine hK _ _ ?_); clear hK K) | ((try (simp only [IntWalk.iteOmega]; try go_simp)); (try go_bits); (with_reducible refine hK _ _ ?_); clear hK K)))
                                iterate 1 (refine Mix.step0 fun K hK => ?_; go_simp; (try (go_bits; try go_simp)); first | ((with_reducible refine hK _ _ ?_); clear hK K) | ((try (simp only [IntWalk.iteOmega]; try go_simp)); (try go_bits); (with_reducible refine hK _ _ ?_); clear hK K))
                                refine Mix.done ?_
                                go_wp2_with fail
                                refine Round.intro (i) ?measure24 (by kernel_rfl) (hJ6 _ _ _ ?rel24)
                                case' rel24 => (try dsimp only [nthV])
                                case measure24 => omega
                                case rel24 => exact ⟨B, rfl, by omega, HST, (by first | exact hs | exact hs.drew)⟩
                      · obtain rfl : N = q := by omega
                        have HWS := Lib.hid (show WS (arcsL es fl pot) (· ∈ fromN zs) N maxL D B from ⟨HNET.out, HLN.out.1, HBO.out.len, H, HLN.out.2, HRE.out, HLS.out, HBO.out.done⟩)
                        have hs2 := ((hs.omit 1).takeN 2).perm (List.Perm.swap _ _ [])
                        clear hs
                        go_wp2_with fail
                        go_ret3
                        exact .inr ⟨by rw [Int.toNat_natCast, HFB.out, HFIT.out]; rfl, D, B, _, _, by rw [Int.toNat_natCast]; exact HWS.out, rfl, hs2⟩
end Go.Proofs.Ytfafecgnjjkagaa
namespace Go.Proofs.Ytfafecgnjjkagaa
open Go Go.RowKit Go.Mem Go.NetP Go.RestP Go.CertP Go.PathP Go.Shelf
theorem nameL {w0 w : World} {L : List Thing} (h : Sep w0 w L) : ∃ L', L' = L ∧ Sep w0 w L' := ⟨L, rfl, h⟩
/-- What Ways answers, as numbers. -/
def WD (nn : Int) (es : List Ed) (fl pot zs D B : List Int) (er : Int) : Prop :=
  ((fitsB nn es fl pot && fromB nn.toNat zs) = false ∧ D = [] ∧ B = [] ∧ er = 1) ∨
  ((fitsB nn es fl pot && fromB nn.toNat zs) = true ∧ er = 0 ∧ WS (arcsL es fl pot) (· ∈ fromN zs) nn.toNat maxL D B)
theorem WD.eq {nn : Int} {es : List Ed} {fl pot zs D B D' B' : List Int} {er er' : Int} (h : WD nn es fl pot zs D B er) (h' : WD nn es fl pot zs D' B' er') : D' = D ∧ B' = B ∧ er' = er := by
  rcases h with ⟨h1, rfl, rfl, rfl⟩ | ⟨h1, rfl, h2⟩ <;> rcases h' with ⟨k1, rfl, rfl, rfl⟩ | ⟨k1, rfl, k2⟩
  · exact ⟨rfl, rfl, rfl⟩
  · rw [h1] at k1; cases k1
  · rw [h1] at k1; cases k1
  · obtain ⟨q1, q2⟩ := k2.eq h2
    exact ⟨q1, q2, rfl⟩
theorem WD.len {nn : Int} {es : List Ed} {fl pot zs D B : List Int} {er : Int} (h : WD nn es fl pot zs D B er) : B.length = D.length ∧ D.length ≤ 40 := by
  rcases h with ⟨_, rfl, rfl, _⟩ | ⟨h1, _, h2⟩
  · simp
  · rw [h2.lD, h2.lB]
    simp only [Bool.and_eq_true] at h1
    have := right_cap (fits_parts h1.1).2.1
    exact ⟨rfl, by omega⟩
/-- The same, as a call's answer. -/
def WaysU (nn : Int) (es : List Ed) (fl pot zs : List Int) (w : World) (en : Ending) (w' : World) : Prop :=
  ∃ D B er ad cd ab cb, WD nn es fl pot zs D B er ∧ en = .returned (.tuple #[.slice ad D.length cd, .slice ab D.length cb, .int .i64 er]) ∧ Sep w w' [intsT .i64 2 (.slice ad D.length cd) D, intsT .i64 3 (.slice ab D.length cb) B]
theorem WaysP.uni {nn : Int} {es : List Ed} {fl pot zs : List Int} {w w' : World} {en : Ending} (h : WaysP nn es fl pot zs w en w') : WaysU nn es fl pot zs w en w' := by
  rcases h with ⟨h1, rfl, h2⟩ | ⟨h1, D, B, vd, vb, h2, rfl, h3⟩
  · exact ⟨[], [], 1, none, 0, none, 0, .inl ⟨h1, rfl, rfl, rfl⟩, rfl, ((Sep.ofBelow h2).nilInts .i64 _).nilInts .i64 _⟩
  · obtain ⟨ad, cd, rfl⟩ := (h3.rdInts 0 rfl).shape
    obtain ⟨ab, cb, rfl⟩ := (h3.rdInts 1 rfl).shape
    have e : B.length = D.length := by rw [h2.lD, h2.lB]
    rw [e] at h3 ⊢
    exact ⟨D, B, 0, ad, cd, ab, cb, .inr ⟨h1, rfl, h2⟩, rfl, h3⟩
end Go.Proofs.Ytfafecgnjjkagaa
