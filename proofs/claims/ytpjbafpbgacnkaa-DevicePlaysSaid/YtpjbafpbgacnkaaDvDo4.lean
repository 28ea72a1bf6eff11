/-
  Do: reads.
-/
import Derived.Test.YtpjbafpbgacnkaaDvDo3
import Derived.Shelf.Bytes.SlSmallAll
set_option linter.unusedVariables false
set_option linter.unusedSimpArgs false
namespace Go.Proofs.Ytpjbafpbgacnkaa
open Go Go.RowKit Go.Mem Go.DevP
attribute [local go_sem] Oper.semAt_some
theorem conv_all {w : World} {a : Option Addr} {n c : Nat} {xs : List Int} (h : Rd .u8 w (.slice a n c) xs) : (convert 41 9 (.slice a n c)).run Try.prog w = .ok (.string (strOfNums xs)) w := by
  by_cases h0 : 0 < xs.length
  · exact conv_rd h h0
  · obtain rfl : xs = [] := List.eq_nil_of_length_eq_zero (by omega)
    obtain ⟨_, _, e⟩ := h.shape
    injection e with _ e _
    have e : n = 0 := e
    subst e
    cases a with
    | none => exact run_convert_bytes_nil w 41 5 Try.underlying41 Try.underlying5 0 c 9 Try.underlying9
    | some p => exact run_convert_bytes_zero w 41 5 Try.underlying41 Try.underlying5 p c 9 Try.underlying9
section
variable {w0 w : World} {b rb : Nat} {d : Dv} {k n c e : Int} {sh : Bool} {pa : Option Addr} {pn pc : Nat}
set_option maxRecDepth 100000 in
set_option maxHeartbeats 2000000 in
theorem do_read (hs0 : Sep w0 w [devT b d, refT rb d]) (hg : d.Good) :
    Calls Try.prog 11 #[.pointer (some ⟨b, 0, none⟩), .pointer (some ⟨rb, 0, none⟩), stV 3 k n c e sh (.slice pa pn pc)] w fun en w' => DoP w0 w' b rb d en := by
  have hs := hs0.newCells #[.int .i64 3, .int .i64 k, .int .i64 n, .int .u8 c, .int .u8 e, .bool sh, .slice pa pn pc] 35
  obtain ⟨B1, hB1⟩ : ∃ B1, B1 = w.heap.size := ⟨_, rfl⟩
  rw [← hB1] at hs
  have t0 := cell_of (hs.cells 0 rfl) 0
  have t1 := cell_of (hs.cells 0 rfl) 1
  have t2 := cell_of (hs.cells 0 rfl) 2
  have t3 := cell_of (hs.cells 0 rfl) 3
  have t4 := cell_of (hs.cells 0 rfl) 4
  have t5 := cell_of (hs.cells 0 rfl) 5
  have t6 := cell_of (hs.cells 0 rfl) 6
  simp only [List.getElem?_toArray, List.getElem?_cons_zero, List.getElem?_cons_succ] at t0 t1 t2 t3 t4 t5 t6
  clear hs0
  have HG := Lib.hid hg
  clear hg
  go_enter Try.func11, Try.ntmps11
  go_wp2_with fail
  rw [← hB1]
  clear hB1
  refine (read_any hs (i := 1) rfl HG.out k).mono ?_
  rintro en w1 ⟨v, rfl, hs1⟩
  clear hs t0 t1 t2 t3 t4 t5 t6
  obtain ⟨xs, hxs⟩ : ∃ xs, xs = d.readB k := ⟨_, rfl⟩
  have HXS := Lib.hid hxs
  rw [← hxs] at hs1
  clear hxs
  obtain ⟨E, hE⟩ : ∃ E, E = d.readE k := ⟨_, rfl⟩
  have HE := Lib.hid hE
  rw [← hE]
  clear hE
  obtain ⟨va, vc, rfl⟩ := (hs1.rdInts 0 rfl).shape
  have hxl := (hs1.rdInts 0 rfl).le'
  have t1 := cell_of (hs1.cells 1 rfl) 1
  simp only [List.getElem?_toArray, List.getElem?_cons_zero, List.getElem?_cons_succ] at t1
  have HR := Lib.hid (rread_any hs1 (i := 3) rfl k)
  rw [← HE.out, ← HXS.out] at HR
  clear hs1
  obtain ⟨s, hss⟩ : ∃ s, s = strOfNums xs := ⟨_, rfl⟩
  have HSS := Lib.hid hss
  rw [← hss] at HR
  clear hss
  go_wp2_with fail
  refine HR.out.mono ?_
  rintro en w2 ⟨v2, A, rfl, hs, hcv⟩
  have HCV := Lib.hid hcv
  have hc1 := conv_all (hs.rdInts 1 rfl)
  rw [← HSS.out] at hc1
  have hc2 := hcv _ _ _ 0 hs rfl
  clear hcv HR t1
  go_wp2_with fail
  clear hc1 hc2
  refine wp_loopM [none, none, none, none, none, none, none, none, none, none, none, none, none, none, some 14, none, none, none, none, none, none, none, none, none, none, none, none, none, none, none, none, none, none, none, none, none, none, none, none, none, none, none, none, none, none, none, none, none, none, none, none, none, none, none, none, none, none, none, none, none, none, none, none, none, none, none, none, none, none, none, none, none, none, none, none, none, none, none, none, none, none, none, none, none, none, none, none, some 87, some 88, some 89, some 90, some 91, some 92, some 93, some 94, some 95, some 96, some 97, some 98, some 99, some 100, none, none, none, none, none, none, none, none, none, none, none, none, none, none, none, none, none, none, none, none, none, none, none, none, none, none, none, none, none, none, none, none, none, none, none, none, none, none, none, none, none, none, none] (fun (r : Nat) (f : Nat → Value) (wr : World) => (fun (v : Value) => ∃ (i : Nat) (ys : List Int), v = .int .i64 i ∧ i ≤ xs.length ∧ r = xs.length - i ∧ Hid (ys.length = xs.length) ∧ Sep w0 wr [A, intsT .u8 5 (.slice va xs.length vc) ys, stT B1 3 k n c e sh (.slice pa pn pc), devT b d, refT rb d]) (f 14)) (xs.length) (by kernel_rfl) ?atStart1 ?round1
  case' atStart1 => (try dsimp only [nthV])
  case' round1 =>
    intro gk f wr l hl hrel J1 K1 hJ1 hK1
    (try simp only [mask] at hl)
    generalize f 14 = u14 at hl hrel
    subst hl
    (try dsimp only at hrel)
  case atStart1 => exact ⟨0, xs, rfl, Nat.zero_le _, rfl, Lib.hid rfl, hs⟩
  case round1 =>
    clear hs
    obtain ⟨i, ys, rfl, hi, rfl, HY, hs⟩ := hrel
    by_cases hlt : i < xs.length
    · obtain ⟨g, cg, eg, _, hcR, hfz⟩ := (hs.ints 1 rfl).get i (by rw [HY.out]; exact hlt)
      injection eg with e1 e2 e3
      subst e1
      subst e3
      clear e2
      have o0 := hcR i (by rw [HY.out]; exact hlt)
      obtain ⟨x0, hx0⟩ : ∃ x0, x0 = ys.getD i 0 := ⟨_, rfl⟩
      rw [← hx0] at o0
      have HSX := Lib.hid (fun X => hs.setInts (k := .u8) (j := i) 1 rfl X)
      clear hs hcR hx0
      go_wp2_with fail
      refine Round.intro (xs.length - (i + 1)) ?measure2 (by kernel_rfl) (hJ1 _ _ _ ?rel2)
      case' rel2 => (try dsimp only [nthV])
      case measure2 => omega
      case rel2 => exact ⟨i + 1, _, by go_num, hlt, rfl, Lib.hid (by rw [List.length_set]; exact HY.out), HSX.out _⟩
    · have t1 := cell_of (hs.cells 2 rfl) 1
      simp only [List.getElem?_toArray, List.getElem?_cons_zero, List.getElem?_cons_succ] at t1
      have HW := Lib.hid (read_any hs (i := 3) rfl HG.out k)
      rw [← HXS.out] at HW
      clear hs
      go_wp2_with fail
      refine HW.out.mono ?_
      rintro en w5 ⟨v5, rfl, hs5⟩
      obtain ⟨v5a, v5c, rfl⟩ := (hs5.rdInts 0 rfl).shape
      have hc1 := conv_all (hs5.rdInts 0 rfl)
      rw [← HSS.out] at hc1
      have hc2 := HCV.out _ _ _ 1 hs5 rfl
      have HS := Lib.hid hs5.tail.tail.tail.tail
      clear hs5 HW t1
      go_wp2_with fail
      go_ret
      exact ⟨rfl, HS.out⟩
end
end Go.Proofs.Ytpjbafpbgacnkaa
