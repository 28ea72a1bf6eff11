/-
  Two lists of accounts, the same: walked.
-/
import Derived.Test.YtlpfojpfepfdgaaAPlain2
import Derived.Test.YtlpfojpfepfdgaaObj
import Derived.Test.YtlpfojpfepfdgaaMW1
namespace Go.Proofs.Ytlpfojpfepfdgaa
open Go Go.RowKit Go.Mem Go.AcctP

set_option maxHeartbeats 1000000 in
theorem same_same (v v' : Value) (xs : List Ac) (w : World) (h : RdG acR w v xs) (h' : RdG acR w v' xs) :
    Calls Try.prog 13 #[v, v'] w fun en w' => en = .returned (.bool true) ∧ Below w.heap.size w w' := by
  obtain ⟨a, c, rfl⟩ := h.shape
  obtain ⟨a', c', rfl⟩ := h'.shape
  have hle := h.le'
  have e0 : ((xs.length : Int) != xs.length) = false := by simp
  go_enter Try.func13, Try.ntmps13
  go_wp2_with fail
  refine wp_loopM [none, none, none, none, some 4, some 5, none, none, none, none, none, some 11, some 12, some 13, some 14, some 15, some 16, some 17, some 18, some 19, some 20, some 21, some 22, some 23, some 24, some 25] (fun (r : Nat) (f : Nat → Value) (wr : World) => (fun (v : Value) => ∃ (i : Nat), v = .int .i64 i ∧ i ≤ xs.length ∧ r = xs.length - i ∧ Below w.heap.size w wr) (f 5)) (xs.length) (by kernel_rfl) ?atStart1 ?round1
  case' atStart1 => (try dsimp only [nthV])
  case' round1 =>
    intro gk f wr l hl hrel J1 K1 hJ1 hK1
    (try simp only [mask] at hl)
    generalize f 5 = u5 at hl hrel
    subst hl
    (try dsimp only at hrel)
  case atStart1 => exact ⟨0, rfl, Nat.zero_le _, rfl, Below.refl _ _⟩
  case round1 =>
    obtain ⟨i, rfl, hi, rfl, hb⟩ := hrel
    by_cases hlt : i < xs.length
    · obtain ⟨b1, o1, e1, hb1, hc1⟩ := (h.below hb).at i hlt
      obtain ⟨b2, o2, e2, hb2, hc2⟩ := (h'.below hb).at i hlt
      subst e1
      subst e2
      have x0 := hc1 0 (by decide)
      have x1 := hc1 1 (by decide)
      have y0 := hc2 0 (by decide)
      have y1 := hc2 1 (by decide)
      simp only [acR, Nat.add_zero, List.getElem?_cons_zero, List.getElem?_cons_succ] at x0 x1 y0 y1
      obtain ⟨B, hB⟩ : ∃ B, B = xs[i].bal := ⟨_, rfl⟩
      obtain ⟨R, hR⟩ : ∃ R, R = xs[i].res := ⟨_, rfl⟩
      rw [← hB] at x0 y0
      rw [← hR] at x1 y1
      have HBL := Lib.hid hb
      clear hB hR hc1 hc2 hb
      go_wp2_with fail
      refine Mix.region [0, 0, 0, 0, 0, 0, 0, 0, 0] (fun _ => True) (by kernel_rfl) (by kernel_rfl) trivial ?_
      simp only [List.zip_cons_cons, List.zip_nil_right]
      iterate 9 (refine Mix.step0 fun K hK => ?_; go_simp; (try (go_bits; try go_simp)); first | ((with_reducible refine hK _ _ ?_); clear hK K) | ((try (simp only [IntWalk.iteOmega]; try go_simp)); (try go_bits); (with_reducible refine hK _ _ ?_); clear hK K))
      refine Mix.done ?_
      go_wp2_with fail
      refine Round.intro (xs.length - (i + 1)) ?measure2 (by kernel_rfl) (hJ1 _ _ _ ?rel2)
      case' rel2 => (try dsimp only [nthV])
      case measure2 => omega
      case rel2 => exact ⟨i + 1, by go_num, hlt, rfl, HBL.out.drew⟩
    · obtain rfl : i = xs.length := by omega
      have HBL := Lib.hid hb
      clear hb
      go_wp2_with fail
      go_ret
      exact ⟨rfl, HBL.out⟩
end Go.Proofs.Ytlpfojpfepfdgaa
