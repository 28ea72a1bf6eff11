/-
  Package cycles: Least, walked, at a ring.
-/
import Derived.Test.YtjijhpflkkicaaaOW15
set_option linter.unusedVariables false
set_option linter.unusedSimpArgs false
namespace Go.Proofs.Ytjijhpflkkicaaa
open Go Go.RowKit Go.Mem Go.MoneyP Go.NetP Go.BuildP Go.OffP Go.Shelf
set_option maxRecDepth 100000 in
set_option maxHeartbeats 4000000 in
theorem least_any (l : List Du) (vl : Value) (q : List Nat) (vq : Value) (w : World) (h : RdG duR w vl l) (hq : Rd .i64 w vq (wayI q)) (hr : RingD l q) (hl : ∀ d ∈ l, MayD d) (hlen : l.length ≤ 64) :
    Calls Try.prog 32 #[vl, vq] w fun en w' => en = .returned (.tuple #[.int .i64 (leastR l q), .bool true]) ∧ Below w.heap.size w w' := by
  have HC := Lib.hid (ring_any l vl q vq w h hq hr hl hlen)
  obtain ⟨al, cl, rfl⟩ := h.shape
  obtain ⟨aq, cq, rfl⟩ := hq.shape
  have hq16 := hr.len hl
  have hpos := hr.pos
  rw [wayI_len] at hq HC ⊢
  have hs := Sep.start w
  have HQ := Lib.hid hr
  have HL := Lib.hid hl
  have HRD := Lib.hid h
  have HRQ := Lib.hid hq
  clear hr hl h hq
  go_enter Try.func32, Try.ntmps32
  go_wp2_with fail
  refine HC.out.mono ?_
  clear HC
  rintro en w1 ⟨rfl, hb⟩
  replace hs := hs.belowStep hb
  clear hb
  have hk0 := HQ.out.mem _ (List.getElem_mem hpos)
  obtain ⟨b1, o1, e1, _, r0⟩ := (hs.rd HRQ.out).at 0 (by rw [wayI_len]; exact hpos)
  rw [wayI_at hpos, Nat.add_zero] at r0
  obtain ⟨b3, o3, e3, _, _, y3, _⟩ := due_at (hs.rdG HRD.out) hk0
  cases e1
  cases e3
  have H0 := Lib.hid (show xK l (q[0]'hpos) = leastI l q 0 by
    unfold leastI
    cases q with
    | nil => simp at hpos
    | cons k q => rfl)
  rw [H0.out] at y3
  clear H0
  obtain ⟨k, hkk⟩ : ∃ k, k = q[0]'hpos := ⟨_, rfl⟩
  rw [← hkk] at r0 y3
  have hkl : k < l.length := by rw [hkk]; exact hk0
  have hposI : (0 : Int) < q.length := by omega
  clear hkk
  go_wp2_with fail
  clear r0 y3
  refine wp_loopM [none, none, none, none, none, none, some 6, none, some 8, none, none, none, none, none, none, none, none, none, none, none, none, none, some 22, some 23, some 24, some 25, some 26, some 27, some 28, some 29, some 30, some 31, some 32, some 33, none] (fun (r : Nat) (f : Nat → Value) (wr : World) => (fun (v vx : Value) => ∃ (i : Nat), v = .int .i64 i ∧ vx = .int .i64 (leastI l q i) ∧ i ≤ q.length ∧ r = q.length - i ∧ Sep w wr []) (f 22) (f 6)) (q.length) (by kernel_rfl) ?atStart1 ?round1
  case' atStart1 => (try dsimp only [nthV])
  case' round1 =>
    intro gk f wr l hl hrel J1 K1 hJ1 hK1
    (try simp only [mask] at hl)
    generalize f 22 = u22 at hl hrel
    generalize f 6 = u6 at hl hrel
    subst hl
    (try dsimp only at hrel)
  case atStart1 => exact ⟨0, rfl, rfl, Nat.zero_le _, rfl, hs⟩
  case round1 =>
    clear hs
    obtain ⟨i, rfl, rfl, hi, rfl, hs⟩ := hrel
    by_cases hlt : i < q.length
    · have hiI : (i : Int) < q.length := by omega
      have hk := HQ.out.mem _ (List.getElem_mem hlt)
      obtain ⟨b2, o2, e2, _, r0⟩ := (hs.rd HRQ.out).at i (by rw [wayI_len]; exact hlt)
      rw [wayI_at hlt] at r0
      obtain ⟨b4, o4, e4, _, _, y3, _⟩ := due_at (hs.rdG HRD.out) hk
      cases e2
      cases e4
      have HS := Lib.hid (leastI_succ (l := l) hlt)
      obtain ⟨X, hX⟩ : ∃ X, X = xK l q[i] := ⟨_, rfl⟩
      rw [← hX] at y3 HS
      obtain ⟨k', hkk⟩ : ∃ k, k = q[i] := ⟨_, rfl⟩
      rw [← hkk] at r0 y3
      have hkl' : k' < l.length := by rw [hkk]; exact hk
      clear hX hkk
      obtain ⟨M, hM⟩ : ∃ M, M = leastI l q i := ⟨_, rfl⟩
      rw [← hM] at HS ⊢
      clear hM
      by_cases hmx : X < M
      · go_wp2_with fail
        refine Round.intro (q.length - (i + 1)) ?measure2 (by kernel_rfl) (hJ1 _ _ _ ?rel2)
        case' rel2 => (try dsimp only [nthV])
        case measure2 => omega
        case rel2 => exact ⟨i + 1, by go_num, by rw [HS.out, show min M X = X by omega], hlt, rfl, hs⟩
      · go_wp2_with fail
        refine Round.intro (q.length - (i + 1)) ?measure3 (by kernel_rfl) (hJ1 _ _ _ ?rel3)
        case' rel3 => (try dsimp only [nthV])
        case measure3 => omega
        case rel3 => exact ⟨i + 1, by go_num, by rw [HS.out, show min M X = M by omega], hlt, rfl, hs⟩
    · obtain rfl : i = q.length := by omega
      go_wp2_with fail
      go_ret2
      exact ⟨rfl, hs.below⟩
end Go.Proofs.Ytjijhpflkkicaaa
