/-
  The chapter's example, walked.
-/
import Derived.Test.YtfnkmkfkomhhnaaVW6
namespace Go.Proofs.Ytfnkmkfkomhhnaa
open Go Go.RowKit Go.Mem Go.NetP Go.CertP Go.ArchP

/-- How many are kept behind i Adds. -/
def capN : Nat → Int
  | 0 => 0
  | i + 1 => cap4 (capN i)
theorem capN_le : ∀ i, 0 ≤ capN i ∧ capN i ≤ 4
  | 0 => by simp [capN]
  | i + 1 => cap4_le (capN_le i)
theorem bare_may (g : Nat) : mayC (bareR g).co = true := by rfl
theorem bare_small (g : Nat) : (bareR g).small := by simp [bareR, Ro.small]
theorem small_co {r q : Ro} (h : r.co = q.co) (hq : q.small) : r.small := by
  simp only [Ro.co, Co.mk.injEq] at h
  obtain ⟨_, _, _, h1, _, h2, h3, h4⟩ := h
  unfold Ro.small at *
  rw [h1, h2, h3, h4]; exact hq
theorem small_no {r q : Ro} {x : Int} (h : r.co = { q.co with no := x }) (hq : q.small) : r.small := small_co (q := { q with no := x }) h hq
/-- What the example's archive is behind i Adds. -/
def GoodN (ks : List Ro) (i : Nat) : Prop := ks.length = 4 ∧ (∀ r ∈ ks, r.small) ∧ (2 ≤ i → ∃ k, ks[2]? = some k ∧ k.no = 2)
theorem good_start : GoodN (List.replicate 4 default) 0 := ⟨rfl, fun r hr => by rw [List.eq_of_mem_replicate hr]; simp [default, Ro.small], fun h => by omega⟩
theorem good_put {ks : List Ro} {i g : Nat} {r : Ro} (h : GoodN ks i) (hi : i < 5) (hr : r.co = { (bareR g).co with no := (i : Int) + 1 }) : GoodN (ks.set ((i + 1) % 4) r) (i + 1) := by
  refine ⟨by rw [List.length_set]; exact h.1, fun q hq => ?_, fun h2 => ?_⟩
  · rcases List.mem_or_eq_of_mem_set hq with hq | rfl
    · exact h.2.1 q hq
    · exact small_no hr (bare_small g)
  · have h4 := h.1
    by_cases h1 : i = 1
    · subst h1
      refine ⟨r, by simp [h4], ?_⟩
      have := congrArg Co.no hr
      simpa [Ro.co] using this
    · obtain ⟨k, hk, hn⟩ := h.2.2 (by omega)
      refine ⟨k, ?_, hn⟩
      rw [List.getElem?_set_ne (by omega)]; exact hk
set_option maxHeartbeats 4000000 in
theorem works_any (w : World) : Calls Try.prog 8 #[] w fun en w' => en = .returned (.bool true) ∧ Below w.heap.size w w' := by
  go_enter Try.func8, Try.ntmps8
  go_wp2_with fail
  refine (new_any _).mono ?_
  rintro en w1 ⟨b, rfl, hs⟩
  go_wp2_with fail
  refine wp_loopM [some 0, none, some 2, some 3, some 4, none, none, none, none, none, some 10, some 11, some 12, some 13, some 14, some 15, some 16, some 17, some 18, some 19, some 20, some 21, some 22, some 23, some 24, some 25, some 26, some 27, some 28, none, none, none, none, none, none, none, none, none, none, none, none, none, none, none, none, none, none, none, none, none, none, none, none, none, none, none, none, none, none, none] (fun (r : Nat) (f : Nat → Value) (wr : World) => (fun (v : Value) => ∃ (i : Nat) (ks : List Ro), v = .int .i64 i ∧ i ≤ 5 ∧ r = 5 - i ∧ GoodN ks i ∧ Sep w wr [arcT b ks (capN i) i]) (f 2)) (5) (by kernel_rfl) ?atStart1 ?round1
  case' atStart1 => (try dsimp only [nthV])
  case' round1 =>
    intro gk f wr l hl hrel J1 K1 hJ1 hK1
    (try simp only [mask] at hl)
    generalize f 2 = u2 at hl hrel
    subst hl
    (try dsimp only at hrel)
  case atStart1 => exact ⟨0, _, rfl, by omega, rfl, good_start, hs⟩
  case round1 =>
    clear hs
    obtain ⟨i, ks, rfl, hi, rfl, hg, hs⟩ := hrel
    by_cases hlt : i < 5
    · go_wp2_with fail
      refine (bare_any _).mono ?_
      rintro en w2 ⟨g, rfl, k1⟩
      have ADD := Lib.hid (add_yes ((hs.join k1)) 1 b ks (capN i) i rfl hg.1 (capN_le i) (bareR g) (bare_ok (hs.join k1) 0 rfl) (bare_may g) (by omega))
      have HG := Lib.hid (fun r hr => good_put (r := r) (g := g) hg hlt hr)
      clear k1 hs hg
      go_wp2_with fail
      refine (ADD.out).mono ?_
      rintro en w3 ⟨rfl, r1, hco, hs3⟩
      have hg2 := Lib.hid (HG.out r1 hco)
      replace hs3 := hs3.omit 0
      simp only [List.cons_append, List.nil_append, List.set_cons_succ, List.set_cons_zero, List.eraseIdx_cons_zero] at hs3
      clear hco ADD HG
      have e1 : (((i : Int) + 1) != ((i : Int) + 1)) = false := by simp
      go_wp2_with fail
      refine Round.intro (5 - (i + 1)) ?measure2 (by kernel_rfl) (hJ1 _ _ _ ?rel2)
      case' rel2 => (try dsimp only [nthV])
      case measure2 => omega
      case rel2 => exact ⟨i + 1, _, by go_num, hlt, rfl, hg2.out, hs3⟩
    · obtain rfl : i = 5 := by omega
      have hc : capN 5 = 4 := by rfl
      rw [hc] at hs
      obtain ⟨g4, gs, g2⟩ := hg
      obtain ⟨k, hk, hk2⟩ := g2 (by omega)
      have hkm : k ∈ ks := List.mem_of_getElem? hk
      have HKS := Lib.hid (gs k hkm)
      have HGS := Lib.hid gs
      have HK := Lib.hid hk
      have HK2 := Lib.hid hk2
      clear gs hk hk2 hc g2
      go_wp2_with fail
      obtain ⟨an, ano⟩ := arch_n g4 (Sep.arch (i := 0) hs rfl).1
      have G1 := Lib.hid (get_old b 4 5 1 _ (lt_of (Sep.arch (i := 0) hs rfl).1) an ano (by omega) (by omega) (by omega))
      clear an ano
      refine (G1.out).mono ?_
      rintro en w2 ⟨rfl, hb⟩
      replace hs := hs.belowStep hb
      clear hb G1
      dsimp only [zeroV]
      go_wp2_with fail
      replace hs := hs.alloc (.cells #[.int .u64 0, .int .i64 0, .bool false, .slice none 0 0, .int .i64 0, .slice none 0 0, .slice none 0 0, .slice none 0 0] 39)
      have G2 := Lib.hid (get_yes b ks 4 5 2 _ (Sep.arch (i := 0) hs rfl).1 g4 (by omega) (by omega) (by omega) k HK.out ((Sep.arch (i := 0) hs rfl).2 k hkm) HKS.out)
      refine (G2.out).mono ?_
      rintro en w3 ⟨r1, hco, rfl, k1⟩
      obtain ⟨xno, xday, xcomp, a1, c1, xids, xn, a2, c2, xes, a3, c3, xfl, a4, c4, xpot⟩ := r1
      have hx : xno = 2 := by have := congrArg Co.no hco; rw [← HK2.out]; simpa [Ro.co] using this
      subst hx
      replace hs := hs.join k1
      clear k1 hco G2
      simp only [List.cons_append, List.nil_append] at hs
      dsimp only [Ro.val]
      go_wp2_with fail
      replace hs := hs.alloc (.cells #[.int .u64 2, .int .i64 xday, .bool xcomp, .slice a1 xids.length c1, .int .i64 xn, .slice a2 xes.length c2, .slice a3 xfl.length c3, .slice a4 xpot.length c4] 39)
      have G3 := Lib.hid (list_any b ks 4 1 _ (Sep.arch (i := 1) hs rfl).1 g4 (by omega) (by omega) (Sep.arch (i := 1) hs rfl).2 HGS.out)
      refine (G3.out).mono ?_
      rintro en w4 ⟨u, rs, rfl, hrs, k1⟩
      have hrl : rs.length = 4 := by have := congrArg List.length hrs; simpa [keptL] using this
      obtain ⟨al, cl, rfl⟩ := (k1.rdRecs 0 rfl).shape
      rw [hrl]
      replace hs := hs.belowStep k1.below
      clear hrs hrl k1 G3
      obtain ⟨an, ano⟩ := arch_n g4 (Sep.arch (i := 1) hs rfl).1
      go_wp2_with fail
      refine (no_any b _ _ ano).mono ?_
      rintro en w5 ⟨rfl, rfl⟩
      go_wp2_with fail
      go_ret
      exact ⟨rfl, hs.below⟩
end Go.Proofs.Ytfnkmkfkomhhnaa
