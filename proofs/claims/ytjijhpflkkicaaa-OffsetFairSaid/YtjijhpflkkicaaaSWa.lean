/-
 Package solve: sources, nearest, raise, anew, narrow, finer. Walked.
-/
import Derived.Test.YtjijhpflkkicaaaSPl
import Derived.Test.YtjijhpflkkicaaaRA
import Derived.Test.YtjijhpflkkicaaaLD
set_option linter.unusedVariables false
set_option linter.unusedSimpArgs false
namespace Go.Proofs.Ytjijhpflkkicaaa
open Go Go.RowKit Go.Mem Go.NetP Go.RestP Go.CertP Go.PathP Go.SolveP
theorem Try.infoIntv : (Try.prog.info? 3).map (fun i => (i.zero, i.size, i.bytes)) = some (some (.int .i64 0), 1, 8) := by kernel_rfl
/-- A solver's blocks. -/
structure Sol where
 bs : Nat
 gE : Nat
 cE : Nat
 gF : Nat
 gP : Nat
 gO : Nat
 N : Nat
 ex : List Thing
def Sol.cells (M : Sol) (nE st : Nat) : Array Value := #[.int .i64 M.N, .slice (some ⟨M.gE, 0, none⟩) nE M.cE, .slice (some ⟨M.gF, 0, none⟩) nE nE, .slice (some ⟨M.gP, 0, none⟩) M.N M.N, .slice (some ⟨M.gO, 0, none⟩) M.N M.N, .int .i64 st]
/-- The solver, with its numbers. -/
def solL (M : Sol) (S : St) : List Thing :=
 cellsT M.bs (M.cells S.es.length S.steps) 81 :: intsT .i64 2 (.slice (some ⟨M.gF, 0, none⟩) S.es.length S.es.length) S.fl :: intsT .i64 2 (.slice (some ⟨M.gP, 0, none⟩) M.N M.N) S.pot :: intsT .i64 2 (.slice (some ⟨M.gO, 0, none⟩) M.N M.N) S.ov :: recT edR 77 (.slice (some ⟨M.gE, 0, none⟩) S.es.length M.cE) S.es :: M.ex
set_option maxRecDepth 100000 in
set_option maxHeartbeats 2000000 in
theorem sources_any (M : Sol) (S : St) (w0 w : World) (hl : S.ov.length = M.N) (hN : M.N ≤ 40) (hs : Sep w0 w (solL M S)) :
  Calls Try.prog 61 #[.pointer (some ⟨M.bs, 0, none⟩)] w fun e w' => ∃ u, e = .returned u ∧ Sep w0 w' (intsT .i64 3 u (srcK S.ov M.N) :: solL M S) := by
 obtain ⟨j0, hj0, hy0, hy1, hy2⟩ := info_parts Try.infoIntv
 unfold solL at hs
 have s0 := cell_of (hs.cells 0 rfl) 0
 have s1 := cell_of (hs.cells 0 rfl) 1
 have s2 := cell_of (hs.cells 0 rfl) 2
 have s3 := cell_of (hs.cells 0 rfl) 3
 have s4 := cell_of (hs.cells 0 rfl) 4
 simp only [Sol.cells, List.getElem?_toArray, List.getElem?_cons_zero, List.getElem?_cons_succ] at s0 s1 s2 s3 s4
 have hs1 := hs.nilInts .i64 3
 go_enter Try.func61, Try.ntmps61
 go_wp2_with fail
 clear s0 s1 s2 s3 s4 hs
 refine wp_loopM [none, none, none, some 3, some 4, some 5, none, none, none, none, none, some 11, some 12, some 13, some 14, some 15, some 16, some 17, some 18, some 19, some 20, some 21, some 22, none] (fun (r : Nat) (f : Nat → Value) (wr : World) => (fun (vl v : Value) => ∃ (k : Nat) (u : Value), v = .int .i64 k ∧ vl = u ∧ k ≤ M.N ∧ r = M.N - k ∧ Sep w0 wr (intsT .i64 3 u (srcK S.ov k) :: solL M S)) (f 3) (f 11)) (M.N) (by kernel_rfl) ?atStart1 ?round1
 case' atStart1 => (try dsimp only [nthV])
 case' round1 =>
  intro gk f wr l hl hrel J1 K1 hJ1 hK1
  (try simp only [mask] at hl)
  generalize f 3 = u3 at hl hrel
  generalize f 11 = u11 at hl hrel
  subst hl
  (try dsimp only at hrel)
 case atStart1 => exact ⟨0, _, rfl, rfl, Nat.zero_le _, rfl, hs1⟩
 case round1 =>
  clear hs1
  obtain ⟨k, u, rfl, rfl, hk, rfl, hs⟩ := hrel
  unfold solL at hs
  by_cases hlt : k < M.N
  ·obtain ⟨_, _, eqz, _, x1⟩ := (hs.rdInts 4 rfl).at k (by rw [hl]; exact hlt)
   injection eqz with eqz
   injection eqz with eqz eqo
   subst eqz
   subst eqo
   rw [Nat.zero_add] at x1
   obtain ⟨x, hx⟩ : ∃ x, x = g S.ov k := ⟨_, rfl⟩
   rw [show S.ov.getD k 0 = x from hx.symm] at x1
   have HS := Lib.hid (srcK_succ S.ov k)
   rw [← hx] at HS
   have hsl := srcK_len S.ov k
   clear hx
   by_cases h0 : 0 < x
   ·have d1 : decide (0 < x) = true := decide_eq_true h0
    rw [if_pos h0] at HS
    clear h0
    go_wp2_with (at_builtin; refine wpList_appInt rfl (.tmp 18) (.tmp 20) 60 rfl 3 j0 _ 8 Try.underlying60 hj0 hy0 hy1 hy2 rfl _ _ .i64 k hs 0 rfl rfl (by simp [go_sem]) ?c3 ?c4 ?grow)
    case c3 => (try simp); (try simp only [maxLen]); (try omega)
    case c4 => (try simp); (try simp only [maxLen]); (try omega)
    case grow =>
     intro vw w6 hs6 _
     (try simp only [List.set_cons_zero] at hs6)
     rw [← HS.out] at hs6
     clear hs x1
     go_wp2_with fail
     refine Round.intro (M.N - (k + 1)) ?measure2 (by kernel_rfl) (hJ1 _ _ _ ?rel2)
     case' rel2 => (try dsimp only [nthV])
     case measure2 => omega
     case rel2 => exact ⟨k + 1, _, by go_num, rfl, hlt, rfl, hs6⟩
   ·have d1 : decide (0 < x) = false := decide_eq_false h0
    rw [if_neg h0, List.append_nil] at HS
    clear h0
    go_wp2_with fail
    rw [← HS.out] at hs
    refine Round.intro (M.N - (k + 1)) ?measure3 (by kernel_rfl) (hJ1 _ _ _ ?rel3)
    case' rel3 => (try dsimp only [nthV])
    case measure3 => omega
    case rel3 => exact ⟨k + 1, _, by go_num, rfl, hlt, rfl, hs⟩
  ·obtain rfl : k = M.N := by omega
   go_wp2_with fail
   go_ret
   exact ⟨_, rfl, hs⟩
set_option maxRecDepth 100000 in
set_option maxHeartbeats 2000000 in
theorem nearest_any (M : Sol) (S : St) (w0 w : World) (vd : Value) (D : List Int) (hl : S.ov.length = M.N) (hN : M.N ≤ 40) (hs : Sep w0 w (solL M S)) (hd : Rd .i64 w vd D) (hD : D.length = M.N) :
  Calls Try.prog 63 #[.pointer (some ⟨M.bs, 0, none⟩), vd] w fun e w' => e = .returned (.int .i64 (nearK S.ov D M.N)) ∧ w' = w := by
 obtain ⟨ad, cd, rfl⟩ := hd.shape
 unfold solL at hs
 have s0 := cell_of (hs.cells 0 rfl) 0
 have s1 := cell_of (hs.cells 0 rfl) 1
 have s2 := cell_of (hs.cells 0 rfl) 2
 have s3 := cell_of (hs.cells 0 rfl) 3
 have s4 := cell_of (hs.cells 0 rfl) 4
 simp only [Sol.cells, List.getElem?_toArray, List.getElem?_cons_zero, List.getElem?_cons_succ] at s0 s1 s2 s3 s4
 have hle := hd.le'
 go_enter Try.func63, Try.ntmps63
 go_wp2_with fail
 refine wp_loopM [none, none, none, none, none, some 5, some 6, some 7, none, none, some 10, some 11, some 12, some 13, some 14, some 15, some 16, some 17, some 18, some 19, some 20, some 21, some 22, some 23, some 24, some 25, some 26, some 27, some 28, some 29, some 30, some 31, some 32, some 33, some 34, some 35, some 36, some 37, some 38, some 39, some 40, none] (fun (r : Nat) (f : Nat → Value) (wr : World) => (fun (vt v : Value) => ∃ k : Nat, v = .int .i64 k ∧ vt = .int .i64 (nearK S.ov D k) ∧ k ≤ M.N ∧ r = M.N - k ∧ wr = w) (f 5) (f 10)) (M.N) (by kernel_rfl) ?atStart4 ?round4
 case' atStart4 => (try dsimp only [nthV])
 case' round4 =>
  intro gk f wr l hl hrel J1 K1 hJ1 hK1
  (try simp only [mask] at hl)
  generalize f 5 = u5 at hl hrel
  generalize f 10 = u10 at hl hrel
  subst hl
  (try dsimp only at hrel)
 case atStart4 => exact ⟨0, rfl, rfl, Nat.zero_le _, rfl, rfl⟩
 case round4 =>
  obtain ⟨k, rfl, rfl, hk, rfl, rfl⟩ := hrel
  by_cases hlt : k < M.N
  ·obtain ⟨_, _, eqz, _, x1⟩ := (hs.rdInts 3 rfl).at k (by rw [hl]; exact hlt)
   injection eqz with eqz
   injection eqz with eqz eqo
   subst eqz
   subst eqo
   rw [Nat.zero_add] at x1
   obtain ⟨b, o, eq, _, x2⟩ := hd.at k (by omega)
   subst eq
   have HSP := Lib.hid (near_spec S.ov D k)
   have HNX := Lib.hid (show nearK S.ov D (k + 1) = if g S.ov k < 0 ∧ 0 ≤ g D k ∧ (nearK S.ov D k < 0 ∨ g D k < g D (nearK S.ov D k).toNat) then (k : Int) else nearK S.ov D k from rfl)
   obtain ⟨x, hx⟩ : ∃ x, x = g S.ov k := ⟨_, rfl⟩
   obtain ⟨y, hy⟩ : ∃ y, y = g D k := ⟨_, rfl⟩
   obtain ⟨T, hT⟩ : ∃ T, T = nearK S.ov D k := ⟨_, rfl⟩
   rw [show S.ov.getD k 0 = x from hx.symm] at x1
   rw [show D.getD k 0 = y from hy.symm] at x2
   rw [← hx, ← hy, ← hT] at HNX
   rw [← hT] at HSP ⊢
   have hkD : (k : Int) < D.length := by omega
   clear hx hy hT
   by_cases h1 : x < 0
   ·have d1 : decide (x < 0) = true := decide_eq_true h1
    by_cases h2 : 0 ≤ y
    ·have d2 : decide (0 ≤ y) = true := decide_eq_true h2
     by_cases h3 : T < 0
     ·have d3 : decide (T < 0) = true := decide_eq_true h3
      have HN := Lib.hid (show nearK S.ov D (k + 1) = k by rw [HNX.out, if_pos ⟨h1, h2, .inl h3⟩])
      clear h1 h2 h3
      go_wp2_with fail
      refine Round.intro (M.N - (k + 1)) ?measure5 (by kernel_rfl) (hJ1 _ _ _ ?rel5)
      case' rel5 => (try dsimp only [nthV])
      case measure5 => omega
      case rel5 => exact ⟨k + 1, by go_num, by rw [HN.out], hlt, rfl, rfl⟩
     ·have d3 : decide (T < 0) = false := decide_eq_false h3
      obtain ⟨t, rfl, ht⟩ : ∃ t : Nat, T = t ∧ t < k := by
       rcases HSP.out with ⟨q, _⟩ | ⟨t, q1, q2, _⟩
       ·omega
       ·exact ⟨t, q1, q2⟩
      obtain ⟨_, _, eqz, _, x3⟩ := hd.at t (by omega)
      injection eqz with eqz
      injection eqz with eqz eqo
      subst eqz
      subst eqo
      rw [Int.toNat_natCast] at HNX
      obtain ⟨z, hz⟩ : ∃ z, z = g D t := ⟨_, rfl⟩
      rw [show D.getD t 0 = z from hz.symm] at x3
      rw [← hz] at HNX
      have htD : (t : Int) < D.length := by omega
      clear hz
      by_cases h4 : y < z
      ·have d4 : decide (y < z) = true := decide_eq_true h4
       have HN := Lib.hid (show nearK S.ov D (k + 1) = k by rw [HNX.out, if_pos ⟨h1, h2, .inr h4⟩])
       clear h1 h2 h3 h4
       go_wp2_with fail
       refine Round.intro (M.N - (k + 1)) ?measure6 (by kernel_rfl) (hJ1 _ _ _ ?rel6)
       case' rel6 => (try dsimp only [nthV])
       case measure6 => omega
       case rel6 => exact ⟨k + 1, by go_num, by rw [HN.out], hlt, rfl, rfl⟩
      ·have d4 : decide (y < z) = false := decide_eq_false h4
       have HN := Lib.hid (show nearK S.ov D (k + 1) = t by rw [HNX.out, if_neg (by omega)])
       clear h1 h2 h3 h4
       go_wp2_with fail
       refine Round.intro (M.N - (k + 1)) ?measure7 (by kernel_rfl) (hJ1 _ _ _ ?rel7)
       case' rel7 => (try dsimp only [nthV])
       case measure7 => omega
       case rel7 => exact ⟨k + 1, by go_num, by rw [HN.out], hlt, rfl, rfl⟩
    ·have d2 : decide (0 ≤ y) = false := decide_eq_false h2
     have HN := Lib.hid (show nearK S.ov D (k + 1) = T by rw [HNX.out, if_neg (by omega)])
     clear h1 h2
     go_wp2_with fail
     refine Round.intro (M.N - (k + 1)) ?measure8 (by kernel_rfl) (hJ1 _ _ _ ?rel8)
     case' rel8 => (try dsimp only [nthV])
     case measure8 => omega
     case rel8 => exact ⟨k + 1, by go_num, by rw [HN.out], hlt, rfl, rfl⟩
   ·have d1 : decide (x < 0) = false := decide_eq_false h1
    have HN := Lib.hid (show nearK S.ov D (k + 1) = T by rw [HNX.out, if_neg (by omega)])
    clear h1
    go_wp2_with fail
    refine Round.intro (M.N - (k + 1)) ?measure9 (by kernel_rfl) (hJ1 _ _ _ ?rel9)
    case' rel9 => (try dsimp only [nthV])
    case measure9 => omega
    case rel9 => exact ⟨k + 1, by go_num, by rw [HN.out], hlt, rfl, rfl⟩
  ·obtain rfl : k = M.N := by omega
   go_wp2_with fail
   go_ret
   exact ⟨rfl, rfl⟩
set_option maxRecDepth 100000 in
set_option maxHeartbeats 2000000 in
theorem raise_any (M : Sol) (S : St) (w0 w : World) (vd : Value) (D : List Int) (dt : Int) (hl : S.pot.length = M.N) (hN : M.N ≤ 40) (hb : ∀ v, v < M.N → -1073741824 ≤ g S.pot v ∧ g S.pot v ≤ 1073741824) (h0 : 0 ≤ dt) (h1 : dt ≤ 83751901272) (hs : Sep w0 w (solL M S)) (j : Nat) (hj : ∀ S', (solL M S')[j]? = some (intsT .i64 2 vd D)) (hD : D.length = M.N) :
  Calls Try.prog 66 #[.pointer (some ⟨M.bs, 0, none⟩), vd, .int .i64 dt] w fun e w' => (∃ v, e = .returned v) ∧ Sep w0 w' (solL M { S with pot := raiseN S.pot D dt M.N }) := by
 have hd := hs.rdInts j (hj S)
 have hle := hd.le'
 obtain ⟨ad, cd, rfl⟩ := hd.shape
 have HJ := Lib.hid hj
 have HB := Lib.hid hb
 clear hj hd hb
 go_enter Try.func66, Try.ntmps66
 go_wp2_with fail
 refine wp_loopM [none, none, none, none, none, none, some 6, some 7, none, none, some 10, some 11, some 12, some 13, some 14, some 15, some 16, some 17, some 18, some 19, some 20, some 21, some 22, some 23, some 24, some 25, some 26, some 27, some 28, some 29, some 30, some 31, some 32, some 33] (fun (r : Nat) (f : Nat → Value) (wr : World) => (fun (v : Value) => ∃ k : Nat, v = .int .i64 k ∧ k ≤ M.N ∧ r = M.N - k ∧ Sep w0 wr (solL M { S with pot := raiseN S.pot D dt k })) (f 10)) (M.N) (by kernel_rfl) ?atStart10 ?round10
 case' atStart10 => (try dsimp only [nthV])
 case' round10 =>
  intro gk f wr l hl hrel J1 K1 hJ1 hK1
  (try simp only [mask] at hl)
  generalize f 10 = u10 at hl hrel
  subst hl
  (try dsimp only at hrel)
 case atStart10 => exact ⟨0, rfl, Nat.zero_le _, rfl, by rw [raiseN_zero]; exact hs⟩
 case round10 =>
  clear hs
  obtain ⟨k, rfl, hk, rfl, hs⟩ := hrel
  by_cases hlt : k < M.N
  ·obtain ⟨b, o, eq, _, x2⟩ := (hs.rdInts j (HJ.out _)).at k (by omega)
   subst eq
   unfold solL at hs
   have s0 := cell_of (hs.cells 0 rfl) 0
   have s1 := cell_of (hs.cells 0 rfl) 1
   have s2 := cell_of (hs.cells 0 rfl) 2
   have s3 := cell_of (hs.cells 0 rfl) 3
   have s4 := cell_of (hs.cells 0 rfl) 4
   simp only [Sol.cells, List.getElem?_toArray, List.getElem?_cons_zero, List.getElem?_cons_succ] at s0 s1 s2 s3 s4
   obtain ⟨g', cg', eg, _, hcR, xf⟩ := (hs.ints 2 rfl).get k (by rw [raiseN_len, hl]; exact hlt)
   injection eg with eg q1 q2
   injection eg with eg
   injection eg with eg
   subst eg
   have x1 := hcR k (by rw [raiseN_len, hl]; exact hlt)
   clear q1 q2 hcR
   have hat := raiseN_at (pot := S.pot) (D := D) (dt := dt) (k := k) (v := k) (by rw [hl]; exact hlt)
   rw [if_neg (by omega)] at hat
   rw [show (raiseN S.pot D dt k).getD k 0 = g S.pot k from hat] at x1
   have HSU := Lib.hid (raiseN_succ (pot := S.pot) (D := D) (dt := dt) (k := k) (by rw [hl]; exact hlt))
   obtain ⟨p1, p2⟩ := HB.out k hlt
   obtain ⟨x, hx⟩ : ∃ x, x = g D k := ⟨_, rfl⟩
   rw [show D.getD k 0 = x from hx.symm] at x2
   obtain ⟨p, hp⟩ : ∃ p, p = g S.pot k := ⟨_, rfl⟩
   have HCL := Lib.hid (show clip D dt k = if x < 0 ∨ dt < x then dt else x by unfold clip; rw [← hx])
   rw [← hp] at x1 p1 p2 HSU
   have hkD : (k : Int) < D.length := by omega
   clear hx hp hat
   by_cases c1 : x < 0
   ·have d1 : decide (x < 0) = true := decide_eq_true c1
    have HV := Lib.hid (show (raiseN S.pot D dt k).set k (p + dt) = raiseN S.pot D dt (k + 1) by rw [← HSU.out, HCL.out, if_pos (.inl c1)])
    clear c1
    go_wp2_with fail
    have hs2 := hs.setInts (j := k) 2 rfl (p + dt)
    simp only [List.set_cons_zero, List.set_cons_succ] at hs2
    rw [HV.out] at hs2
    clear hs x1 x2 xf s0 s1 s2 s3 s4
    refine Round.intro (M.N - (k + 1)) ?measure11 (by kernel_rfl) (hJ1 _ _ _ ?rel11)
    case' rel11 => (try dsimp only [nthV])
    case measure11 => omega
    case rel11 => exact ⟨k + 1, by go_num, hlt, rfl, hs2⟩
   ·have d1 : decide (x < 0) = false := decide_eq_false c1
    by_cases c2 : dt < x
    ·have d2 : decide (dt < x) = true := decide_eq_true c2
     have HV := Lib.hid (show (raiseN S.pot D dt k).set k (p + dt) = raiseN S.pot D dt (k + 1) by rw [← HSU.out, HCL.out, if_pos (.inr c2)])
     clear c1 c2
     go_wp2_with fail
     have hs2 := hs.setInts (j := k) 2 rfl (p + dt)
     simp only [List.set_cons_zero, List.set_cons_succ] at hs2
     rw [HV.out] at hs2
     clear hs x1 x2 xf s0 s1 s2 s3 s4
     refine Round.intro (M.N - (k + 1)) ?measure12 (by kernel_rfl) (hJ1 _ _ _ ?rel12)
     case' rel12 => (try dsimp only [nthV])
     case measure12 => omega
     case rel12 => exact ⟨k + 1, by go_num, hlt, rfl, hs2⟩
    ·have d2 : decide (dt < x) = false := decide_eq_false c2
     have HV := Lib.hid (show (raiseN S.pot D dt k).set k (p + x) = raiseN S.pot D dt (k + 1) by rw [← HSU.out, HCL.out, if_neg (by omega)])
     go_wp2_with fail
     have hs2 := hs.setInts (j := k) 2 rfl (p + x)
     simp only [List.set_cons_zero, List.set_cons_succ] at hs2
     rw [HV.out] at hs2
     clear hs x1 x2 xf s0 s1 s2 s3 s4
     refine Round.intro (M.N - (k + 1)) ?measure13 (by kernel_rfl) (hJ1 _ _ _ ?rel13)
     case' rel13 => (try dsimp only [nthV])
     case measure13 => omega
     case rel13 => exact ⟨k + 1, by go_num, hlt, rfl, hs2⟩
  ·obtain rfl : k = M.N := by omega
   go_wp2_with fail
   exact bodyPost_end (results_none rfl _ _ _) rfl ⟨⟨_, rfl⟩, hs⟩
end Go.Proofs.Ytjijhpflkkicaaa
namespace Go.SolveP
open Go Go.Mem Go.NetP Go.RestP Go.CertP Go.PathP
/-- An arc of a net where the flow is within, with its numbers. -/
theorem arc_is {N : Nat} {es : List Ed} {fl : List Int} (hw : withinB N es fl = true) {m : Nat} (hm : m < 2 * es.length) :
  ∃ (U V : Nat) (C R : Int), endsV N es m = ((U : Int), (V : Int), C) ∧ roomV N es fl m = R ∧ roomE es fl m = R ∧ 0 ≤ R ∧ R ≤ 4503599627370496 ∧ U < N ∧ V < N ∧ -1000 ≤ C ∧ C ≤ 1000 ∧ endsE es m = ((U : Int), (V : Int), C) := by
 have hr := (within_cap hw).2.1
 have hh : hasB es.length (m : Int) = true := by rw [hasB_iff]; omega
 obtain ⟨h1, h2, h3, h4⟩ := ends_node hr hm
 have e1 : ((endsE es m).1.toNat : Int) = (endsE es m).1 := by omega
 have e2 : ((endsE es m).2.1.toNat : Int) = (endsE es m).2.1 := by omega
 have hb := room_bound hw hh
 exact ⟨(endsE es m).1.toNat, (endsE es m).2.1.toNat, (endsE es m).2.2, roomE es fl m, by rw [ends_in hw hh, e1, e2], room_in hw hh, rfl, hb.1, hb.2, by omega, by omega, h3, h4, by rw [e1, e2]⟩
theorem relax_is {es : List Ed} {fl pot : List Int} {m U V : Nat} {C R : Int} (he : endsE es m = ((U : Int), (V : Int), C)) (hr : roomE es fl m = R) : relaxA es fl pot m = if g pot U + C < g pot V ∧ 0 < R then pot.set V (g pot U + C) else pot := by
 unfold relaxA
 rw [he, hr]
 simp only [Int.toNat_natCast]
end Go.SolveP
namespace Go.Proofs.Ytjijhpflkkicaaa
open Go Go.RowKit Go.Mem Go.NetP Go.RestP Go.CertP Go.PathP Go.SolveP
theorem Try.infoI64v : (Try.prog.info? 2).map (fun i => (i.zero, i.size, i.bytes)) = some (some (.int .i64 0), 1, 8) := by kernel_rfl
set_option maxRecDepth 100000 in
set_option maxHeartbeats 4000000 in
theorem anew_any (M : Sol) (S : St) (w0 w : World) (hw : withinB M.N S.es S.fl = true) (ht : tightB S.es S.fl S.pot = true) (hl : S.pot.length = M.N) (hs : Sep w0 w (solL M S)) :
  Calls Try.prog 89 #[.pointer (some ⟨M.bs, 0, none⟩)] w fun e w' => (∃ v, e = .returned v) ∧ Sep w0 w' (solL M { S with pot := anewK S.es S.fl M.N M.N }) := by
 obtain ⟨i0, hi0, hz0, hz1, hz2⟩ := info_parts Try.infoI64v
 have hzv : ∀ w : World, (zeroValue 2).run Try.prog w = .ok (.int .i64 0) w := fun w => by simp [zeroValue, typeInfo, hi0, hz0]
 have hr := (within_cap hw).2.1
 have hfl : S.fl.length = S.es.length := (within_cap hw).1
 obtain ⟨hn1, hn40, hes, _, _⟩ := right_cap hr
 have HW := Lib.hid hw
 have HR := Lib.hid hr
 have HMID := Lib.hid (fun k m (hm : m ≤ 2 * S.es.length) => anew_mid (fl := S.fl) hr ht k m hm)
 have HZV := Lib.hid hzv
 clear hzv hi0 hz0 hz1 hz2 i0 hr ht
 unfold solL at hs
 have s0 := cell_of (hs.cells 0 rfl) 0
 have s1 := cell_of (hs.cells 0 rfl) 1
 have s2 := cell_of (hs.cells 0 rfl) 2
 have s3 := cell_of (hs.cells 0 rfl) 3
 have s4 := cell_of (hs.cells 0 rfl) 4
 simp only [Sol.cells, List.getElem?_toArray, List.getElem?_cons_zero, List.getElem?_cons_succ] at s0 s1 s2 s3 s4
 go_enter Try.func89, Try.ntmps89
 go_wp2_with (refine wpList_clearInts rfl (.tmp 10) 23 2 .i64 rfl Try.underlying23 HZV.out _ S.pot hs 2 rfl rfl ?clr)
 case clr =>
  intro w1 hs1
  (try simp only [List.set_cons_zero, List.set_cons_succ, hl] at hs1)
  replace hs1 : Sep w0 w1 (solL M { S with pot := anewK S.es S.fl M.N 0 }) := hs1
  clear hs s0 s1 s2 s3 s4
  have hs := hs1
  clear hs1
  unfold solL at hs
  have s0 := cell_of (hs.cells 0 rfl) 0
  have s1 := cell_of (hs.cells 0 rfl) 1
  have s2 := cell_of (hs.cells 0 rfl) 2
  have s3 := cell_of (hs.cells 0 rfl) 3
  have s4 := cell_of (hs.cells 0 rfl) 4
  simp only [Sol.cells, List.getElem?_toArray, List.getElem?_cons_zero, List.getElem?_cons_succ] at s0 s1 s2 s3 s4
  go_wp2_with fail
  clear s0 s1 s2 s3 s4
  refine wp_loopM [none, none, some 2, some 3, some 4, some 5, some 6, none, none, none, none, none, none, none, none, none, some 16, some 17, some 18, some 19, some 20, some 21, some 22, some 23, some 24, some 25, some 26, some 27, some 28, some 29, some 30, some 31, some 32, some 33, some 34, some 35, some 36, some 37, some 38, some 39, some 40, some 41, some 42, some 43, some 44, some 45, some 46, some 47, some 48, some 49, some 50, some 51, some 52, some 53, some 54, some 55, some 56, some 57, some 58, some 59, some 60, some 61, some 62, some 63, some 64, some 65, some 66, some 67, some 68, some 69, some 70, some 71, some 72, some 73, some 74, some 75, some 76] (fun (r : Nat) (f : Nat → Value) (wr : World) => (fun (v : Value) => ∃ k : Nat, v = .int .i64 k ∧ k ≤ M.N ∧ r = M.N - k ∧ Sep w0 wr (solL M { S with pot := anewK S.es S.fl M.N k })) (f 16)) (M.N) (by kernel_rfl) ?atStart14 ?round14
  case' atStart14 => (try dsimp only [nthV])
  case' round14 =>
   intro gk f wr l hl hrel J1 K1 hJ1 hK1
   (try simp only [mask] at hl)
   generalize f 16 = u16 at hl hrel
   subst hl
   (try dsimp only at hrel)
  case atStart14 => exact ⟨0, rfl, Nat.zero_le _, rfl, hs⟩
  case round14 =>
   clear hs
   obtain ⟨k, rfl, hk, rfl, hs⟩ := hrel
   by_cases hlt : k < M.N
   ·unfold solL at hs
    have s0 := cell_of (hs.cells 0 rfl) 0
    have s1 := cell_of (hs.cells 0 rfl) 1
    have s2 := cell_of (hs.cells 0 rfl) 2
    have s3 := cell_of (hs.cells 0 rfl) 3
    have s4 := cell_of (hs.cells 0 rfl) 4
    simp only [Sol.cells, List.getElem?_toArray, List.getElem?_cons_zero, List.getElem?_cons_succ] at s0 s1 s2 s3 s4
    go_wp2_with fail
    clear s0 s1 s2 s3 s4
    refine wp_loopM [none, none, some 2, some 3, some 4, some 5, some 6, none, none, none, none, none, none, none, none, none, none, none, none, none, none, none, none, none, some 24, some 25, some 26, some 27, some 28, some 29, some 30, some 31, some 32, some 33, some 34, some 35, some 36, some 37, some 38, some 39, some 40, some 41, some 42, some 43, some 44, some 45, some 46, some 47, some 48, some 49, some 50, some 51, some 52, some 53, some 54, some 55, some 56, some 57, some 58, some 59, some 60, some 61, some 62, some 63, some 64, some 65, some 66, some 67, some 68, some 69, some 70, some 71, some 72, some 73, some 74, some 75, none] (fun (r : Nat) (f : Nat → Value) (wq : World) => (fun (v : Value) => ∃ m : Nat, v = .int .i64 m ∧ m ≤ 2 * S.es.length ∧ r = 2 * S.es.length - m ∧ Sep w0 wq (solL M { S with pot := roundA S.es S.fl m (anewK S.es S.fl M.N k) })) (f 24)) (2 * S.es.length) (by kernel_rfl) ?atStart15 ?round15
    case' atStart15 => (try dsimp only [nthV])
    case' round15 =>
     intro gk f wr l hl hrel J2 K2 hJ2 hK2
     (try simp only [mask] at hl)
     generalize f 24 = u24 at hl hrel
     subst hl
     (try dsimp only at hrel)
    case atStart15 => exact ⟨0, rfl, Nat.zero_le _, rfl, hs⟩
    case round15 =>
     clear hs
     obtain ⟨m, rfl, hm, rfl, hs⟩ := hrel
     by_cases hmt : m < 2 * S.es.length
     ·obtain ⟨U, V, C, R, q1, q2, q3, q4, q5, hU, hV, q6, q7, q8⟩ := arc_is HW.out hmt
      obtain ⟨hPl, hPb⟩ := HMID.out k m hm
      have HRL := Lib.hid (relax_is (pot := roundA S.es S.fl m (anewK S.es S.fl M.N k)) q8 q3)
      obtain ⟨P, hP⟩ : ∃ P, P = roundA S.es S.fl m (anewK S.es S.fl M.N k) := ⟨_, rfl⟩
      rw [← hP] at hs hPl hPb HRL
      have HPP := Lib.hid hP
      have HQ1 := Lib.hid q1
      have HQ2 := Lib.hid q2
      obtain ⟨b1, b2⟩ := hPb U hU
      obtain ⟨b3, b4⟩ := hPb V hV
      clear hP q1 q2 q3 q8 hPb
      unfold solL at hs
      have s0 := cell_of (hs.cells 0 rfl) 0
      have s1 := cell_of (hs.cells 0 rfl) 1
      have s2 := cell_of (hs.cells 0 rfl) 2
      have s3 := cell_of (hs.cells 0 rfl) 3
      have s4 := cell_of (hs.cells 0 rfl) 4
      simp only [Sol.cells, List.getElem?_toArray, List.getElem?_cons_zero, List.getElem?_cons_succ] at s0 s1 s2 s3 s4
      go_wp2_with fail
      refine (endsX_any _ _ _ S.es m _ (hs.rdRecs 4 rfl) (by omega)).mono ?_
      rintro en w4 ⟨rfl, hb⟩
      rw [HQ1.out]
      replace hs := hs.belowStep hb
      clear hb s0 s1 s2 s3 s4
      have s0 := cell_of (hs.cells 0 rfl) 0
      have s1 := cell_of (hs.cells 0 rfl) 1
      have s2 := cell_of (hs.cells 0 rfl) 2
      have s3 := cell_of (hs.cells 0 rfl) 3
      have s4 := cell_of (hs.cells 0 rfl) 4
      simp only [Sol.cells, List.getElem?_toArray, List.getElem?_cons_zero, List.getElem?_cons_succ] at s0 s1 s2 s3 s4
      have HPL := Lib.hid hPl
      obtain ⟨g', cg', eg, _, hcR, xf1⟩ := (hs.ints 2 rfl).get U (by rw [HPL.out]; exact hU)
      injection eg with eg q1 q2
      injection eg with eg
      injection eg with eg
      subst eg
      have x1 := hcR U (by rw [HPL.out]; exact hU)
      clear q1 q2 hcR
      obtain ⟨g', cg', eg, _, hcR, xf⟩ := (hs.ints 2 rfl).get V (by rw [HPL.out]; exact hV)
      injection eg with eg q1 q2
      injection eg with eg
      injection eg with eg
      subst eg
      have x2 := hcR V (by rw [HPL.out]; exact hV)
      clear q1 q2 hcR
      obtain ⟨x, hx⟩ : ∃ x, x = g P U := ⟨_, rfl⟩
      obtain ⟨y, hy⟩ : ∃ y, y = g P V := ⟨_, rfl⟩
      rw [show P.getD U 0 = x from hx.symm] at x1
      rw [show P.getD V 0 = y from hy.symm] at x2
      rw [← hx] at b1 b2 HRL
      rw [← hy] at b3 b4 HRL
      have hUI : (U : Int) < M.N := by omega
      have hVI : (V : Int) < M.N := by omega
      clear hx hy xf1 xf hPl
      by_cases h1 : x + C < y
      ·have d1 : decide (x + C < y) = true := decide_eq_true h1
       by_cases h2 : 0 < R
       ·have d2 : decide (0 < R) = true := decide_eq_true h2
        rw [if_pos ⟨h1, h2⟩] at HRL
        clear h1 h2
        go_wp2_with fail
        refine Mix.region [0, 0, 0, 0, 0, 0, 0, 0, 0, 0, 0, 0, 0, 0, 0, 0, 0, 0, 0, 2, 0, 0] (fun _ => True) (by kernel_rfl) (by kernel_rfl) trivial ?_
        simp only [List.zip_cons_cons, List.zip_nil_right]
        iterate 10 (refine Mix.step0 fun K hK => ?_; go_simp; (try (go_bits; try go_simp)); first | ((with_reducible refine hK _ _ ?_); clear hK K) | ((try (simp only [IntWalk.iteOmega]; try go_simp)); (try go_bits); (with_reducible refine hK _ _ ?_); clear hK K))
        iterate 9 (first | (refine Mix.stepS rfl fun K hK => ?_; go_simp; (with_reducible refine hK _ _ ?_); clear hK K) | (refine Mix.step0 fun K hK => ?_; go_simp; (try (go_bits; try go_simp)); first | ((with_reducible refine hK _ _ ?_); clear hK K) | ((try (simp only [IntWalk.iteOmega]; try go_simp)); (try go_bits); (with_reducible refine hK _ _ ?_); clear hK K)))
        refine Mix.step2n (by first | rfl | simp [Region.wanted, yielded]) fun K hK => ?_
        go_wp2_with fail
        refine (roomX_any _ _ _ S.es _ S.fl m _ (hs.drew.rdRecs 4 rfl) (hs.drew.rdInts 1 rfl) (by omega)).mono ?_
        rintro en w5 ⟨rfl, hb⟩
        rw [HQ2.out]
        replace hs := hs.drew.belowStep hb
        clear hb s0 s1 s2 s3 s4 x1 x2
        go_wp2_with fail
        refine Mix.post_mk (C := (fun _ => True)) trivial (hK _ _ ?_)
        clear hK K
        iterate 1 (first | (refine Mix.stepS rfl fun K hK => ?_; go_simp; (with_reducible refine hK _ _ ?_); clear hK K) | (refine Mix.step0 fun K hK => ?_; go_simp; (try (go_bits; try go_simp)); first | ((with_reducible refine hK _ _ ?_); clear hK K) | ((try (simp only [IntWalk.iteOmega]; try go_simp)); (try go_bits); (with_reducible refine hK _ _ ?_); clear hK K)))
        iterate 1 (refine Mix.step0 fun K hK => ?_; go_simp; (try (go_bits; try go_simp)); first | ((with_reducible refine hK _ _ ?_); clear hK K) | ((try (simp only [IntWalk.iteOmega]; try go_simp)); (try go_bits); (with_reducible refine hK _ _ ?_); clear hK K))
        refine Mix.done ?_
        have s0 := cell_of (hs.cells 0 rfl) 0
        have s1 := cell_of (hs.cells 0 rfl) 1
        have s2 := cell_of (hs.cells 0 rfl) 2
        have s3 := cell_of (hs.cells 0 rfl) 3
        have s4 := cell_of (hs.cells 0 rfl) 4
        simp only [Sol.cells, List.getElem?_toArray, List.getElem?_cons_zero, List.getElem?_cons_succ] at s0 s1 s2 s3 s4
        obtain ⟨g', cg', eg, _, hcR, xf⟩ := (hs.ints 2 rfl).get V (by rw [HPL.out]; exact hV)
        injection eg with eg q1 q2
        injection eg with eg
        injection eg with eg
        subst eg
        have x2 := hcR V (by rw [HPL.out]; exact hV)
        clear q1 q2 hcR
        go_wp2_with fail
        have hs2 := hs.setInts (j := V) 2 rfl (x + C)
        simp only [List.set_cons_zero, List.set_cons_succ] at hs2
        clear hs s0 s1 s2 s3 s4 x2 xf
        have hs := hs2
        clear hs2
        refine Round.intro (2 * S.es.length - (m + 1)) ?measure16 (by kernel_rfl) (hJ2 _ _ _ ?rel16)
        case' rel16 => (try dsimp only [nthV])
        case measure16 => omega
        case rel16 => exact ⟨m + 1, by go_num, hmt, rfl, by rw [roundA_succ, ← HPP.out, HRL.out]; exact hs⟩
       ·have d2 : decide (0 < R) = false := decide_eq_false h2
        rw [if_neg (fun q => h2 q.2)] at HRL
        clear h1 h2
        go_wp2_with fail
        refine Mix.region [0, 0, 0, 0, 0, 0, 0, 0, 0, 0, 0, 0, 0, 0, 0, 0, 0, 0, 0, 2, 0, 0] (fun _ => True) (by kernel_rfl) (by kernel_rfl) trivial ?_
        simp only [List.zip_cons_cons, List.zip_nil_right]
        iterate 10 (refine Mix.step0 fun K hK => ?_; go_simp; (try (go_bits; try go_simp)); first | ((with_reducible refine hK _ _ ?_); clear hK K) | ((try (simp only [IntWalk.iteOmega]; try go_simp)); (try go_bits); (with_reducible refine hK _ _ ?_); clear hK K))
        iterate 9 (first | (refine Mix.stepS rfl fun K hK => ?_; go_simp; (with_reducible refine hK _ _ ?_); clear hK K) | (refine Mix.step0 fun K hK => ?_; go_simp; (try (go_bits; try go_simp)); first | ((with_reducible refine hK _ _ ?_); clear hK K) | ((try (simp only [IntWalk.iteOmega]; try go_simp)); (try go_bits); (with_reducible refine hK _ _ ?_); clear hK K)))
        refine Mix.step2n (by first | rfl | simp [Region.wanted, yielded]) fun K hK => ?_
        go_wp2_with fail
        refine (roomX_any _ _ _ S.es _ S.fl m _ (hs.drew.rdRecs 4 rfl) (hs.drew.rdInts 1 rfl) (by omega)).mono ?_
        rintro en w5 ⟨rfl, hb⟩
        rw [HQ2.out]
        replace hs := hs.drew.belowStep hb
        clear hb s0 s1 s2 s3 s4 x1 x2
        go_wp2_with fail
        refine Mix.post_mk (C := (fun _ => True)) trivial (hK _ _ ?_)
        clear hK K
        iterate 1 (first | (refine Mix.stepS rfl fun K hK => ?_; go_simp; (with_reducible refine hK _ _ ?_); clear hK K) | (refine Mix.step0 fun K hK => ?_; go_simp; (try (go_bits; try go_simp)); first | ((with_reducible refine hK _ _ ?_); clear hK K) | ((try (simp only [IntWalk.iteOmega]; try go_simp)); (try go_bits); (with_reducible refine hK _ _ ?_); clear hK K)))
        iterate 1 (refine Mix.step0 fun K hK => ?_; go_simp; (try (go_bits; try go_simp)); first | ((with_reducible refine hK _ _ ?_); clear hK K) | ((try (simp only [IntWalk.iteOmega]; try go_simp)); (try go_bits); (with_reducible refine hK _ _ ?_); clear hK K))
        refine Mix.done ?_
        go_wp2_with fail
        refine Round.intro (2 * S.es.length - (m + 1)) ?measure17 (by kernel_rfl) (hJ2 _ _ _ ?rel17)
        case' rel17 => (try dsimp only [nthV])
        case measure17 => omega
        case rel17 => exact ⟨m + 1, by go_num, hmt, rfl, by rw [roundA_succ, ← HPP.out, HRL.out]; exact hs⟩
      ·have d1 : decide (x + C < y) = false := decide_eq_false h1
       rw [if_neg (fun q => h1 q.1)] at HRL
       clear h1
       go_wp2_with fail
       refine Mix.region [0, 0, 0, 0, 0, 0, 0, 0, 0, 0, 0, 0, 0, 0, 0, 0, 0, 0, 0, 2, 0, 0] (fun _ => True) (by kernel_rfl) (by kernel_rfl) trivial ?_
       simp only [List.zip_cons_cons, List.zip_nil_right]
       iterate 10 (refine Mix.step0 fun K hK => ?_; go_simp; (try (go_bits; try go_simp)); first | ((with_reducible refine hK _ _ ?_); clear hK K) | ((try (simp only [IntWalk.iteOmega]; try go_simp)); (try go_bits); (with_reducible refine hK _ _ ?_); clear hK K))
       iterate 9 (first | (refine Mix.stepS rfl fun K hK => ?_; go_simp; (with_reducible refine hK _ _ ?_); clear hK K) | (refine Mix.step0 fun K hK => ?_; go_simp; (try (go_bits; try go_simp)); first | ((with_reducible refine hK _ _ ?_); clear hK K) | ((try (simp only [IntWalk.iteOmega]; try go_simp)); (try go_bits); (with_reducible refine hK _ _ ?_); clear hK K)))
       refine Mix.step2s (by first | rfl | simp [Region.wanted, yielded]) ?_
       iterate 1 (first | (refine Mix.stepS rfl fun K hK => ?_; go_simp; (with_reducible refine hK _ _ ?_); clear hK K) | (refine Mix.step0 fun K hK => ?_; go_simp; (try (go_bits; try go_simp)); first | ((with_reducible refine hK _ _ ?_); clear hK K) | ((try (simp only [IntWalk.iteOmega]; try go_simp)); (try go_bits); (with_reducible refine hK _ _ ?_); clear hK K)))
       iterate 1 (refine Mix.step0 fun K hK => ?_; go_simp; (try (go_bits; try go_simp)); first | ((with_reducible refine hK _ _ ?_); clear hK K) | ((try (simp only [IntWalk.iteOmega]; try go_simp)); (try go_bits); (with_reducible refine hK _ _ ?_); clear hK K))
       refine Mix.done ?_
       replace hs := hs.drew
       go_wp2_with fail
       refine Round.intro (2 * S.es.length - (m + 1)) ?measure18 (by kernel_rfl) (hJ2 _ _ _ ?rel18)
       case' rel18 => (try dsimp only [nthV])
       case measure18 => omega
       case rel18 => exact ⟨m + 1, by go_num, hmt, rfl, by rw [roundA_succ, ← HPP.out, HRL.out]; exact hs⟩
     ·obtain rfl : m = 2 * S.es.length := by omega
      go_wp2_with fail
      refine Round.intro (M.N - (k + 1)) ?measure19 (by kernel_rfl) (hJ1 _ _ _ ?rel19)
      case' rel19 => (try dsimp only [nthV])
      case measure19 => omega
      case rel19 => exact ⟨k + 1, by go_num, hlt, rfl, hs⟩
   ·obtain rfl : k = M.N := by omega
    go_wp2_with fail
    exact bodyPost_end (results_none rfl _ _ _) rfl ⟨⟨_, rfl⟩, hs⟩
set_option maxRecDepth 100000 in
set_option maxHeartbeats 4000000 in
theorem narrow_any (M : Sol) (S : St) (w0 w : World) (hw : withinB M.N S.es S.fl = true) (ht : tightB S.es S.fl S.pot = true) (hl : S.pot.length = M.N) (hs : Sep w0 w (solL M S)) :
  Calls Try.prog 67 #[.pointer (some ⟨M.bs, 0, none⟩)] w fun e w' => (∃ v, e = .returned v) ∧ Sep w0 w' (solL M { S with pot := narrowF S.es S.fl S.pot M.N }) := by
 obtain ⟨hn1, hn40, hes, _, _⟩ := right_cap (within_cap hw).2.1
 have HAN := Lib.hid (fun (W : World) (q : Sep w0 W (solL M S)) => anew_any M S w0 W hw ht hl q)
 have hs0 := hs
 unfold solL at hs
 have s0 := cell_of (hs.cells 0 rfl) 0
 have s1 := cell_of (hs.cells 0 rfl) 1
 have s2 := cell_of (hs.cells 0 rfl) 2
 have s3 := cell_of (hs.cells 0 rfl) 3
 have s4 := cell_of (hs.cells 0 rfl) 4
 simp only [Sol.cells, List.getElem?_toArray, List.getElem?_cons_zero, List.getElem?_cons_succ] at s0 s1 s2 s3 s4
 go_enter Try.func67, Try.ntmps67
 go_wp2_with fail
 refine wp_loopM [none, none, none, some 3, none, none, none, none, none, some 9, some 10, some 11, some 12, some 13, some 14, some 15, some 16, some 17, some 18, some 19, some 20, some 21] (fun (r : Nat) (f : Nat → Value) (wr : World) => (fun (v : Value) => ∃ k : Nat, v = .int .i64 k ∧ k ≤ M.N ∧ r = M.N - k ∧ Hid ((S.pot.take k).any bigB = false) ∧ wr = w) (f 9)) (M.N) (by kernel_rfl) ?atStart20 ?round20
 case' atStart20 => (try dsimp only [nthV])
 case' round20 =>
  intro gk f wr l hl hrel J1 K1 hJ1 hK1
  (try simp only [mask] at hl)
  generalize f 9 = u9 at hl hrel
  subst hl
  (try dsimp only at hrel)
 case atStart20 => exact ⟨0, rfl, Nat.zero_le _, rfl, Lib.hid (by simp), rfl⟩
 case round20 =>
  obtain ⟨k, rfl, hk, rfl, HA, rfl⟩ := hrel
  by_cases hlt : k < M.N
  ·obtain ⟨_, _, eqz, _, x1⟩ := (hs.rdInts 2 rfl).at k (by rw [hl]; exact hlt)
   injection eqz with eqz
   injection eqz with eqz eqo
   subst eqz
   subst eqo
   rw [Nat.zero_add] at x1
   have hkl : k < S.pot.length := by omega
   have HT := Lib.hid (show (S.pot.take (k + 1)).any bigB = bigB (g S.pot k) from by
    rw [List.take_succ_eq_append_getElem hkl, List.any_append, HA.out]
    have : g S.pot k = S.pot[k] := by unfold g; rw [List.getD_eq_getElem?_getD, List.getElem?_eq_getElem hkl]; rfl
    rw [this]; simp)
   have HM := Lib.hid (g_mem hkl)
   obtain ⟨x, hx⟩ : ∃ x, x = g S.pot k := ⟨_, rfl⟩
   rw [show S.pot.getD k 0 = x from hx.symm] at x1
   rw [← hx] at HT HM
   clear hx hkl
   by_cases c1 : x < -1073741824
   ·have d1 : decide (x < -1073741824) = true := decide_eq_true c1
    have HY := Lib.hid (show narrowF S.es S.fl S.pot M.N = anewK S.es S.fl M.N M.N by unfold narrowF; rw [if_pos (List.any_eq_true.2 ⟨x, HM.out, by unfold bigB; rw [d1]; rfl⟩)])
    clear c1
    go_wp2_with fail
    refine (HAN.out _ hs0).mono ?_
    rintro en w5 ⟨⟨v5, rfl⟩, hs5⟩
    rw [← HY.out] at hs5
    go_wp2_with fail
    (repeat rw [Exit.noGoto_ret]); refine bodyPost_ret (results_none rfl _ _ _) rfl ?_
    exact ⟨⟨_, rfl⟩, hs5⟩
   ·have d1 : decide (x < -1073741824) = false := decide_eq_false c1
    by_cases c2 : 1073741824 < x
    ·have d2 : decide (1073741824 < x) = true := decide_eq_true c2
     have HY := Lib.hid (show narrowF S.es S.fl S.pot M.N = anewK S.es S.fl M.N M.N by unfold narrowF; rw [if_pos (List.any_eq_true.2 ⟨x, HM.out, by unfold bigB; rw [d1, d2]; rfl⟩)])
     clear c1 c2
     go_wp2_with fail
     refine (HAN.out _ hs0).mono ?_
     rintro en w5 ⟨⟨v5, rfl⟩, hs5⟩
     rw [← HY.out] at hs5
     go_wp2_with fail
     (repeat rw [Exit.noGoto_ret]); refine bodyPost_ret (results_none rfl _ _ _) rfl ?_
     exact ⟨⟨_, rfl⟩, hs5⟩
    ·have d2 : decide (1073741824 < x) = false := decide_eq_false c2
     have HA2 := Lib.hid (show (S.pot.take (k + 1)).any bigB = false by rw [HT.out]; unfold bigB; rw [d1, d2]; rfl)
     clear c1 c2
     go_wp2_with fail
     refine Round.intro (M.N - (k + 1)) ?measure21 (by kernel_rfl) (hJ1 _ _ _ ?rel21)
     case' rel21 => (try dsimp only [nthV])
     case measure21 => omega
     case rel21 => exact ⟨k + 1, by go_num, hlt, rfl, HA2, rfl⟩
  ·obtain rfl : k = M.N := by omega
   have HY := Lib.hid (show narrowF S.es S.fl S.pot M.N = S.pot by
    have := HA.out
    rw [← hl, List.take_length] at this
    unfold narrowF
    rw [this]; rfl)
   go_wp2_with fail
   exact bodyPost_end (results_none rfl _ _ _) rfl ⟨⟨_, rfl⟩, by rw [HY.out]; exact hs0⟩
end Go.Proofs.Ytjijhpflkkicaaa
namespace Go.Mem
open Go Go.RowKit
theorem Sep.setRec {α : Type} {R : Rec α} {E : TypeId} {w0 w : World} {L : List Thing} {xs : List α} {g n cap : Nat} (h : Sep w0 w L) (i : Nat) (hi : L[i]? = some (recT R E (.slice (some ⟨g, 0, none⟩) n cap) xs)) (k : Nat) (hk : k < xs.length) (o : Nat) (ho : o < R.m) (y : α) (u : Value) (hy : R.cells y = (R.cells xs[k]).set o u) :
  Sep w0 (w.setCell ⟨g, k * R.m + o, none⟩ u) (L.set i (recT R E (.slice (some ⟨g, 0, none⟩) n cap) (xs.set k y))) :=
 h.turn i hi fun S hS => by
  obtain ⟨rfl, hS⟩ := hS
  exact ⟨_, ⟨rfl, hS.setField k hk o ho y u hy⟩, Fr.setCell _ _ _ rfl, fun j hj => .inl hj⟩
end Go.Mem
namespace Go.SolveP
open Go Go.Mem Go.NetP Go.RestP Go.CertP Go.PathP
/-- In the midst of a doubling. -/
def finerK (N : Nat) (es : List Ed) (k : Nat) (S : St) (i : Nat) : St :=
 { es := fineE es k i, fl := fineF es k S.fl S.pot i, pot := S.pot, ov := fineO N es k S.fl S.pot i, steps := S.steps }
section
variable {N : Nat} {es : List Ed} {k : Nat} {S : St}
theorem fineE_len (es : List Ed) (k i : Nat) : (fineE es k i).length = es.length := by simp [fineE]
theorem fineF_zero (es : List Ed) (k : Nat) (fl pot : List Int) : fineF es k fl pot 0 = fl := ext_g (fine_len ..) fun v hv => by
 rw [fine_len] at hv
 rw [fine_at hv, if_neg (by omega)]
theorem PI.startK (h : PI N es (k + 1) S) : finerK N es k S 0 = S := by
 obtain ⟨es', fl, pot, ov, st⟩ := S
 have e1 : es' = capL es (k + 1) := h.es
 have e2 : ov = fineO N es k fl pot 0 := by
  have hl : ov.length = N := h.si.lov
  refine ext_g (by rw [hl]; simp [fineO]) fun v hv => ?_
  rw [hl] at hv
  have : g ov v = 0 := h.zero v hv
  rw [this, fineO_at hv]
  simp [overAt]
 unfold finerK
 dsimp only
 rw [fineE_zero, fineF_zero, e1, ← e2]
theorem PI.endK (h : PI N es (k + 1) S) : finerK N es k S es.length = finerS N es k S := by
 have hfl : S.fl.length = es.length := by
  have := (within_cap (fits_parts h.si.fits).1).1
  rw [h.es, capL_len] at this; exact this
 unfold finerK finerS
 rw [fineE_end, hfl]
theorem fineE_at {i j : Nat} (h : j < es.length) : (fineE es k i)[j]'(by rw [fineE_len]; exact h) = if j < i then capE k (edAt es j) else capE (k + 1) (edAt es j) := by
 simp [fineE]
theorem fineE_succ {i : Nat} (h : i < es.length) : (fineE es k i).set i (capE k (edAt es i)) = fineE es k (i + 1) := by
 apply List.ext_getElem
 ·simp [fineE]
 ·intro j h1 h2
  have hj : j < es.length := by rw [fineE_len] at h2; exact h2
  rw [List.getElem_set, fineE_at hj, fineE_at hj]
  by_cases e : i = j
  ·subst e; rw [if_pos rfl, if_pos (by omega)]
  ·rw [if_neg e]
   by_cases q : j < i
   ·rw [if_pos q, if_pos (by omega)]
   ·rw [if_neg q, if_neg (by omega)]
theorem fineF_succ {fl pot : List Int} {i : Nat} (h : i < fl.length) : (fineF es k fl pot i).set i (fineX es k fl pot i) = fineF es k fl pot (i + 1) := ext_g (by simp [fine_len]) fun v hv => by
 have hv : v < fl.length := by simpa [fine_len] using hv
 rw [g_set (by rw [fine_len]; exact h), fine_at hv]
 by_cases e : i = v
 ·subst e; rw [upd_same, if_pos (by omega)]
 ·rw [upd_ne _ _ e, fine_at hv]
  by_cases q : v < i
  ·rw [if_pos q, if_pos (by omega)]
  ·rw [if_neg q, if_neg (by omega)]
theorem fineO_len (N : Nat) (es : List Ed) (k : Nat) (fl pot : List Int) (i : Nat) : (fineO N es k fl pot i).length = N := by simp [fineO]
/-- What an edge brings to its ends. -/
theorem fineO_succ {fl pot : List Int} {i T F : Nat} {b : Int} (h : i < fl.length) (hb : b = fineX es k fl pot i - 2 * g fl i) (ht : (edAt es i).t = T) (hf : (edAt es i).f = F) (hT : T < N) (hF : F < N) :
  ((fineO N es k fl pot i).set T (g (fineO N es k fl pot i) T + b)).set F (g ((fineO N es k fl pot i).set T (g (fineO N es k fl pot i) T + b)) F - b) = fineO N es k fl pot (i + 1) := ext_g (by simp [fineO]) fun v hv => by
 have hv : v < N := by simpa [fineO] using hv
 rw [g_set (by rw [List.length_set, fineO_len]; exact hF), g_set (by rw [fineO_len]; exact hT), fineO_at hv, overAt_succ, ht, hf]
 have e1 := by_at (es := es) (k := k) (pot := pot) h
 unfold g at e1
 rw [e1]
 have e2 : fineX es k fl pot i - 2 * fl.getD i 0 = b := hb.symm
 rw [e2]
 unfold upd gain
 have o1 := fineO_at (N := N) (es := es) (k := k) (fl := fl) (pot := pot) (i := i) hv
 by_cases q1 : F = v
 ·subst q1
  rw [if_pos rfl, decide_eq_true (show (F : Int) = (F : Int) from rfl)]
  by_cases q2 : T = F
  ·subst q2
   rw [if_pos rfl, o1]
   simp
  ·rw [if_neg q2, decide_eq_false (show ¬ (T : Int) = (F : Int) by omega), o1]
   simp
 ·rw [if_neg q1, decide_eq_false (show ¬ (F : Int) = (v : Int) by omega)]
  by_cases q2 : T = v
  ·subst q2
   rw [if_pos rfl, decide_eq_true (show (T : Int) = (T : Int) from rfl), o1]
   simp
  ·rw [if_neg q2, decide_eq_false (show ¬ (T : Int) = (v : Int) by omega), o1]
   simp
theorem fineO_same {fl pot : List Int} {i : Nat} (h : i < fl.length) (hb : fineX es k fl pot i = 2 * g fl i) : fineO N es k fl pot i = fineO N es k fl pot (i + 1) := ext_g (by simp [fineO]) fun v hv => by
 have hv : v < N := by simpa [fineO] using hv
 rw [fineO_at hv, fineO_at hv, overAt_succ]
 have e1 := by_at (es := es) (k := k) (pot := pot) h
 rw [hb, Int.sub_self] at e1
 unfold g at e1
 rw [e1]
 unfold gain
 simp
theorem over_one (es : List Ed) (b : List Int) (hb : ∀ j, 0 ≤ b.getD j 0 ∧ b.getD j 0 ≤ 1) (v : Nat) : ∀ i : Nat, -(i : Int) ≤ overAt es b v i ∧ overAt es b v i ≤ i
 | 0 => by simp [overAt]
 | i + 1 => by
  have ih := over_one es b hb v i
  have h0 := (hb i).1
  have h1 := (hb i).2
  have g1 := gain_bound (decide ((edAt es i).t = v)) (b.getD i 0) h0
  have g2 := gain_bound (decide ((edAt es i).f = v)) (b.getD i 0) h0
  rw [overAt_succ]
  omega
theorem PI.by1 (h : PI N es (k + 1) S) (hr : rightB N es = true) (j : Nat) : 0 ≤ (byF es k S.fl S.pot).getD j 0 ∧ (byF es k S.fl S.pot).getD j 0 ≤ 1 := by
 have hfl : S.fl.length = es.length := by
  have := (within_cap (fits_parts h.si.fits).1).1
  rw [h.es, capL_len] at this; exact this
 by_cases hj : j < S.fl.length
 ·obtain ⟨_, _, _, _, f4, f5⟩ := h.fine hr (j := j) (by omega)
  have := by_at (es := es) (k := k) (pot := S.pot) hj
  unfold g at this f4 f5
  omega
 ·rw [List.getD_eq_getElem?_getD, List.getElem?_eq_none (by rw [by_len]; omega)]
  simp
end
end Go.SolveP
namespace Go.Proofs.Ytjijhpflkkicaaa
open Go Go.RowKit Go.Mem Go.NetP Go.RestP Go.CertP Go.PathP Go.SolveP
/-- What lies there in the midst of an edge. -/
def fL (M : Sol) (b0 : Nat) (cs : Array Value) (nE st : Nat) (F P O : List Int) (E : List Ed) : List Thing :=
 cellsT b0 cs 48 :: cellsT M.bs (M.cells nE st) 81 :: intsT .i64 2 (.slice (some ⟨M.gF, 0, none⟩) nE nE) F :: intsT .i64 2 (.slice (some ⟨M.gP, 0, none⟩) M.N M.N) P :: intsT .i64 2 (.slice (some ⟨M.gO, 0, none⟩) M.N M.N) O :: recT edR 77 (.slice (some ⟨M.gE, 0, none⟩) nE M.cE) E :: M.ex
set_option maxRecDepth 100000 in
set_option maxHeartbeats 4000000 in
theorem finer_any (M : Sol) (es : List Ed) (k : Nat) (S : St) (nn : Int) (a : Option Addr) (c : Nat) (w0 w : World) (h : RdG edR w0 (.slice a es.length c) es) (hr : rightB M.N es = true) (hk60 : k ≤ 60) (hp : PI M.N es (k + 1) S) (hs : Sep w0 w (solL M S)) :
  Calls Try.prog 40 #[.pointer (some ⟨M.bs, 0, none⟩), .agg #[.int .i64 nn, .slice a es.length c], .int .i64 k] w fun e w' => (∃ v, e = .returned v) ∧ Sep w0 w' (solL M (finerS M.N es k S)) := by
 obtain ⟨hn1, hn40, hes, _, h5⟩ := right_cap hr
 have hfl : S.fl.length = es.length := by
  have := (within_cap (fits_parts hp.si.fits).1).1
  rw [hp.es, capL_len] at this; exact this
 have hpl : S.pot.length = M.N := by have := (pot_cap (fits_parts hp.si.fits).2.2.1).1; omega
 have HP := Lib.hid hp
 have HR := Lib.hid hr
 have HPL := Lib.hid hpl
 have HFL := Lib.hid hfl
 have hseL : S.es.length = es.length := by rw [hp.es, capL_len]
 rw [← hp.startK] at hs
 clear hp hr h5
 have hs1 := hs.newCells #[.int .i64 nn, .slice a es.length c] 48
 obtain ⟨b0, hb0⟩ : ∃ b0, b0 = w.heap.size := ⟨_, rfl⟩
 rw [← hb0] at hs1
 clear hs
 unfold solL at hs1
 have hs := hs1
 clear hs1
 have n1 := cell_of (hs.cells 0 rfl) 1
 simp only [List.getElem?_toArray, List.getElem?_cons_zero, List.getElem?_cons_succ] at n1
 have s0 := cell_of (hs.cells 1 rfl) 0
 have s1 := cell_of (hs.cells 1 rfl) 1
 have s2 := cell_of (hs.cells 1 rfl) 2
 have s3 := cell_of (hs.cells 1 rfl) 3
 have s4 := cell_of (hs.cells 1 rfl) 4
 simp only [Sol.cells, List.getElem?_toArray, List.getElem?_cons_zero, List.getElem?_cons_succ] at s0 s1 s2 s3 s4
 dsimp only [finerK] at s0 s1 s2 s3 s4
 rw [fineE_len] at s1 s2
 go_enter Try.func40, Try.ntmps40
 go_wp2_with fail
 rw [← hb0]
 clear s0 s1 s2 s3 s4 n1 hb0
 refine wp_loopM [none, none, none, none, none, none, some 6, some 7, some 8, none, none, none, none, none, some 14, some 15, some 16, some 17, some 18, some 19, some 20, some 21, some 22, some 23, some 24, some 25, some 26, some 27, some 28, some 29, some 30, some 31, some 32, some 33, some 34, some 35, some 36, some 37, some 38, some 39, some 40, some 41, some 42, some 43, some 44, some 45, some 46, some 47, some 48, some 49, some 50, some 51, some 52, some 53, some 54, some 55, some 56, some 57, some 58, some 59, some 60, some 61, some 62, some 63, some 64, some 65, some 66, some 67, some 68, some 69, some 70, some 71, some 72, some 73, some 74, some 75, some 76, some 77, some 78, some 79, some 80, some 81, some 82, some 83, some 84, some 85, some 86, some 87, some 88, some 89, some 90, some 91, some 92, some 93, some 94, some 95, some 96, some 97, some 98, some 99, some 100, some 101, some 102, some 103, some 104, some 105, some 106, some 107, some 108, some 109, some 110, some 111, some 112, some 113, some 114, some 115, some 116, some 117, some 118, some 119, some 120, some 121, some 122, some 123, some 124, some 125, some 126, some 127, some 128, some 129, some 130, some 131, some 132, some 133] (fun (r : Nat) (f : Nat → Value) (wr : World) => (fun (v : Value) => ∃ i : Nat, v = .int .i64 i ∧ i ≤ es.length ∧ r = es.length - i ∧ Sep w0 wr (cellsT b0 #[.int .i64 nn, .slice a es.length c] 48 :: solL M (finerK M.N es k S i))) (f 14)) (es.length) (by kernel_rfl) ?atStart22 ?round22
 case' atStart22 => (try dsimp only [nthV])
 case' round22 =>
  intro gk f wr l hl hrel J1 K1 hJ1 hK1
  (try simp only [mask] at hl)
  generalize f 14 = u14 at hl hrel
  subst hl
  (try dsimp only at hrel)
 case atStart22 => exact ⟨0, rfl, Nat.zero_le _, rfl, hs⟩
 case round22 =>
  clear hs
  obtain ⟨i, rfl, hi, rfl, hs⟩ := hrel
  by_cases hlt : i < es.length
  ·have hif : i < S.fl.length := by rw [HFL.out]; exact hlt
   obtain ⟨ba, oa, eqa, _, hca⟩ := (hs.rdG h).at i hlt
   subst eqa
   have hca2 := hca
   have x2 := hca 2 (by decide)
   simp only [edR, List.getElem?_cons_zero, List.getElem?_cons_succ] at x2
   clear hca hca2
   obtain ⟨FL, hFL⟩ : ∃ FL, FL = fineF es k S.fl S.pot i := ⟨_, rfl⟩
   obtain ⟨OV, hOV⟩ : ∃ OV, OV = fineO M.N es k S.fl S.pot i := ⟨_, rfl⟩
   obtain ⟨ES, hES⟩ : ∃ ES, ES = fineE es k i := ⟨_, rfl⟩
   have hlF : FL.length = es.length := by rw [hFL, fine_len]; exact HFL.out
   have hlE : ES.length = es.length := by rw [hES, fineE_len]
   have hlO : OV.length = M.N := by rw [hOV, fineO_len]
   have hs0 : Sep w0 wr (fL M b0 #[.int .i64 nn, .slice (some ⟨ba, oa, none⟩) es.length c] es.length S.steps FL S.pot OV ES) := by
    rw [hFL, hOV, hES]
    have := hs
    unfold solL finerK at this
    dsimp only at this
    rw [fineE_len] at this
    exact this
   clear hs
   have hs := hs0
   clear hs0
   obtain ⟨e0, e1, e2, e3, e4, e5⟩ := HP.out.edge HR.out hlt
   have hcE := (cap_le e4 (k + 1)).2
   have hc0 := cap_le e4 k
   obtain ⟨x, hx⟩ : ∃ x, x = g S.fl i := ⟨_, rfl⟩
   have hgF : g FL i = x := by rw [hFL, fine_at hif, if_neg (by omega), hx]
   have hgE : edAt ES i = capE (k + 1) (edAt es i) := by rw [hES, edAt_of (by rw [fineE_len]; exact hlt), fineE_at hlt, if_neg (by omega)]
   rw [← hx] at e0 e1
   rw [← edAt_of hlt] at x2
   obtain ⟨E, hE⟩ : ∃ E, E = edAt es i := ⟨_, rfl⟩
   rw [← hE] at x2 e1 e4 e5 hcE hc0 hgE
   have hEe := (edgeB_iff _ _).1 ((right_cap HR.out).2.2.2.2 _ (List.getElem_mem hlt))
   rw [← edAt_of hlt, ← hE] at hEe
   have HX := Lib.hid hx
   have HE := Lib.hid hE
   have HFLD := Lib.hid hFL
   have HOVD := Lib.hid hOV
   have HESD := Lib.hid hES
   have HLF := Lib.hid hlF
   have HLE := Lib.hid hlE
   have HLO := Lib.hid hlO
   have HGE := Lib.hid hgE
   have HGF := Lib.hid hgF
   have HC0 := Lib.hid hc0
   clear hx hE e2 e3 hgE hgF hc0 hlF hlE hlO hFL hOV hES
   obtain ⟨ef, et, ec, ek⟩ := E
   dsimp only at x2 e1 e4 e5 hcE hEe
   obtain ⟨⟨f0, f1⟩, ⟨t0, t1⟩, _, _, k0, k1⟩ := hEe
   obtain ⟨F, rfl⟩ : ∃ F : Nat, ef = F := ⟨ef.toNat, by omega⟩
   obtain ⟨T, rfl⟩ : ∃ T : Nat, et = T := ⟨et.toNat, by omega⟩
   have hFN : F < M.N := by omega
   have hTN : T < M.N := by omega
   unfold fL at hs
   have s0 := cell_of (hs.cells 1 rfl) 0
   have s1 := cell_of (hs.cells 1 rfl) 1
   have s2 := cell_of (hs.cells 1 rfl) 2
   have s3 := cell_of (hs.cells 1 rfl) 3
   have s4 := cell_of (hs.cells 1 rfl) 4
   simp only [Sol.cells, List.getElem?_toArray, List.getElem?_cons_zero, List.getElem?_cons_succ] at s0 s1 s2 s3 s4
   have n1 := cell_of (hs.cells 0 rfl) 1
   simp only [List.getElem?_toArray, List.getElem?_cons_zero, List.getElem?_cons_succ] at n1
   obtain ⟨g', cg', eg, _, hcR, zf⟩ := (hs.ints 2 rfl).get i (by rw [HLF.out]; exact hlt)
   injection eg with eg q1 q2
   injection eg with eg
   injection eg with eg
   subst eg
   have z1 := hcR i (by rw [HLF.out]; exact hlt)
   clear q1 q2 hcR
   rw [show FL.getD i 0 = x from HGF.out] at z1
   go_upto_region 6 with fail
   have hs2 := hs.setInts (j := i) 2 rfl (x * 2)
   simp only [List.set_cons_zero, List.set_cons_succ] at hs2
   generalize World.setCell wr _ _ = W1 at hs2 ⊢
   clear hs s0 s1 s2 s3 s4 n1 z1 zf x2
   have hs := hs2
   clear hs2
   have s0 := cell_of (hs.cells 1 rfl) 0
   have s1 := cell_of (hs.cells 1 rfl) 1
   have s2 := cell_of (hs.cells 1 rfl) 2
   have s3 := cell_of (hs.cells 1 rfl) 3
   have s4 := cell_of (hs.cells 1 rfl) 4
   simp only [Sol.cells, List.getElem?_toArray, List.getElem?_cons_zero, List.getElem?_cons_succ] at s0 s1 s2 s3 s4
   have n1 := cell_of (hs.cells 0 rfl) 1
   simp only [List.getElem?_toArray, List.getElem?_cons_zero, List.getElem?_cons_succ] at n1
   obtain ⟨ge, ce, eqe, _, hce, hfe⟩ := (hs.recs 5 rfl).get i (by rw [HLE.out]; exact hlt)
   injection eqe with eqe q1 q2
   injection eqe with eqe
   injection eqe with eqe
   subst eqe
   have y0 := hce i (by rw [HLE.out]; exact hlt) 0 (by decide)
   have y1 := hce i (by rw [HLE.out]; exact hlt) 1 (by decide)
   have y2 := hce i (by rw [HLE.out]; exact hlt) 2 (by decide)
   have y3 := hce i (by rw [HLE.out]; exact hlt) 3 (by decide)
   rw [← edAt_of (by rw [HLE.out]; exact hlt), HGE.out] at y0 y1 y2 y3
   simp only [edR, Nat.add_zero, List.getElem?_cons_zero, List.getElem?_cons_succ] at y0 y1 y2 y3
   have w0' := hfe (i * 4)
   clear q1 q2 hce
   obtain ⟨_, _, eqa, _, hca⟩ := (hs.rdG h).at i hlt
   injection eqa with eqa
   injection eqa with eqa q2
   subst eqa
   subst q2
   have x2 := hca 2 (by decide)
   rw [← edAt_of hlt, ← HE.out] at x2
   simp only [edR, capE, List.getElem?_cons_zero, List.getElem?_cons_succ] at x2 y0 y1 y2 y3
   clear hca
   go_upto_region 7 with fail
   have hs2 := hs.setRec 5 rfl i (by rw [HLE.out]; exact hlt) 2 (by decide) (capE k ⟨F, T, ec, ek⟩) (.int .i64 (ec / 2 ^ k)) (by rw [← edAt_of (by rw [HLE.out]; exact hlt), HGE.out]; rfl)
   simp only [List.set_cons_zero, List.set_cons_succ] at hs2
   replace hs2 : Sep w0 (World.setCell W1 ⟨M.gE, i * 4 + 2, none⟩ (.int .i64 (ec / 2 ^ k))) (fL M b0 #[.int .i64 nn, .slice (some ⟨ba, oa, none⟩) es.length c] es.length S.steps (FL.set i (x * 2)) S.pot OV (ES.set i (capE k ⟨F, T, ec, ek⟩))) := hs2
   obtain ⟨C, hC⟩ : ∃ C, C = ec / 2 ^ k := ⟨_, rfl⟩
   rw [← hC] at hs2 ⊢
   generalize World.setCell W1 _ _ = W2 at hs2 ⊢
   clear hs s0 s1 s2 s3 s4 n1 x2 y0 y1 y2 y3 hfe w0'
   have hs := hs2
   clear hs2
   have hC0 := HC0.out
   rw [show (⟨F, T, ec, ek⟩ : Ed).c / 2 ^ k = C from hC.symm] at hC0
   have hC1 : C ≤ ec := hC0.2
   have hC2 : 0 ≤ C := hC0.1
   have HGE2 := Lib.hid (show edAt (ES.set i (capE k ⟨F, T, ec, ek⟩)) i = ⟨F, T, C, ek⟩ by
    unfold edAt
    rw [List.getD_eq_getElem?_getD, List.getElem?_set_self (by rw [HLE.out]; exact hlt), hC]; rfl)
   have HESN := Lib.hid (show ES.set i (capE k ⟨F, T, ec, ek⟩) = fineE es k (i + 1) by rw [HESD.out, HE.out]; exact fineE_succ hlt)
   have HXX := Lib.hid (show fineX es k S.fl S.pot i = if 2 * x < C ∧ gains es S.pot i = true then C else 2 * x by unfold fineX; rw [← HE.out, ← HX.out, hC])
   have HFS := Lib.hid (show (FL.set i (fineX es k S.fl S.pot i)) = fineF es k S.fl S.pot (i + 1) by rw [HFLD.out]; exact fineF_succ hif)
   have HOS := Lib.hid (fun (hq : fineX es k S.fl S.pot i = 2 * x) => (show OV = fineO M.N es k S.fl S.pot (i + 1) by rw [HOVD.out]; exact fineO_same hif (by rw [hq, HX.out])))
   have HOX := Lib.hid (fun (hq : fineX es k S.fl S.pot i = C) => (show (OV.set T (g OV T + (C - x * 2))).set F (g (OV.set T (g OV T + (C - x * 2))) F - (C - x * 2)) = fineO M.N es k S.fl S.pot (i + 1) by
    rw [HOVD.out]
    exact fineO_succ hif (by rw [hq, ← HX.out]; omega) (by rw [← HE.out]) (by rw [← HE.out]) hTN hFN))
   have HOB := Lib.hid (fun v (hv : v < M.N) => (show -200 ≤ g OV v ∧ g OV v ≤ 200 by
    have := over_one es (byF es k S.fl S.pot) (HP.out.by1 HR.out) v i
    rw [HOVD.out, fineO_at hv]; omega))
   have HGA := Lib.hid (show gains es S.pot i = decide (ek + g S.pot F - g S.pot T < 0) by
    unfold gains
    rw [len_even, ← HE.out, potAt_g, potAt_g]
    dsimp only
    rw [Int.toNat_natCast, Int.toNat_natCast])
   have HSMA := Lib.hid HP.out.si.small
   clear hC hC0
   unfold fL at hs
   have s0 := cell_of (hs.cells 1 rfl) 0
   have s1 := cell_of (hs.cells 1 rfl) 1
   have s2 := cell_of (hs.cells 1 rfl) 2
   have s3 := cell_of (hs.cells 1 rfl) 3
   have s4 := cell_of (hs.cells 1 rfl) 4
   simp only [Sol.cells, List.getElem?_toArray, List.getElem?_cons_zero, List.getElem?_cons_succ] at s0 s1 s2 s3 s4
   obtain ⟨ge, ce, eqe, _, hce, hfe⟩ := (hs.recs 5 rfl).get i (by rw [List.length_set, HLE.out]; exact hlt)
   injection eqe with eqe q1 q2
   injection eqe with eqe
   injection eqe with eqe
   subst eqe
   have y0 := hce i (by rw [List.length_set, HLE.out]; exact hlt) 0 (by decide)
   have y1 := hce i (by rw [List.length_set, HLE.out]; exact hlt) 1 (by decide)
   have y2 := hce i (by rw [List.length_set, HLE.out]; exact hlt) 2 (by decide)
   have y3 := hce i (by rw [List.length_set, HLE.out]; exact hlt) 3 (by decide)
   rw [← edAt_of (by rw [List.length_set, HLE.out]; exact hlt), HGE2.out] at y0 y1 y2 y3
   simp only [edR, Nat.add_zero, List.getElem?_cons_zero, List.getElem?_cons_succ] at y0 y1 y2 y3
   have w0' := hfe (i * 4)
   clear q1 q2 hce
   obtain ⟨g', cg', eg, _, hcR, zf⟩ := (hs.ints 2 rfl).get i (by rw [List.length_set, HLF.out]; exact hlt)
   injection eg with eg q1 q2
   injection eg with eg
   injection eg with eg
   subst eg
   have z1 := hcR i (by rw [List.length_set, HLF.out]; exact hlt)
   clear q1 q2 hcR
   rw [show (FL.set i (x * 2)).getD i 0 = x * 2 by rw [List.getD_eq_getElem?_getD, List.getElem?_set_self (by rw [HLF.out]; exact hlt)]; rfl] at z1
   obtain ⟨g', cg', eg, _, hcR, pf1⟩ := (hs.ints 3 rfl).get F (by rw [HPL.out]; exact hFN)
   injection eg with eg q1 q2
   injection eg with eg
   injection eg with eg
   subst eg
   have p1 := hcR F (by rw [HPL.out]; exact hFN)
   clear q1 q2 hcR
   obtain ⟨g', cg', eg, _, hcR, pf2⟩ := (hs.ints 3 rfl).get T (by rw [HPL.out]; exact hTN)
   injection eg with eg q1 q2
   injection eg with eg
   injection eg with eg
   subst eg
   have p2 := hcR T (by rw [HPL.out]; exact hTN)
   clear q1 q2 hcR
   obtain ⟨P, hPd⟩ : ∃ P, P = g S.pot F := ⟨_, rfl⟩
   obtain ⟨Q, hQd⟩ : ∃ Q, Q = g S.pot T := ⟨_, rfl⟩
   rw [show S.pot.getD F 0 = P from hPd.symm] at p1
   rw [show S.pot.getD T 0 = Q from hQd.symm] at p2
   rw [← hPd, ← hQd] at HGA
   obtain ⟨P0, P1⟩ := HSMA.out F hFN
   obtain ⟨Q0, Q1⟩ := HSMA.out T hTN
   rw [← hPd] at P0 P1
   rw [← hQd] at Q0 Q1
   have hFI : (F : Int) < M.N := by omega
   have hTI : (T : Int) < M.N := by omega
   clear hPd hQd pf1 pf2 HSMA
   by_cases c1 : x * 2 < C
   ·have d1 : decide (x * 2 < C) = true := decide_eq_true c1
    by_cases c2 : ek + P - Q < 0
    ·have d2 : decide (ek + P - Q < 0) = true := decide_eq_true c2
     have HXC := Lib.hid (show fineX es k S.fl S.pot i = C by rw [HXX.out, if_pos ⟨by omega, by rw [HGA.out]; exact d2⟩])
     clear c2
     go_wp2_with fail
     refine Mix.region [0, 0, 0, 0, 0, 0, 0, 0, 0, 0, 0, 0, 0, 0, 0, 0, 0, 0, 0, 0, 0, 0, 0, 0, 0, 0, 0, 0, 0, 0, 0, 0, 0, 0, 0, 0, 0, 0, 0, 0, 0] (fun _ => True) (by kernel_rfl) (by kernel_rfl) trivial ?_
     simp only [List.zip_cons_cons, List.zip_nil_right]
     iterate 13 (refine Mix.step0 fun K hK => ?_; go_simp; (try (go_bits; try go_simp)); first | ((with_reducible refine hK _ _ ?_); clear hK K) | ((try (simp only [IntWalk.iteOmega]; try go_simp)); (try go_bits); (with_reducible refine hK _ _ ?_); clear hK K))
     iterate 27 (first | (refine Mix.stepS rfl fun K hK => ?_; go_simp; (with_reducible refine hK _ _ ?_); clear hK K) | (refine Mix.step0 fun K hK => ?_; go_simp; (try (go_bits; try go_simp)); first | ((with_reducible refine hK _ _ ?_); clear hK K) | ((try (simp only [IntWalk.iteOmega]; try go_simp)); (try go_bits); (with_reducible refine hK _ _ ?_); clear hK K)))
     iterate 1 (refine Mix.step0 fun K hK => ?_; go_simp; (try (go_bits; try go_simp)); first | ((with_reducible refine hK _ _ ?_); clear hK K) | ((try (simp only [IntWalk.iteOmega]; try go_simp)); (try go_bits); (with_reducible refine hK _ _ ?_); clear hK K))
     refine Mix.done ?_
     go_wp2_with fail
     refine Mix.region [0, 0, 0, 0, 0, 0, 0, 0, 0, 0, 0, 0, 0] (fun _ => True) (by kernel_rfl) (by kernel_rfl) trivial ?_
     simp only [List.zip_cons_cons, List.zip_nil_right]
     iterate 13 (refine Mix.step0 fun K hK => ?_; go_simp; (try (go_bits; try go_simp)); first | ((with_reducible refine hK _ _ ?_); clear hK K) | ((try (simp only [IntWalk.iteOmega]; try go_simp)); (try go_bits); (with_reducible refine hK _ _ ?_); clear hK K))
     refine Mix.done ?_
     go_upto_region 10 with fail
     have hs2 := (hs.setInts (j := i) 2 rfl (x * 2 + (C - x * 2))).drew.drew
     simp only [List.set_cons_zero, List.set_cons_succ, List.set_set] at hs2
     rw [show x * 2 + (C - x * 2) = C by omega] at hs2 ⊢
     have hnF : (FL.set i C) = fineF es k S.fl S.pot (i + 1) := by rw [← HFS.out, HXC.out]
     have HNF := Lib.hid hnF
     clear hnF
     generalize World.drew (World.drew (World.setCell W2 _ _)) = W3 at hs2 ⊢
     clear hs s0 s1 s2 s3 s4 y0 y1 y2 y3 hfe w0' z1 zf p1 p2
     have hs := hs2
     clear hs2
     have s0 := cell_of (hs.cells 1 rfl) 0
     have s1 := cell_of (hs.cells 1 rfl) 1
     have s2 := cell_of (hs.cells 1 rfl) 2
     have s3 := cell_of (hs.cells 1 rfl) 3
     have s4 := cell_of (hs.cells 1 rfl) 4
     simp only [Sol.cells, List.getElem?_toArray, List.getElem?_cons_zero, List.getElem?_cons_succ] at s0 s1 s2 s3 s4
     obtain ⟨ge, ce, eqe, _, hce, hfe⟩ := (hs.recs 5 rfl).get i (by rw [List.length_set, HLE.out]; exact hlt)
     injection eqe with eqe q1 q2
     injection eqe with eqe
     injection eqe with eqe
     subst eqe
     have y0 := hce i (by rw [List.length_set, HLE.out]; exact hlt) 0 (by decide)
     have y1 := hce i (by rw [List.length_set, HLE.out]; exact hlt) 1 (by decide)
     have y2 := hce i (by rw [List.length_set, HLE.out]; exact hlt) 2 (by decide)
     have y3 := hce i (by rw [List.length_set, HLE.out]; exact hlt) 3 (by decide)
     rw [← edAt_of (by rw [List.length_set, HLE.out]; exact hlt), HGE2.out] at y0 y1 y2 y3
     simp only [edR, Nat.add_zero, List.getElem?_cons_zero, List.getElem?_cons_succ] at y0 y1 y2 y3
     have w0' := hfe (i * 4)
     clear q1 q2 hce
     obtain ⟨g', cg', eg, _, hcR, of⟩ := (hs.ints 4 rfl).get T (by rw [HLO.out]; exact hTN)
     injection eg with eg q1 q2
     injection eg with eg
     injection eg with eg
     subst eg
     have o1 := hcR T (by rw [HLO.out]; exact hTN)
     clear q1 q2 hcR
     obtain ⟨u, hu⟩ : ∃ u, u = g OV T := ⟨_, rfl⟩
     rw [show OV.getD T 0 = u from hu.symm] at o1
     obtain ⟨u0, u1⟩ := HOB.out T hTN
     rw [← hu] at u0 u1
     have HU := Lib.hid hu
     clear hu
     refine Mix.region [0, 0, 0, 0, 0, 0, 0, 0, 0, 0, 0, 0, 0, 2] (fun _ => True) (by kernel_rfl) (by kernel_rfl) trivial ?_
     simp only [List.zip_cons_cons, List.zip_nil_right]
     iterate 13 (refine Mix.step0 fun K hK => ?_; go_simp; (try (go_bits; try go_simp)); first | ((with_reducible refine hK _ _ ?_); clear hK K) | ((try (simp only [IntWalk.iteOmega]; try go_simp)); (try go_bits); (with_reducible refine hK _ _ ?_); clear hK K))
     refine Mix.step2n (by first | rfl | simp [Region.wanted, yielded]) fun K hK => ?_
     go_wp2_with fail
     have hs2 := (hs.setInts (j := T) 4 rfl (u + (C - x * 2))).drew
     simp only [List.set_cons_zero, List.set_cons_succ] at hs2
     refine Mix.post_mk (C := (fun _ => True)) trivial (hK _ _ ?_)
     clear hK K
     refine Mix.done ?_
     generalize World.drew (World.setCell W3 _ _) = W4 at hs2 ⊢
     clear hs s0 s1 s2 s3 s4 y0 y1 y2 y3 hfe w0' o1 of
     have hs := hs2
     clear hs2
     have s0 := cell_of (hs.cells 1 rfl) 0
     have s1 := cell_of (hs.cells 1 rfl) 1
     have s2 := cell_of (hs.cells 1 rfl) 2
     have s3 := cell_of (hs.cells 1 rfl) 3
     have s4 := cell_of (hs.cells 1 rfl) 4
     simp only [Sol.cells, List.getElem?_toArray, List.getElem?_cons_zero, List.getElem?_cons_succ] at s0 s1 s2 s3 s4
     obtain ⟨ge, ce, eqe, _, hce, hfe⟩ := (hs.recs 5 rfl).get i (by rw [List.length_set, HLE.out]; exact hlt)
     injection eqe with eqe q1 q2
     injection eqe with eqe
     injection eqe with eqe
     subst eqe
     have y0 := hce i (by rw [List.length_set, HLE.out]; exact hlt) 0 (by decide)
     have y1 := hce i (by rw [List.length_set, HLE.out]; exact hlt) 1 (by decide)
     have y2 := hce i (by rw [List.length_set, HLE.out]; exact hlt) 2 (by decide)
     have y3 := hce i (by rw [List.length_set, HLE.out]; exact hlt) 3 (by decide)
     rw [← edAt_of (by rw [List.length_set, HLE.out]; exact hlt), HGE2.out] at y0 y1 y2 y3
     simp only [edR, Nat.add_zero, List.getElem?_cons_zero, List.getElem?_cons_succ] at y0 y1 y2 y3
     have w0' := hfe (i * 4)
     clear q1 q2 hce
     obtain ⟨g', cg', eg, _, hcR, of⟩ := (hs.ints 4 rfl).get F (by rw [List.length_set, HLO.out]; exact hFN)
     injection eg with eg q1 q2
     injection eg with eg
     injection eg with eg
     subst eg
     have o1 := hcR F (by rw [List.length_set, HLO.out]; exact hFN)
     clear q1 q2 hcR
     obtain ⟨v, hv⟩ : ∃ v, v = g (OV.set T (u + (C - x * 2))) F := ⟨_, rfl⟩
     rw [show (OV.set T (u + (C - x * 2))).getD F 0 = v from hv.symm] at o1
     have hvb : -9007199254740992 ≤ v ∧ v ≤ 9007199254740992 := by
      have := HOB.out F hFN
      rw [hv, g_set (by rw [HLO.out]; exact hTN)]
      unfold upd
      split <;> omega
     obtain ⟨v0, v1⟩ := hvb
     have HV := Lib.hid hv
     clear hv
     go_wp2_with fail
     refine Mix.region [0, 0, 0, 0, 0, 0, 0, 0, 0, 0, 0, 0, 0, 2] (fun _ => True) (by kernel_rfl) (by kernel_rfl) trivial ?_
     simp only [List.zip_cons_cons, List.zip_nil_right]
     iterate 13 (refine Mix.step0 fun K hK => ?_; go_simp; (try (go_bits; try go_simp)); first | ((with_reducible refine hK _ _ ?_); clear hK K) | ((try (simp only [IntWalk.iteOmega]; try go_simp)); (try go_bits); (with_reducible refine hK _ _ ?_); clear hK K))
     refine Mix.step2n (by first | rfl | simp [Region.wanted, yielded]) fun K hK => ?_
     go_wp2_with fail
     have hs2 := (hs.setInts (j := F) 4 rfl (v - (C - x * 2))).drew
     simp only [List.set_cons_zero, List.set_cons_succ] at hs2
     refine Mix.post_mk (C := (fun _ => True)) trivial (hK _ _ ?_)
     clear hK K
     refine Mix.done ?_
     have hfin := HOX.out HXC.out
     rw [← HU.out, ← HV.out] at hfin
     rw [hfin, HNF.out, HESN.out] at hs2
     generalize World.drew (World.setCell W4 _ _) = W5 at hs2 ⊢
     clear hs s0 s1 s2 s3 s4 y0 y1 y2 y3 hfe w0' o1 of hfin
     go_wp2_with fail
     refine Round.intro (es.length - (i + 1)) ?measure23 (by kernel_rfl) (hJ1 _ _ _ ?rel23)
     case' rel23 => (try dsimp only [nthV])
     case measure23 => omega
     case rel23 => exact ⟨i + 1, by go_num, hlt, rfl, by unfold solL finerK; dsimp only; rw [fineE_len]; exact hs2⟩
    ·have d2 : decide (ek + P - Q < 0) = false := decide_eq_false c2
     have HXC := Lib.hid (show fineX es k S.fl S.pot i = 2 * x by rw [HXX.out, if_neg (fun q => by rw [HGA.out] at q; exact c2 (of_decide_eq_true q.2))])
     clear c2
     have hnF : (FL.set i (x * 2)) = fineF es k S.fl S.pot (i + 1) := by rw [← HFS.out, HXC.out, Int.mul_comm]
     rw [hnF, HESN.out, HOS.out HXC.out] at hs
     go_wp2_with fail
     refine Mix.region [0, 0, 0, 0, 0, 0, 0, 0, 0, 0, 0, 0, 0, 0, 0, 0, 0, 0, 0, 0, 0, 0, 0, 0, 0, 0, 0, 0, 0, 0, 0, 0, 0, 0, 0, 0, 0, 0, 0, 0, 0] (fun _ => True) (by kernel_rfl) (by kernel_rfl) trivial ?_
     simp only [List.zip_cons_cons, List.zip_nil_right]
     iterate 13 (refine Mix.step0 fun K hK => ?_; go_simp; (try (go_bits; try go_simp)); first | ((with_reducible refine hK _ _ ?_); clear hK K) | ((try (simp only [IntWalk.iteOmega]; try go_simp)); (try go_bits); (with_reducible refine hK _ _ ?_); clear hK K))
     iterate 27 (first | (refine Mix.stepS rfl fun K hK => ?_; go_simp; (with_reducible refine hK _ _ ?_); clear hK K) | (refine Mix.step0 fun K hK => ?_; go_simp; (try (go_bits; try go_simp)); first | ((with_reducible refine hK _ _ ?_); clear hK K) | ((try (simp only [IntWalk.iteOmega]; try go_simp)); (try go_bits); (with_reducible refine hK _ _ ?_); clear hK K)))
     iterate 1 (refine Mix.step0 fun K hK => ?_; go_simp; (try (go_bits; try go_simp)); first | ((with_reducible refine hK _ _ ?_); clear hK K) | ((try (simp only [IntWalk.iteOmega]; try go_simp)); (try go_bits); (with_reducible refine hK _ _ ?_); clear hK K))
     refine Mix.done ?_
     replace hs := hs.drew
     clear s0 s1 s2 s3 s4 y0 y1 y2 y3 hfe w0' z1 zf p1 p2 hnF
     go_wp2_with fail
     refine Round.intro (es.length - (i + 1)) ?measure24 (by kernel_rfl) (hJ1 _ _ _ ?rel24)
     case' rel24 => (try dsimp only [nthV])
     case measure24 => omega
     case rel24 => exact ⟨i + 1, by go_num, hlt, rfl, by unfold solL finerK; dsimp only; rw [fineE_len]; exact hs⟩
   ·have d1 : decide (x * 2 < C) = false := decide_eq_false c1
    have HXC := Lib.hid (show fineX es k S.fl S.pot i = 2 * x by rw [HXX.out, if_neg (fun q => c1 (by omega))])
    have hnF : (FL.set i (x * 2)) = fineF es k S.fl S.pot (i + 1) := by rw [← HFS.out, HXC.out, Int.mul_comm]
    rw [hnF, HESN.out, HOS.out HXC.out] at hs
    go_wp2_with fail
    refine Mix.region [0, 0, 0, 0, 0, 0, 0, 0, 0, 0, 0, 0, 0, 0, 0, 0, 0, 0, 0, 0, 0, 0, 0, 0, 0, 0, 0, 0, 0, 0, 0, 0, 0, 0, 0, 0, 0, 0, 0, 0, 0] (fun _ => True) (by kernel_rfl) (by kernel_rfl) trivial ?_
    simp only [List.zip_cons_cons, List.zip_nil_right]
    iterate 13 (refine Mix.step0 fun K hK => ?_; go_simp; (try (go_bits; try go_simp)); first | ((with_reducible refine hK _ _ ?_); clear hK K) | ((try (simp only [IntWalk.iteOmega]; try go_simp)); (try go_bits); (with_reducible refine hK _ _ ?_); clear hK K))
    iterate 27 (first | (refine Mix.stepS rfl fun K hK => ?_; go_simp; (with_reducible refine hK _ _ ?_); clear hK K) | (refine Mix.step0 fun K hK => ?_; go_simp; (try (go_bits; try go_simp)); first | ((with_reducible refine hK _ _ ?_); clear hK K) | ((try (simp only [IntWalk.iteOmega]; try go_simp)); (try go_bits); (with_reducible refine hK _ _ ?_); clear hK K)))
    iterate 1 (refine Mix.step0 fun K hK => ?_; go_simp; (try (go_bits; try go_simp)); first | ((with_reducible refine hK _ _ ?_); clear hK K) | ((try (simp only [IntWalk.iteOmega]; try go_simp)); (try go_bits); (with_reducible refine hK _ _ ?_); clear hK K))
    refine Mix.done ?_
    replace hs := hs.drew
    clear s0 s1 s2 s3 s4 y0 y1 y2 y3 hfe w0' z1 zf p1 p2 hnF
    go_wp2_with fail
    refine Round.intro (es.length - (i + 1)) ?measure25 (by kernel_rfl) (hJ1 _ _ _ ?rel25)
    case' rel25 => (try dsimp only [nthV])
    case measure25 => omega
    case rel25 => exact ⟨i + 1, by go_num, hlt, rfl, by unfold solL finerK; dsimp only; rw [fineE_len]; exact hs⟩
  ·obtain rfl : i = es.length := by omega
   have HEND := Lib.hid HP.out.endK
   go_wp2_with fail
   exact bodyPost_end (results_none rfl _ _ _) rfl ⟨⟨_, rfl⟩, by rw [← HEND.out]; exact hs.tail⟩
end Go.Proofs.Ytjijhpflkkicaaa
