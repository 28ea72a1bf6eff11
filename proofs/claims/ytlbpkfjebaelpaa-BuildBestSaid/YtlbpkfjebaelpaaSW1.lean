/-
  Package solve: the solver as it lies; sources, nearest, raise, narrow, anew, walked.
-/
import Derived.Test.YtlbpkfjebaelpaaSPl
import Derived.Test.YtlbpkfjebaelpaaRA
set_option linter.unusedVariables false
set_option linter.unusedSimpArgs false
namespace Go.Proofs.Ytlbpkfjebaelpaa
open Go Go.RowKit Go.Mem Go.NetP Go.RestP Go.CertP Go.PathP Go.SolveP
theorem Try.infoIntv : (Try.prog.info? 3).map (fun i => (i.zero, i.size, i.bytes)) = some (some (.int .i64 0), 1, 8) := by kernel_rfl
/-- A solver's blocks. -/
structure Sol where
  bs : Nat
  gE : Nat
  cE : Nat
  gF : Nat
  gP : Nat
  gO : Nat
  N : Nat
  ex : List Thing
def Sol.cells (M : Sol) (nE st : Nat) : Array Value := #[.int .i64 M.N, .slice (some ⟨M.gE, 0, none⟩) nE M.cE, .slice (some ⟨M.gF, 0, none⟩) nE nE, .slice (some ⟨M.gP, 0, none⟩) M.N M.N, .slice (some ⟨M.gO, 0, none⟩) M.N M.N, .int .i64 st]
/-- The solver, with its numbers. -/
def solL (M : Sol) (S : St) : List Thing :=
  cellsT M.bs (M.cells S.es.length S.steps) 66 :: intsT .i64 2 (.slice (some ⟨M.gF, 0, none⟩) S.es.length S.es.length) S.fl :: intsT .i64 2 (.slice (some ⟨M.gP, 0, none⟩) M.N M.N) S.pot :: intsT .i64 2 (.slice (some ⟨M.gO, 0, none⟩) M.N M.N) S.ov :: recT edR 52 (.slice (some ⟨M.gE, 0, none⟩) S.es.length M.cE) S.es :: M.ex
set_option maxRecDepth 100000 in
set_option maxHeartbeats 2000000 in
theorem sources_any (M : Sol) (S : St) (w0 w : World) (hl : S.ov.length = M.N) (hN : M.N ≤ 40) (hs : Sep w0 w (solL M S)) :
    Calls Try.prog 50 #[.pointer (some ⟨M.bs, 0, none⟩)] w fun e w' => ∃ u, e = .returned u ∧ Sep w0 w' (intsT .i64 3 u (srcK S.ov M.N) :: solL M S) := by
  obtain ⟨j0, hj0, hy0, hy1, hy2⟩ := info_parts Try.infoIntv
  unfold solL at hs
  have s0 := cell_of (hs.cells 0 rfl) 0
  have s1 := cell_of (hs.cells 0 rfl) 1
  have s2 := cell_of (hs.cells 0 rfl) 2
  have s3 := cell_of (hs.cells 0 rfl) 3
  have s4 := cell_of (hs.cells 0 rfl) 4
  simp only [Sol.cells, List.getElem?_toArray, List.getElem?_cons_zero, List.getElem?_cons_succ] at s0 s1 s2 s3 s4
  have hs1 := hs.nilInts .i64 3
  go_enter Try.func50, Try.ntmps50
  go_wp2_with fail
  clear s0 s1 s2 s3 s4 hs
  refine wp_loopM [none, none, none, some 3, some 4, some 5, none, none, none, none, none, some 11, some 12, some 13, some 14, some 15, some 16, some 17, some 18, some 19, some 20, some 21, some 22, none] (fun (r : Nat) (f : Nat → Value) (wr : World) => (fun (vl v : Value) => ∃ (k : Nat) (u : Value), v = .int .i64 k ∧ vl = u ∧ k ≤ M.N ∧ r = M.N - k ∧ Sep w0 wr (intsT .i64 3 u (srcK S.ov k) :: solL M S)) (f 3) (f 11)) (M.N) (by kernel_rfl) ?atStart1 ?round1
  case' atStart1 => (try dsimp only [nthV])
  case' round1 =>
    intro gk f wr l hl hrel J1 K1 hJ1 hK1
    (try simp only [mask] at hl)
    generalize f 3 = u3 at hl hrel
    generalize f 11 = u11 at hl hrel
    subst hl
    (try dsimp only at hrel)
  case atStart1 => exact ⟨0, _, rfl, rfl, Nat.zero_le _, rfl, hs1⟩
  case round1 =>
    clear hs1
    obtain ⟨k, u, rfl, rfl, hk, rfl, hs⟩ := hrel
    unfold solL at hs
    by_cases hlt : k < M.N
    · obtain ⟨_, _, eqz, _, x1⟩ := (hs.rdInts 4 rfl).at k (by rw [hl]; exact hlt)
      injection eqz with eqz
      injection eqz with eqz eqo
      subst eqz
      subst eqo
      rw [Nat.zero_add] at x1
      obtain ⟨x, hx⟩ : ∃ x, x = g S.ov k := ⟨_, rfl⟩
      rw [show S.ov.getD k 0 = x from hx.symm] at x1
      have HS := Lib.hid (srcK_succ S.ov k)
      rw [← hx] at HS
      have hsl := srcK_len S.ov k
      clear hx
      by_cases h0 : 0 < x
      · have d1 : decide (0 < x) = true := decide_eq_true h0
        rw [if_pos h0] at HS
        clear h0
        go_wp2_with (at_builtin; refine wpList_appInt rfl (.tmp 18) (.tmp 20) 83 rfl 3 j0 _ 8 Try.underlying83 hj0 hy0 hy1 hy2 rfl _ _ .i64 k hs 0 rfl rfl (by simp [go_sem]) ?c3 ?c4 ?grow)
        case c3 => (try simp); (try simp only [maxLen]); (try omega)
        case c4 => (try simp); (try simp only [maxLen]); (try omega)
        case grow =>
          intro vw w6 hs6 _
          (try simp only [List.set_cons_zero] at hs6)
          rw [← HS.out] at hs6
          clear hs x1
          go_wp2_with fail
          refine Round.intro (M.N - (k + 1)) ?measure2 (by kernel_rfl) (hJ1 _ _ _ ?rel2)
          case' rel2 => (try dsimp only [nthV])
          case measure2 => omega
          case rel2 => exact ⟨k + 1, _, by go_num, rfl, hlt, rfl, hs6⟩
      · have d1 : decide (0 < x) = false := decide_eq_false h0
        rw [if_neg h0, List.append_nil] at HS
        clear h0
        go_wp2_with fail
        rw [← HS.out] at hs
        refine Round.intro (M.N - (k + 1)) ?measure3 (by kernel_rfl) (hJ1 _ _ _ ?rel3)
        case' rel3 => (try dsimp only [nthV])
        case measure3 => omega
        case rel3 => exact ⟨k + 1, _, by go_num, rfl, hlt, rfl, hs⟩
    · obtain rfl : k = M.N := by omega
      go_wp2_with fail
      go_ret
      exact ⟨_, rfl, hs⟩
set_option maxRecDepth 100000 in
set_option maxHeartbeats 2000000 in
theorem nearest_any (M : Sol) (S : St) (w0 w : World) (vd : Value) (D : List Int) (hl : S.ov.length = M.N) (hN : M.N ≤ 40) (hs : Sep w0 w (solL M S)) (hd : Rd .i64 w vd D) (hD : D.length = M.N) :
    Calls Try.prog 52 #[.pointer (some ⟨M.bs, 0, none⟩), vd] w fun e w' => e = .returned (.int .i64 (nearK S.ov D M.N)) ∧ w' = w := by
  obtain ⟨ad, cd, rfl⟩ := hd.shape
  unfold solL at hs
  have s0 := cell_of (hs.cells 0 rfl) 0
  have s1 := cell_of (hs.cells 0 rfl) 1
  have s2 := cell_of (hs.cells 0 rfl) 2
  have s3 := cell_of (hs.cells 0 rfl) 3
  have s4 := cell_of (hs.cells 0 rfl) 4
  simp only [Sol.cells, List.getElem?_toArray, List.getElem?_cons_zero, List.getElem?_cons_succ] at s0 s1 s2 s3 s4
  have hle := hd.le'
  go_enter Try.func52, Try.ntmps52
  go_wp2_with fail
  refine wp_loopM [none, none, none, none, none, some 5, some 6, some 7, none, none, some 10, some 11, some 12, some 13, some 14, some 15, some 16, some 17, some 18, some 19, some 20, some 21, some 22, some 23, some 24, some 25, some 26, some 27, some 28, some 29, some 30, some 31, some 32, some 33, some 34, some 35, some 36, some 37, some 38, some 39, some 40, none] (fun (r : Nat) (f : Nat → Value) (wr : World) => (fun (vt v : Value) => ∃ k : Nat, v = .int .i64 k ∧ vt = .int .i64 (nearK S.ov D k) ∧ k ≤ M.N ∧ r = M.N - k ∧ wr = w) (f 5) (f 10)) (M.N) (by kernel_rfl) ?atStart4 ?round4
  case' atStart4 => (try dsimp only [nthV])
  case' round4 =>
    intro gk f wr l hl hrel J1 K1 hJ1 hK1
    (try simp only [mask] at hl)
    generalize f 5 = u5 at hl hrel
    generalize f 10 = u10 at hl hrel
    subst hl
    (try dsimp only at hrel)
  case atStart4 => exact ⟨0, rfl, rfl, Nat.zero_le _, rfl, rfl⟩
  case round4 =>
    obtain ⟨k, rfl, rfl, hk, rfl, rfl⟩ := hrel
    by_cases hlt : k < M.N
    · obtain ⟨_, _, eqz, _, x1⟩ := (hs.rdInts 3 rfl).at k (by rw [hl]; exact hlt)
      injection eqz with eqz
      injection eqz with eqz eqo
      subst eqz
      subst eqo
      rw [Nat.zero_add] at x1
      obtain ⟨b, o, eq, _, x2⟩ := hd.at k (by omega)
      subst eq
      have HSP := Lib.hid (near_spec S.ov D k)
      have HNX := Lib.hid (show nearK S.ov D (k + 1) = if g S.ov k < 0 ∧ 0 ≤ g D k ∧ (nearK S.ov D k < 0 ∨ g D k < g D (nearK S.ov D k).toNat) then (k : Int) else nearK S.ov D k from rfl)
      obtain ⟨x, hx⟩ : ∃ x, x = g S.ov k := ⟨_, rfl⟩
      obtain ⟨y, hy⟩ : ∃ y, y = g D k := ⟨_, rfl⟩
      obtain ⟨T, hT⟩ : ∃ T, T = nearK S.ov D k := ⟨_, rfl⟩
      rw [show S.ov.getD k 0 = x from hx.symm] at x1
      rw [show D.getD k 0 = y from hy.symm] at x2
      rw [← hx, ← hy, ← hT] at HNX
      rw [← hT] at HSP ⊢
      have hkD : (k : Int) < D.length := by omega
      clear hx hy hT
      by_cases h1 : x < 0
      · have d1 : decide (x < 0) = true := decide_eq_true h1
        by_cases h2 : 0 ≤ y
        · have d2 : decide (0 ≤ y) = true := decide_eq_true h2
          by_cases h3 : T < 0
          · have d3 : decide (T < 0) = true := decide_eq_true h3
            have HN := Lib.hid (show nearK S.ov D (k + 1) = k by rw [HNX.out, if_pos ⟨h1, h2, .inl h3⟩])
            clear h1 h2 h3
            go_wp2_with fail
            refine Round.intro (M.N - (k + 1)) ?measure5 (by kernel_rfl) (hJ1 _ _ _ ?rel5)
            case' rel5 => (try dsimp only [nthV])
            case measure5 => omega
            case rel5 => exact ⟨k + 1, by go_num, by rw [HN.out], hlt, rfl, rfl⟩
          · have d3 : decide (T < 0) = false := decide_eq_false h3
            obtain ⟨t, rfl, ht⟩ : ∃ t : Nat, T = t ∧ t < k := by
              rcases HSP.out with ⟨q, _⟩ | ⟨t, q1, q2, _⟩
              · omega
              · exact ⟨t, q1, q2⟩
            obtain ⟨_, _, eqz, _, x3⟩ := hd.at t (by omega)
            injection eqz with eqz
            injection eqz with eqz eqo
            subst eqz
            subst eqo
            rw [Int.toNat_natCast] at HNX
            obtain ⟨z, hz⟩ : ∃ z, z = g D t := ⟨_, rfl⟩
            rw [show D.getD t 0 = z from hz.symm] at x3
            rw [← hz] at HNX
            have htD : (t : Int) < D.length := by omega
            clear hz
            by_cases h4 : y < z
            · have d4 : decide (y < z) = true := decide_eq_true h4
              have HN := Lib.hid (show nearK S.ov D (k + 1) = k by rw [HNX.out, if_pos ⟨h1, h2, .inr h4⟩])
              clear h1 h2 h3 h4
              go_wp2_with fail
              refine Round.intro (M.N - (k + 1)) ?measure6 (by kernel_rfl) (hJ1 _ _ _ ?rel6)
              case' rel6 => (try dsimp only [nthV])
              case measure6 => omega
              case rel6 => exact ⟨k + 1, by go_num, by rw [HN.out], hlt, rfl, rfl⟩
            · have d4 : decide (y < z) = false := decide_eq_false h4
              have HN := Lib.hid (show nearK S.ov D (k + 1) = t by rw [HNX.out, if_neg (by omega)])
              clear h1 h2 h3 h4
              go_wp2_with fail
              refine Round.intro (M.N - (k + 1)) ?measure7 (by kernel_rfl) (hJ1 _ _ _ ?rel7)
              case' rel7 => (try dsimp only [nthV])
              case measure7 => omega
              case rel7 => exact ⟨k + 1, by go_num, by rw [HN.out], hlt, rfl, rfl⟩
        · have d2 : decide (0 ≤ y) = false := decide_eq_false h2
          have HN := Lib.hid (show nearK S.ov D (k + 1) = T by rw [HNX.out, if_neg (by omega)])
          clear h1 h2
          go_wp2_with fail
          refine Round.intro (M.N - (k + 1)) ?measure8 (by kernel_rfl) (hJ1 _ _ _ ?rel8)
          case' rel8 => (try dsimp only [nthV])
          case measure8 => omega
          case rel8 => exact ⟨k + 1, by go_num, by rw [HN.out], hlt, rfl, rfl⟩
      · have d1 : decide (x < 0) = false := decide_eq_false h1
        have HN := Lib.hid (show nearK S.ov D (k + 1) = T by rw [HNX.out, if_neg (by omega)])
        clear h1
        go_wp2_with fail
        refine Round.intro (M.N - (k + 1)) ?measure9 (by kernel_rfl) (hJ1 _ _ _ ?rel9)
        case' rel9 => (try dsimp only [nthV])
        case measure9 => omega
        case rel9 => exact ⟨k + 1, by go_num, by rw [HN.out], hlt, rfl, rfl⟩
    · obtain rfl : k = M.N := by omega
      go_wp2_with fail
      go_ret
      exact ⟨rfl, rfl⟩
set_option maxRecDepth 100000 in
set_option maxHeartbeats 2000000 in
theorem raise_any (M : Sol) (S : St) (w0 w : World) (vd : Value) (D : List Int) (dt : Int) (hl : S.pot.length = M.N) (hN : M.N ≤ 40) (hb : ∀ v, v < M.N → -1073741824 ≤ g S.pot v ∧ g S.pot v ≤ 1073741824) (h0 : 0 ≤ dt) (h1 : dt ≤ 83751901272) (hs : Sep w0 w (solL M S)) (j : Nat) (hj : ∀ S', (solL M S')[j]? = some (intsT .i64 2 vd D)) (hD : D.length = M.N) :
    Calls Try.prog 55 #[.pointer (some ⟨M.bs, 0, none⟩), vd, .int .i64 dt] w fun e w' => (∃ v, e = .returned v) ∧ Sep w0 w' (solL M { S with pot := raiseN S.pot D dt M.N }) := by
  have hd := hs.rdInts j (hj S)
  have hle := hd.le'
  obtain ⟨ad, cd, rfl⟩ := hd.shape
  have HJ := Lib.hid hj
  have HB := Lib.hid hb
  clear hj hd hb
  go_enter Try.func55, Try.ntmps55
  go_wp2_with fail
  refine wp_loopM [none, none, none, none, none, none, some 6, some 7, none, none, some 10, some 11, some 12, some 13, some 14, some 15, some 16, some 17, some 18, some 19, some 20, some 21, some 22, some 23, some 24, some 25, some 26, some 27, some 28, some 29, some 30, some 31, some 32, some 33] (fun (r : Nat) (f : Nat → Value) (wr : World) => (fun (v : Value) => ∃ k : Nat, v = .int .i64 k ∧ k ≤ M.N ∧ r = M.N - k ∧ Sep w0 wr (solL M { S with pot := raiseN S.pot D dt k })) (f 10)) (M.N) (by kernel_rfl) ?atStart10 ?round10
  case' atStart10 => (try dsimp only [nthV])
  case' round10 =>
    intro gk f wr l hl hrel J1 K1 hJ1 hK1
    (try simp only [mask] at hl)
    generalize f 10 = u10 at hl hrel
    subst hl
    (try dsimp only at hrel)
  case atStart10 => exact ⟨0, rfl, Nat.zero_le _, rfl, by rw [raiseN_zero]; exact hs⟩
  case round10 =>
    clear hs
    obtain ⟨k, rfl, hk, rfl, hs⟩ := hrel
    by_cases hlt : k < M.N
    · obtain ⟨b, o, eq, _, x2⟩ := (hs.rdInts j (HJ.out _)).at k (by omega)
      subst eq
      unfold solL at hs
      have s0 := cell_of (hs.cells 0 rfl) 0
      have s1 := cell_of (hs.cells 0 rfl) 1
      have s2 := cell_of (hs.cells 0 rfl) 2
      have s3 := cell_of (hs.cells 0 rfl) 3
      have s4 := cell_of (hs.cells 0 rfl) 4
      simp only [Sol.cells, List.getElem?_toArray, List.getElem?_cons_zero, List.getElem?_cons_succ] at s0 s1 s2 s3 s4
      obtain ⟨g', cg', eg, _, hcR, xf⟩ := (hs.ints 2 rfl).get k (by rw [raiseN_len, hl]; exact hlt)
      injection eg with eg q1 q2
      injection eg with eg
      injection eg with eg
      subst eg
      have x1 := hcR k (by rw [raiseN_len, hl]; exact hlt)
      clear q1 q2 hcR
      have hat := raiseN_at (pot := S.pot) (D := D) (dt := dt) (k := k) (v := k) (by rw [hl]; exact hlt)
      rw [if_neg (by omega)] at hat
      rw [show (raiseN S.pot D dt k).getD k 0 = g S.pot k from hat] at x1
      have HSU := Lib.hid (raiseN_succ (pot := S.pot) (D := D) (dt := dt) (k := k) (by rw [hl]; exact hlt))
      obtain ⟨p1, p2⟩ := HB.out k hlt
      obtain ⟨x, hx⟩ : ∃ x, x = g D k := ⟨_, rfl⟩
      rw [show D.getD k 0 = x from hx.symm] at x2
      obtain ⟨p, hp⟩ : ∃ p, p = g S.pot k := ⟨_, rfl⟩
      have HCL := Lib.hid (show clip D dt k = if x < 0 ∨ dt < x then dt else x by unfold clip; rw [← hx])
      rw [← hp] at x1 p1 p2 HSU
      have hkD : (k : Int) < D.length := by omega
      clear hx hp hat
      by_cases c1 : x < 0
      · have d1 : decide (x < 0) = true := decide_eq_true c1
        have HV := Lib.hid (show (raiseN S.pot D dt k).set k (p + dt) = raiseN S.pot D dt (k + 1) by rw [← HSU.out, HCL.out, if_pos (.inl c1)])
        clear c1
        go_wp2_with fail
        have hs2 := hs.setInts (j := k) 2 rfl (p + dt)
        simp only [List.set_cons_zero, List.set_cons_succ] at hs2
        rw [HV.out] at hs2
        clear hs x1 x2 xf s0 s1 s2 s3 s4
        refine Round.intro (M.N - (k + 1)) ?measure11 (by kernel_rfl) (hJ1 _ _ _ ?rel11)
        case' rel11 => (try dsimp only [nthV])
        case measure11 => omega
        case rel11 => exact ⟨k + 1, by go_num, hlt, rfl, hs2⟩
      · have d1 : decide (x < 0) = false := decide_eq_false c1
        by_cases c2 : dt < x
        · have d2 : decide (dt < x) = true := decide_eq_true c2
          have HV := Lib.hid (show (raiseN S.pot D dt k).set k (p + dt) = raiseN S.pot D dt (k + 1) by rw [← HSU.out, HCL.out, if_pos (.inr c2)])
          clear c1 c2
          go_wp2_with fail
          have hs2 := hs.setInts (j := k) 2 rfl (p + dt)
          simp only [List.set_cons_zero, List.set_cons_succ] at hs2
          rw [HV.out] at hs2
          clear hs x1 x2 xf s0 s1 s2 s3 s4
          refine Round.intro (M.N - (k + 1)) ?measure12 (by kernel_rfl) (hJ1 _ _ _ ?rel12)
          case' rel12 => (try dsimp only [nthV])
          case measure12 => omega
          case rel12 => exact ⟨k + 1, by go_num, hlt, rfl, hs2⟩
        · have d2 : decide (dt < x) = false := decide_eq_false c2
          have HV := Lib.hid (show (raiseN S.pot D dt k).set k (p + x) = raiseN S.pot D dt (k + 1) by rw [← HSU.out, HCL.out, if_neg (by omega)])
          go_wp2_with fail
          have hs2 := hs.setInts (j := k) 2 rfl (p + x)
          simp only [List.set_cons_zero, List.set_cons_succ] at hs2
          rw [HV.out] at hs2
          clear hs x1 x2 xf s0 s1 s2 s3 s4
          refine Round.intro (M.N - (k + 1)) ?measure13 (by kernel_rfl) (hJ1 _ _ _ ?rel13)
          case' rel13 => (try dsimp only [nthV])
          case measure13 => omega
          case rel13 => exact ⟨k + 1, by go_num, hlt, rfl, hs2⟩
    · obtain rfl : k = M.N := by omega
      go_wp2_with fail
      exact bodyPost_end (results_none rfl _ _ _) rfl ⟨⟨_, rfl⟩, hs⟩
end Go.Proofs.Ytlbpkfjebaelpaa
