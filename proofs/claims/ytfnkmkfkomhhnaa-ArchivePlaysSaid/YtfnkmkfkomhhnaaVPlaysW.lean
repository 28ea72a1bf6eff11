/-
  ArchivePlays, walked.
-/
import Derived.Test.YtfnkmkfkomhhnaaVD
namespace Go.ArchP
open Go Go.RowKit Go.Mem Go.NetP Go.CertP Go.Proofs.Ytfnkmkfkomhhnaa
/-- Two archives that keep the same. -/
def Both (w0 w : World) (b1 b2 : Nat) (L : List Thing) (vL : Value) (ks ys : List Ro) (D N : Nat) (base : World) : Prop :=
  N = D + ys.length ∧ N ≤ 4611686018427387904 ∧ GoodW ks ys D ∧ (∀ y ∈ ys, y.Ok base) ∧ Sep w0 w (refC b2 vL N :: winT roR vL ys :: arcT b1 ks (ys.length : Nat) N :: L)
/-- What the two Ofs leave. -/
def StartP (w w' : World) (va vb : Value) (B : Bool) : Prop :=
  (B = true ∧ va = .pointer none ∧ vb = .pointer none ∧ Sep w w' []) ∨
  (B = false ∧ ∃ b1 b2 vL ks ys D N, va = .pointer (some ⟨b1, 0, none⟩) ∧ vb = .pointer (some ⟨b2, 0, none⟩) ∧ Both w w' b1 b2 [] vL ks ys D N w)
theorem start_of {l : List Ro} {no : Nat} {w w1 w2 : World} {en en' : Ending} (hok : ∀ r ∈ l, r.Ok w) (h : POfP l no w en w1) (h' : ROfP l no w1 en' w2) :
    ∃ va vb B, en = .returned (.tuple #[va, .int .i64 (ofE l no)]) ∧ en' = .returned (.tuple #[vb, .int .i64 (ofE l no)]) ∧ StartP w w2 va vb B := by
  rcases h with ⟨h0, b1, ks, rfl, hg, k⟩ | ⟨h0, rfl, hb⟩
  · rcases h' with ⟨_, b2, v, rfl, k'⟩ | ⟨h1, _⟩
    · rw [h0]
      have hle : l.length ≤ no ∧ no ≤ 4611686018427387904 := by
        unfold ofE at h0
        split at h0
        · cases h0
        · split at h0
          · rename_i q
            simp only [ofB, Bool.and_eq_true, decide_eq_true_eq] at q
            exact ⟨q.1.2, q.1.1⟩
          · cases h0
      exact ⟨_, _, false, rfl, rfl, .inr ⟨rfl, b1, b2, v, ks, l, no - l.length, no, rfl, rfl, by omega, hle.2, hg, hok, k.join k'⟩⟩
    · exact absurd h0 h1
  · rcases h' with ⟨h1, _⟩ | ⟨_, rfl, hb'⟩
    · exact absurd h1 h0
    · exact ⟨_, _, true, rfl, rfl, .inl ⟨rfl, rfl, rfl, ((Sep.start w).belowStep hb).belowStep hb'⟩⟩
end Go.ArchP
namespace Go.Proofs.Ytfnkmkfkomhhnaa
open Go Go.RowKit Go.Mem Go.NetP Go.CertP Go.ArchP
set_option maxHeartbeats 8000000 in
set_option maxRecDepth 100000 in
theorem archivePlays_any (z0 : List Ro) (a1 : Int) (hw1 : (Lit.int .u64 a1).wf = true) (l : List Ro) (a3 : Int) (hw3 : (Lit.int .u64 a3).wf = true) (vf vl : Value) (w : World) (hf : RdG roR w vf z0) (hfo : ∀ r ∈ z0, r.Ok w ∧ (Lit.int .u64 r.no).wf = true) (h : RdG roR w vl l) (hlo : ∀ r ∈ l, r.Ok w ∧ (Lit.int .u64 r.no).wf = true) :
    Calls Try.prog 6 #[vf, .int .u64 a1, vl, .int .u64 a3] w fun en w' => en = .returned (.bool true) ∧ Below w.heap.size w w' := by
  obtain ⟨i0, hi0, hz0, hz1, hz2⟩ := info_parts Try.infoU64v
  obtain ⟨j0, hj0, hy0, hy1, hy2⟩ := info_parts Try.infoEdv
  obtain ⟨k0, hk0, hx0, hx1, hx2⟩ := info_parts Try.infoI64r
  have hb1 := bounds_u64 hw1
  have hb3 := bounds_u64 hw3
  obtain ⟨no, rfl⟩ : ∃ n : Nat, a1 = n := ⟨a1.toNat, by omega⟩
  obtain ⟨q, rfl⟩ : ∃ n : Nat, a3 = n := ⟨a3.toNat, by omega⟩
  have hno64 : no ≤ 18446744073709551615 := by omega
  clear hw1 hw3 hb1 hb3
  obtain ⟨a, c, rfl⟩ := h.shape
  have hle := h.le'
  have HFO := Lib.hid hfo
  have HLO := Lib.hid hlo
  have HF := Lib.hid hf
  clear hfo hlo
  go_enter Try.func6, Try.ntmps6
  go_wp2_with fail
  refine (few_any z0 vf _ hf).mono ?_
  rintro en w1 ⟨v1, rfl, hf1, rfl⟩
  rcases hf1 with rfl | ⟨rfl, _, _⟩
  · go_wp2_with fail
    refine (works_any _).mono ?_
    rintro en wz ⟨rfl, hbz⟩
    go_wp2_with fail
    go_ret
    exact ⟨rfl, hbz⟩
  go_wp2_with fail
  refine (few_any l _ _ h).mono ?_
  rintro en w2 ⟨v2, rfl, hf2, rfl⟩
  rcases hf2 with rfl | ⟨rfl, h12, hsm⟩
  · go_wp2_with fail
    refine (works_any _).mono ?_
    rintro en wz ⟨rfl, hbz⟩
    go_wp2_with fail
    go_ret
    exact ⟨rfl, hbz⟩
  have HSM := Lib.hid hsm
  clear hsm hf
  go_wp2_with fail
  refine (pof_any z0 no vf _ HF.out HFO.out).mono ?_
  rintro en w3 hp
  have hbel : Below w2.heap.size w2 w3 := by
    rcases hp with ⟨_, _, _, _, _, k⟩ | ⟨_, _, hb⟩
    · exact k.below
    · exact hb
  have RO := Lib.hid (rof_any z0 no hno64 vf w3 (HF.out.below hbel) (fun r hr => ⟨(HFO.out r hr).1.below hbel, (HFO.out r hr).2⟩))
  have hen : ∃ va, en = .returned (.tuple #[va, .int .i64 (ofE z0 no)]) := by
    rcases hp with ⟨h0, b, ks, rfl, _⟩ | ⟨_, rfl, _⟩
    · exact ⟨_, by rw [h0]⟩
    · exact ⟨_, rfl⟩
  obtain ⟨va, rfl⟩ := hen
  have HP := Lib.hid hp
  clear hp hbel
  obtain ⟨E, hE⟩ : ∃ E, E = ofE z0 no := ⟨_, rfl⟩
  rw [← hE]
  have HE := Lib.hid hE
  clear hE
  go_wp2_with fail
  refine (RO.out).mono ?_
  rintro en w4 hp'
  obtain ⟨va', vb, B, hva, hvb, hst⟩ := start_of (fun r hr => (HFO.out r hr).1) HP.out hp'
  injection hva with hva
  injection hva with hva
  injection hva with hva
  injection hva with hva _
  subst hva
  subst hvb
  rw [← HE.out]
  have HST := Lib.hid hst
  clear hst hp' RO HP
  have eE : (E != E) = false := by simp
  go_upto_region 5 with fail
  refine wp_cutM [none, none, none, none, none, none, none, none, none, none, none, none, none, none, none, none, none, none, none, none, none, none, none, none, none, none, none, none, none, none, none, none, none, none, none, none, none, none, none, none, none, none, none, none, none, some 45, some 46, some 47, some 48, some 49, some 50, some 51, some 52, some 53, some 54, none, none, none, none, none, none, none, none, none, none, none, none, none, none, none, none, none, none, none, none, none, none, none, none, none, none, none, none, none, none, none, none, none, none, none, none, none, none, none, none, none, none, none, none, none, none, none, none, none, none, none, none, none, none, none, none, none, none, none, none, none, none, none, none, none, none, none, none, none, none, none, none, none, none, none, none, none, none, none, none, none, none, none, none, none, none, none, none, none, none, none, none, none, none, none, none, none, none, none, none, none, none, none, none, none, none, none, none, none, none, none, none, none, none, none, none, none, none] (fun (f : Nat → Value) (wq : World) => (fun (vt : Value) => vt = .bool false ∧ wq = w4) (f 54)) ?first1 ?rest1
  case' first1 => intro JC KC hJC hKC
  case' rest1 =>
    intro f wr l hl hrel
    (try simp only [mask] at hl)
    generalize f 54 = u54 at hl hrel
    subst hl
    (try dsimp only at hrel)
  case first1 =>
    rcases HST.out with ⟨rfl, rfl, rfl, _⟩ | ⟨rfl, b1, b2, vL, ks, ys, D, N, rfl, rfl, _⟩
    · go_wp2_with fail
      refine Meet.intro (by kernel_rfl) (hJC _ _ ?rel2)
      case' rel2 => (try dsimp only [nthV])
      exact ⟨rfl, rfl⟩
    · go_wp2_with fail
      refine Meet.intro (by kernel_rfl) (hJC _ _ ?rel3)
      case' rel3 => (try dsimp only [nthV])
      exact ⟨rfl, rfl⟩
  case rest1 =>
    obtain ⟨rfl, rfl⟩ := hrel
    go_upto_region 7 with fail
    refine wp_cutM [none, none, none, none, none, none, none, none, none, none, none, none, none, none, none, none, none, none, none, none, none, none, none, none, none, none, none, none, none, none, none, none, none, none, none, none, none, none, none, none, none, none, none, none, none, none, none, none, none, none, none, none, none, none, none, some 55, some 56, none, none, none, none, none, none, none, none, none, none, none, none, none, none, none, none, none, none, none, none, none, none, none, none, none, none, none, none, none, none, none, none, none, none, none, none, none, none, none, none, none, none, none, none, none, none, none, none, none, none, none, none, none, none, none, none, none, none, none, none, none, none, none, none, none, none, none, none, none, none, none, none, none, none, none, none, none, none, none, none, none, none, none, none, none, none, none, none, none, none, none, none, none, none, none, none, none, none, none, none, none, none, none, none, none, none, none, none, none, none, none, none, none, none, none, none] (fun (f : Nat → Value) (wq : World) => (fun (vt : Value) => vt = .bool B ∧ wq = wr) (f 56)) ?first4 ?rest4
    case' first4 => intro JC KC hJC hKC
    case' rest4 =>
      intro f wr l hl hrel
      (try simp only [mask] at hl)
      generalize f 56 = u56 at hl hrel
      subst hl
      (try dsimp only at hrel)
    case first4 =>
      rcases HST.out with ⟨rfl, rfl, rfl, _⟩ | ⟨rfl, b1, b2, vL, ks, ys, D, N, rfl, rfl, _⟩
      · go_wp2_with fail
        refine Meet.intro (by kernel_rfl) (hJC _ _ ?rel5)
        case' rel5 => (try dsimp only [nthV])
        exact ⟨rfl, rfl⟩
      · go_wp2_with fail
        refine Meet.intro (by kernel_rfl) (hJC _ _ ?rel6)
        case' rel6 => (try dsimp only [nthV])
        exact ⟨rfl, rfl⟩
    case rest4 =>
      obtain ⟨rfl, rfl⟩ := hrel
      go_upto_if 56 with fail
      refine wp_cutM [none, none, none, none, none, none, none, none, none, some 9, none, some 11, none, none, none, none, none, none, none, none, none, none, none, none, none, none, none, none, none, none, none, none, none, none, none, none, none, none, none, none, none, none, none, none, none, none, none, none, none, none, none, none, none, none, none, none, none, some 57, some 58, some 59, none, none, none, none, none, none, none, none, none, none, none, none, none, none, none, none, none, none, none, none, none, none, none, none, none, none, none, none, none, none, none, none, none, none, none, none, none, none, none, none, none, none, none, none, none, none, none, none, none, none, none, none, none, none, none, none, none, none, none, none, none, none, none, none, none, none, none, none, none, none, none, none, none, none, none, none, none, none, none, none, none, none, none, none, none, none, none, none, none, none, none, none, none, none, none, none, none, none, none, none, none, none, none, none, none, none, none, none, none, none, none, none, none] (fun (f : Nat → Value) (wq : World) => (fun (va2 vb2 : Value) => ∃ (b1 b2 : Nat) (vL : Value) (ks ys : List Ro) (D N : Nat), va2 = .pointer (some ⟨b1, 0, none⟩) ∧ vb2 = .pointer (some ⟨b2, 0, none⟩) ∧ Both w2 wq b1 b2 [] vL ks ys D N w2) (f 9) (f 11)) ?first7 ?rest7
      case' first7 => intro JC KC hJC hKC
      case' rest7 =>
        intro f wr l hl hrel
        (try simp only [mask] at hl)
        generalize f 9 = u9 at hl hrel
        generalize f 11 = u11 at hl hrel
        subst hl
        (try dsimp only at hrel)
      case first7 =>
        rcases HST.out with ⟨rfl, rfl, rfl, hs⟩ | ⟨rfl, b1, b2, vL, ks, ys, D, N, rfl, rfl, hB⟩
        · go_wp2_with fail
          refine (new_any _).mono ?_
          rintro en w5 ⟨b1, rfl, k1⟩
          have hs3 := ((hs.join k1).nilWin roR).newCells #[.slice none 0 0, .int .u64 0] 55
          go_wp2_with fail
          refine Meet.intro (by kernel_rfl) (hJC _ _ ?rel8)
          case' rel8 => (try dsimp only [nthV])
          exact ⟨_, _, _, _, [], 0, 0, rfl, rfl, rfl, by omega, goodW_start, by simp, hs3⟩
        · have HB0 := Lib.hid hB
          clear hB
          go_wp2_with fail
          refine Meet.intro (by kernel_rfl) (hJC _ _ ?rel9)
          case' rel9 => (try dsimp only [nthV])
          exact ⟨b1, b2, vL, ks, ys, D, N, rfl, rfl, HB0.out⟩
      case rest7 =>
        obtain ⟨b1, b2, vL0, ks0, ys0, D0, N0, rfl, rfl, hB⟩ := hrel
        have HB0 := Lib.hid hB
        clear hB HST
        go_wp2_with fail
        refine wp_loopM [none, none, none, none, none, none, none, none, some 8, none, none, none, none, some 13, some 14, some 15, some 16, some 17, some 18, some 19, some 20, some 21, some 22, some 23, none, none, none, none, none, none, none, none, none, none, none, none, none, none, none, none, none, none, none, none, none, none, none, none, none, none, none, none, none, none, none, none, none, none, none, none, some 60, some 61, some 62, some 63, some 64, some 65, some 66, some 67, some 68, some 69, some 70, some 71, some 72, some 73, some 74, some 75, some 76, some 77, some 78, some 79, some 80, some 81, some 82, some 83, some 84, some 85, some 86, some 87, some 88, some 89, some 90, some 91, some 92, some 93, some 94, some 95, some 96, some 97, some 98, some 99, some 100, some 101, some 102, some 103, some 104, some 105, some 106, some 107, some 108, some 109, some 110, some 111, some 112, some 113, some 114, some 115, some 116, some 117, some 118, some 119, some 120, some 121, some 122, some 123, some 124, some 125, some 126, some 127, some 128, some 129, some 130, some 131, some 132, some 133, some 134, some 135, some 136, some 137, some 138, some 139, some 140, some 141, some 142, some 143, some 144, some 145, some 146, some 147, some 148, some 149, some 150, some 151, some 152, some 153, some 154, some 155, some 156, some 157, some 158, some 159, some 160, some 161, some 162, some 163, some 164, some 165, some 166, some 167, some 168, some 169, some 170, some 171, none] (fun (r : Nat) (f : Nat → Value) (wr : World) => (fun (v : Value) => ∃ (i D N : Nat) (ks ys : List Ro) (vL : Value), v = .int .i64 i ∧ i ≤ l.length ∧ r = l.length - i ∧ Hid (Both w2 wr b1 b2 [] vL ks ys D N w2)) (f 13)) (l.length) (by kernel_rfl) ?atStart10 ?round10
        case' atStart10 => (try dsimp only [nthV])
        case' round10 =>
          intro gk f wr l hl hrel J1 K1 hJ1 hK1
          (try simp only [mask] at hl)
          generalize f 13 = u13 at hl hrel
          subst hl
          (try dsimp only at hrel)
        case atStart10 => exact ⟨0, D0, N0, ks0, ys0, vL0, rfl, Nat.zero_le _, rfl, HB0⟩
        case round10 =>
          clear HB0
          obtain ⟨i, D, N, ks, ys, vL, rfl, hi, rfl, HB⟩ := hrel
          obtain ⟨hN, hNl, hg, hyo, hs⟩ := HB.out
          by_cases hlt : i < l.length
          rotate_left
          · go_wp2_with fail
            refine (works_any _).mono ?_
            rintro en wz ⟨rfl, hbz⟩
            go_wp2_with fail
            go_ret
            exact ⟨rfl, (hs.belowStep hbz).below⟩
          have HN := Lib.hid hN
          have HG := Lib.hid hg
          have HYO := Lib.hid hyo
          clear hN hg hyo HB
          obtain ⟨bx, ox, ex, hbx, hcx⟩ := h.at i hlt
          subst ex
          have hx1 := (HLO.out _ (List.getElem_mem hlt)).1
          have hx2 := HSM.out _ (List.getElem_mem hlt)
          generalize l[i] = x at hcx hx1 hx2
          have HXO := Lib.hid hx1
          obtain ⟨sm1, sm2, sm3, sm4⟩ := hx2
          obtain ⟨xno, xday, xcomp, ai, ci, ids, xn, ae, ce, es, af, cf, fl, ap, cp, pot⟩ := x
          dsimp only at sm1 sm2 sm3 sm4
          have FSc := Lib.hid (fun (W : World) (L : List Thing) (hs : Sep w2 W L) => (fun j hj => (hs.cell hbx).trans (hcx j hj) : ∀ j, j < 8 → W.cell? ⟨bx, ox + i * 8 + j, none⟩ = (roR.cells ⟨xno, xday, xcomp, ai, ci, ids, xn, ae, ce, es, af, cf, fl, ap, cp, pot⟩)[j]?))
          obtain ⟨X, hX⟩ : ∃ X : Ro, X = ⟨xno, xday, xcomp, ai, ci, ids, xn, ae, ce, es, af, cf, fl, ap, cp, pot⟩ := ⟨_, rfl⟩
          have HX := Lib.hid hX
          have HXK := Lib.hid (show X.Ok w2 by rw [hX]; exact hx1)
          obtain ⟨rd1, rd2, rd3, rd4⟩ := hx1
          have RD1 := Lib.hid rd1
          have RD2 := Lib.hid rd2
          have RD3 := Lib.hid rd3
          have RD4 := Lib.hid rd4
          clear hcx hX rd1 rd2 rd3 rd4
          have x8 := FSc.out _ _ hs
          have x0 := x8 0 (by decide)
          have x1 := x8 1 (by decide)
          have x2 := x8 2 (by decide)
          have x3 := x8 3 (by decide)
          have x4 := x8 4 (by decide)
          have x5 := x8 5 (by decide)
          have x6 := x8 6 (by decide)
          have x7 := x8 7 (by decide)
          simp only [roR, Nat.add_zero, List.getElem?_cons_zero, List.getElem?_cons_succ] at x0 x1 x2 x3 x4 x5 x6 x7
          clear x8
          have hs1 := hs.newCells #[.int .u64 xno, .int .i64 xday, .bool xcomp, .slice ai ids.length ci, .int .i64 xn, .slice ae es.length ce, .slice af fl.length cf, .slice ap pot.length cp] 39
          obtain ⟨BX, hBX⟩ : ∃ BX, BX = wr.heap.size := ⟨_, rfl⟩
          go_upto_region 14 with fail
          rw [← hBX] at hs1 ⊢
          generalize World.alloc wr _ = W1 at hs1 ⊢
          clear hs hBX x0 x1 x2 x3 x4 x5 x6 x7
          -- the four lists, each copied
          have hs2 := hs1.litInts .u64 27 [] (by simp [maxLen])
          simp only [List.map_cons, List.map_nil, List.length_cons, List.length_nil, Nat.reduceAdd, World.size_alloc] at hs2
          have z0 := cell_of (hs2.cells 1 rfl) 0
          have z1 := cell_of (hs2.cells 1 rfl) 1
          have z2 := cell_of (hs2.cells 1 rfl) 2
          have z3 := cell_of (hs2.cells 1 rfl) 3
          have z4 := cell_of (hs2.cells 1 rfl) 4
          have z5 := cell_of (hs2.cells 1 rfl) 5
          have z6 := cell_of (hs2.cells 1 rfl) 6
          have z7 := cell_of (hs2.cells 1 rfl) 7
          simp only [List.getElem?_toArray, List.getElem?_cons_zero, List.getElem?_cons_succ] at z0 z1 z2 z3 z4 z5 z6 z7
          go_wp2_with (at_builtin; refine wpList_appRd rfl (.tmp 70) (.tmp 72) 31 rfl 27 i0 _ 8 Try.underlying31 hi0 hz0 hz1 hz2 rfl _ [] .u64 _ ids hs2 0 rfl (RD1.out.below hs2.below) rfl rfl ?a1 ?a2 ?g1)
          case a1 => (try simp only [List.length_nil]); unfold maxLen; omega
          case a2 => (try simp only [List.length_nil]); omega
          case g1 =>
            intro v' w5 hs3
            (try simp only [List.set_cons_zero, List.nil_append] at hs3)
            obtain ⟨ai', ci', rfl⟩ := (hs3.rdInts 0 rfl).shape
            clear hs1 hs2 z0 z1 z2 z3 z4 z5 z6 z7
            have z0 := cell_of (hs3.cells 1 rfl) 0
            have z1 := cell_of (hs3.cells 1 rfl) 1
            have z2 := cell_of (hs3.cells 1 rfl) 2
            have z3 := cell_of (hs3.cells 1 rfl) 3
            have z4 := cell_of (hs3.cells 1 rfl) 4
            have z5 := cell_of (hs3.cells 1 rfl) 5
            have z6 := cell_of (hs3.cells 1 rfl) 6
            have z7 := cell_of (hs3.cells 1 rfl) 7
            simp only [List.getElem?_toArray, List.getElem?_cons_zero, List.getElem?_cons_succ] at z0 z1 z2 z3 z4 z5 z6 z7
            have qf := fun j => frozen_of (hs3.cells 1 rfl) j
            have hs4 := hs3.setC 1 rfl 3 (.slice ai' ids.length ci') #[.int .u64 xno, .int .i64 xday, .bool xcomp, .slice ai' ids.length ci', .int .i64 xn, .slice ae es.length ce, .slice af fl.length cf, .slice ap pot.length cp] rfl
            simp only [List.set_cons_succ, List.set_cons_zero] at hs4
            go_upto_region 15 with fail
            clear z0 z1 z2 z3 z4 z5 z6 z7 qf hs3
            generalize World.setCell w5 _ _ = W2 at hs4 ⊢
            have hs5 := hs4.litRecs edR 70 [] (by simp [maxLen])
            simp only [List.length_nil, Rec.flat, List.flatMap_nil] at hs5
            have z0 := cell_of (hs5.cells 2 rfl) 0
            have z1 := cell_of (hs5.cells 2 rfl) 1
            have z2 := cell_of (hs5.cells 2 rfl) 2
            have z3 := cell_of (hs5.cells 2 rfl) 3
            have z4 := cell_of (hs5.cells 2 rfl) 4
            have z5 := cell_of (hs5.cells 2 rfl) 5
            have z6 := cell_of (hs5.cells 2 rfl) 6
            have z7 := cell_of (hs5.cells 2 rfl) 7
            simp only [List.getElem?_toArray, List.getElem?_cons_zero, List.getElem?_cons_succ] at z0 z1 z2 z3 z4 z5 z6 z7
            go_wp2_with (at_builtin; refine wpList_appRdG edR rfl (.tmp 75) (.tmp 78) 32 rfl 70 j0 _ 32 Try.underlying32 hj0 hy0 hy1 hy2 rfl _ [] _ es hs5 0 rfl (RD2.out.below hs5.below) rfl rfl ?a3 ?a4 ?g2)
            case a3 => (try simp only [List.length_nil]); unfold maxLen; omega
            case a4 => (try simp only [List.length_nil]); omega
            case g2 =>
              intro v' w6 hs6
              (try simp only [List.set_cons_zero, List.nil_append] at hs6)
              obtain ⟨ae', ce', rfl⟩ := (hs6.rdRecs 0 rfl).shape
              clear hs4 hs5 z0 z1 z2 z3 z4 z5 z6 z7
              have z0 := cell_of (hs6.cells 2 rfl) 0
              have z1 := cell_of (hs6.cells 2 rfl) 1
              have z2 := cell_of (hs6.cells 2 rfl) 2
              have z3 := cell_of (hs6.cells 2 rfl) 3
              have z4 := cell_of (hs6.cells 2 rfl) 4
              have z5 := cell_of (hs6.cells 2 rfl) 5
              have z6 := cell_of (hs6.cells 2 rfl) 6
              have z7 := cell_of (hs6.cells 2 rfl) 7
              simp only [List.getElem?_toArray, List.getElem?_cons_zero, List.getElem?_cons_succ] at z0 z1 z2 z3 z4 z5 z6 z7
              have qf := fun j => frozen_of (hs6.cells 2 rfl) j
              have hs7 := hs6.setC 2 rfl 5 (.slice ae' es.length ce') #[.int .u64 xno, .int .i64 xday, .bool xcomp, .slice ai' ids.length ci', .int .i64 xn, .slice ae' es.length ce', .slice af fl.length cf, .slice ap pot.length cp] rfl
              simp only [List.set_cons_succ, List.set_cons_zero] at hs7
              go_upto_region 16 with fail
              clear z0 z1 z2 z3 z4 z5 z6 z7 qf hs6
              generalize World.setCell w6 _ _ = W3 at hs7 ⊢
              have hs8 := hs7.litInts .i64 2 [] (by simp [maxLen])
              simp only [List.map_cons, List.map_nil, List.length_cons, List.length_nil, Nat.reduceAdd, World.size_alloc] at hs8
              have z0 := cell_of (hs8.cells 3 rfl) 0
              have z1 := cell_of (hs8.cells 3 rfl) 1
              have z2 := cell_of (hs8.cells 3 rfl) 2
              have z3 := cell_of (hs8.cells 3 rfl) 3
              have z4 := cell_of (hs8.cells 3 rfl) 4
              have z5 := cell_of (hs8.cells 3 rfl) 5
              have z6 := cell_of (hs8.cells 3 rfl) 6
              have z7 := cell_of (hs8.cells 3 rfl) 7
              simp only [List.getElem?_toArray, List.getElem?_cons_zero, List.getElem?_cons_succ] at z0 z1 z2 z3 z4 z5 z6 z7
              go_wp2_with (at_builtin; refine wpList_appRd rfl (.tmp 82) (.tmp 85) 35 rfl 2 k0 _ 8 Try.underlying35 hk0 hx0 hx1 hx2 rfl _ [] .i64 _ fl hs8 0 rfl (RD3.out.below hs8.below) rfl rfl ?a5 ?a6 ?g3)
              case a5 => (try simp only [List.length_nil]); unfold maxLen; omega
              case a6 => (try simp only [List.length_nil]); omega
              case g3 =>
                intro v' w7 hs9
                (try simp only [List.set_cons_zero, List.nil_append] at hs9)
                obtain ⟨af', cf', rfl⟩ := (hs9.rdInts 0 rfl).shape
                clear hs7 hs8 z0 z1 z2 z3 z4 z5 z6 z7
                have z0 := cell_of (hs9.cells 3 rfl) 0
                have z1 := cell_of (hs9.cells 3 rfl) 1
                have z2 := cell_of (hs9.cells 3 rfl) 2
                have z3 := cell_of (hs9.cells 3 rfl) 3
                have z4 := cell_of (hs9.cells 3 rfl) 4
                have z5 := cell_of (hs9.cells 3 rfl) 5
                have z6 := cell_of (hs9.cells 3 rfl) 6
                have z7 := cell_of (hs9.cells 3 rfl) 7
                simp only [List.getElem?_toArray, List.getElem?_cons_zero, List.getElem?_cons_succ] at z0 z1 z2 z3 z4 z5 z6 z7
                have qf := fun j => frozen_of (hs9.cells 3 rfl) j
                have hs10 := hs9.setC 3 rfl 6 (.slice af' fl.length cf') #[.int .u64 xno, .int .i64 xday, .bool xcomp, .slice ai' ids.length ci', .int .i64 xn, .slice ae' es.length ce', .slice af' fl.length cf', .slice ap pot.length cp] rfl
                simp only [List.set_cons_succ, List.set_cons_zero] at hs10
                go_upto_region 17 with fail
                clear z0 z1 z2 z3 z4 z5 z6 z7 qf hs9
                generalize World.setCell w7 _ _ = W4 at hs10 ⊢
                have hs11 := hs10.litInts .i64 2 [] (by simp [maxLen])
                simp only [List.map_cons, List.map_nil, List.length_cons, List.length_nil, Nat.reduceAdd, World.size_alloc] at hs11
                have z0 := cell_of (hs11.cells 4 rfl) 0
                have z1 := cell_of (hs11.cells 4 rfl) 1
                have z2 := cell_of (hs11.cells 4 rfl) 2
                have z3 := cell_of (hs11.cells 4 rfl) 3
                have z4 := cell_of (hs11.cells 4 rfl) 4
                have z5 := cell_of (hs11.cells 4 rfl) 5
                have z6 := cell_of (hs11.cells 4 rfl) 6
                have z7 := cell_of (hs11.cells 4 rfl) 7
                simp only [List.getElem?_toArray, List.getElem?_cons_zero, List.getElem?_cons_succ] at z0 z1 z2 z3 z4 z5 z6 z7
                go_wp2_with (at_builtin; refine wpList_appRd rfl (.tmp 89) (.tmp 92) 35 rfl 2 k0 _ 8 Try.underlying35 hk0 hx0 hx1 hx2 rfl _ [] .i64 _ pot hs11 0 rfl (RD4.out.below hs11.below) rfl rfl ?a7 ?a8 ?g4)
                case a7 => (try simp only [List.length_nil]); unfold maxLen; omega
                case a8 => (try simp only [List.length_nil]); omega
                case g4 =>
                  intro v' w8 hs12
                  (try simp only [List.set_cons_zero, List.nil_append] at hs12)
                  obtain ⟨ap', cp', rfl⟩ := (hs12.rdInts 0 rfl).shape
                  clear hs10 hs11 z0 z1 z2 z3 z4 z5 z6 z7
                  have z0 := cell_of (hs12.cells 4 rfl) 0
                  have z1 := cell_of (hs12.cells 4 rfl) 1
                  have z2 := cell_of (hs12.cells 4 rfl) 2
                  have z3 := cell_of (hs12.cells 4 rfl) 3
                  have z4 := cell_of (hs12.cells 4 rfl) 4
                  have z5 := cell_of (hs12.cells 4 rfl) 5
                  have z6 := cell_of (hs12.cells 4 rfl) 6
                  have z7 := cell_of (hs12.cells 4 rfl) 7
                  simp only [List.getElem?_toArray, List.getElem?_cons_zero, List.getElem?_cons_succ] at z0 z1 z2 z3 z4 z5 z6 z7
                  have qf := fun j => frozen_of (hs12.cells 4 rfl) j
                  have hs13 := hs12.setC 4 rfl 7 (.slice ap' pot.length cp') #[.int .u64 xno, .int .i64 xday, .bool xcomp, .slice ai' ids.length ci', .int .i64 xn, .slice ae' es.length ce', .slice af' fl.length cf', .slice ap' pot.length cp'] rfl
                  simp only [List.set_cons_succ, List.set_cons_zero] at hs13
                  go_upto_region 18 with fail
                  clear z0 z1 z2 z3 z4 z5 z6 z7 qf hs12
                  generalize World.setCell w8 _ _ = W5 at hs13 ⊢
                  have z0 := cell_of (hs13.cells 4 rfl) 0
                  have z1 := cell_of (hs13.cells 4 rfl) 1
                  have z2 := cell_of (hs13.cells 4 rfl) 2
                  have z3 := cell_of (hs13.cells 4 rfl) 3
                  have z4 := cell_of (hs13.cells 4 rfl) 4
                  have z5 := cell_of (hs13.cells 4 rfl) 5
                  have z6 := cell_of (hs13.cells 4 rfl) 6
                  have z7 := cell_of (hs13.cells 4 rfl) 7
                  simp only [List.getElem?_toArray, List.getElem?_cons_zero, List.getElem?_cons_succ] at z0 z1 z2 z3 z4 z5 z6 z7
                  have HOKr := Lib.hid (show Ro.Ok W5 ⟨xno, xday, xcomp, ai', ci', ids, xn, ae', ce', es, af', cf', fl, ap', cp', pot⟩ from ⟨hs13.rdInts 3 rfl, hs13.rdRecs 2 rfl, hs13.rdInts 1 rfl, hs13.rdInts 0 rfl⟩)
                  have ADD := Lib.hid (add_all hs13 7 b1 ks ys D N rfl HG.out HN.out ⟨xno, xday, xcomp, ai', ci', ids, xn, ae', ce', es, af', cf', fl, ap', cp', pot⟩ X (by rw [HX.out]; rfl) HOKr.out)
                  dsimp only [Ro.val] at ADD
                  obtain ⟨AN, hAN⟩ : ∃ AN, AN = addN X.co N := ⟨_, rfl⟩
                  obtain ⟨AE, hAE⟩ : ∃ AE, AE = addE X.co N := ⟨_, rfl⟩
                  rw [← hAN, ← hAE] at ADD
                  have HAN := Lib.hid hAN
                  have HAE := Lib.hid hAE
                  clear hAN hAE
                  go_wp2_with fail
                  refine (ADD.out).mono ?_
                  rintro en w9 ⟨rfl, ks2, hg2, hs14⟩
                  simp only [List.set_cons_succ, List.set_cons_zero] at hs14
                  have HG2 := Lib.hid hg2
                  clear ADD hs13 HOKr hg2 z0 z1 z2 z3 z4 z5 z6 z7
                  have hs15 := (hs14.front 6 rfl).front 6 rfl
                  simp only [List.eraseIdx_cons_succ, List.eraseIdx_cons_zero] at hs15
                  have RADD := Lib.hid (radd_all hs15 X (HXK.out.sep hs14) HG.out.le)
                  rw [← HAN.out, ← HAE.out, show X.val = .agg #[.int .u64 xno, .int .i64 xday, .bool xcomp, .slice ai ids.length ci, .int .i64 xn, .slice ae es.length ce, .slice af fl.length cf, .slice ap pot.length cp] by rw [HX.out]; rfl] at RADD
                  have x8 := FSc.out _ _ hs14
                  have x0 := x8 0 (by decide)
                  have x1 := x8 1 (by decide)
                  have x2 := x8 2 (by decide)
                  have x3 := x8 3 (by decide)
                  have x4 := x8 4 (by decide)
                  have x5 := x8 5 (by decide)
                  have x6 := x8 6 (by decide)
                  have x7 := x8 7 (by decide)
                  simp only [roR, Nat.add_zero, List.getElem?_cons_zero, List.getElem?_cons_succ] at x0 x1 x2 x3 x4 x5 x6 x7
                  clear x8
                  clear hs14 hs15
                  go_wp2_with fail
                  refine (RADD.out).mono ?_
                  rintro en w10 ⟨rfl, vL2, hs⟩
                  clear RADD x0 x1 x2 x3 x4 x5 x6 x7
                  have eAN : (AN != AN) = false := by simp
                  have eAE : (AE != AE) = false := by simp
                  have HN2 := Lib.hid (next_sum (x := X) HN.out HG.out.le)
                  have HNL2 := Lib.hid (next_le X.co N hNl)
                  have HYO2 := Lib.hid (next_ok (N := N) HYO.out HXK.out)
                  obtain ⟨YS, hYS⟩ : ∃ YS, YS = nextY ys X N := ⟨_, rfl⟩
                  obtain ⟨DD, hDD⟩ : ∃ DD, DD = nextD ys D X N := ⟨_, rfl⟩
                  obtain ⟨NN, hNN⟩ : ∃ NN, NN = nextN X.co N := ⟨_, rfl⟩
                  rw [← hYS, ← hNN] at hs
                  rw [← hYS, ← hDD] at HG2
                  rw [← hYS, ← hDD, ← hNN] at HN2
                  rw [← hNN] at HNL2
                  rw [← hYS] at HYO2
                  clear hYS hDD hNN HN HG HYO hNl HAN HAE
                  have c6 := cell_of (hs.cells 6 rfl) 6
                  simp only [List.getElem?_toArray, List.getElem?_cons_zero, List.getElem?_cons_succ] at c6
                  go_wp2_with fail
                  refine wp_loopM [none, none, none, none, none, none, none, none, none, none, none, none, none, none, none, none, none, none, none, some 19, none, none, none, none, none, none, none, none, none, none, none, none, none, none, none, none, none, none, none, none, none, none, none, none, none, none, none, none, none, none, none, none, none, none, none, none, none, none, none, none, none, none, none, none, none, none, none, none, none, none, none, none, none, none, none, none, none, none, none, none, none, none, none, none, none, none, none, none, none, none, none, none, none, none, none, none, none, none, none, none, none, none, none, none, none, none, none, none, none, none, none, none, none, none, none, none, none, none, none, some 119, some 120, some 121, some 122, some 123, some 124, some 125, some 126, some 127, some 128, some 129, some 130, some 131, none, none, none, none, none, none, none, none, none, none, none, none, none, none, none, none, none, none, none, none, none, none, none, none, none, none, none, none, none, none, none, none, none, none, none, none, none, none, none, none, none] (fun (r2 : Nat) (f : Nat → Value) (wq : World) => (fun (v : Value) => ∃ (k : Nat) (FL : List Int), v = .int .i64 k ∧ k ≤ fl.length ∧ r2 = fl.length - k ∧ FL.length = fl.length ∧ Sep w2 wq [refC b2 vL2 NN, winT roR vL2 YS, intsT .i64 2 (.slice ap' pot.length cp') pot, intsT .i64 2 (.slice af' fl.length cf') FL, recT edR 70 (.slice ae' es.length ce') es, intsT .u64 27 (.slice ai' ids.length ci') ids, cellsT BX #[.int .u64 xno, .int .i64 xday, .bool xcomp, .slice ai' ids.length ci', .int .i64 xn, .slice ae' es.length ce', .slice af' fl.length cf', .slice ap' pot.length cp'] 39, arcT b1 ks2 (YS.length : Nat) NN]) (f 19)) (fl.length) (by kernel_rfl) ?atStart11 ?round11
                  case' atStart11 => (try dsimp only [nthV])
                  case' round11 =>
                    intro gk f wr l hl hrel J2 K2 hJ2 hK2
                    (try simp only [mask] at hl)
                    generalize f 19 = u19 at hl hrel
                    subst hl
                    (try dsimp only at hrel)
                  case atStart11 => exact ⟨0, fl, rfl, Nat.zero_le _, rfl, rfl, hs⟩
                  case round11 =>
                    clear hs c6
                    obtain ⟨k, FL, rfl, hk, rfl, hFL, hs⟩ := hrel
                    have HFL := Lib.hid hFL
                    clear hFL
                    have c6 := cell_of (hs.cells 6 rfl) 6
                    simp only [List.getElem?_toArray, List.getElem?_cons_zero, List.getElem?_cons_succ] at c6
                    by_cases hkf : k < fl.length
                    · obtain ⟨g, cg, eg, hgl, hcR, hfr⟩ := (hs.ints 3 rfl).get k (by rw [HFL.out]; exact hkf)
                      injection eg with eg q1 q2
                      subst eg
                      have r0 := hcR k (by rw [HFL.out]; exact hkf)
                      clear q1 q2 hcR hgl
                      go_wp2_with fail
                      have hs2 := hs.setInts (j := k) 3 rfl 77
                      simp only [List.set_cons_succ, List.set_cons_zero] at hs2
                      refine Round.intro (fl.length - (k + 1)) ?measure12 (by kernel_rfl) (hJ2 _ _ _ ?rel12)
                      case' rel12 => (try dsimp only [nthV])
                      case measure12 => omega
                      case rel12 => exact ⟨k + 1, _, by go_num, hkf, rfl, by rw [List.length_set]; exact HFL.out, hs2⟩
                    · have GB := get_both (q := q) (Sep.arch (i := 7) hs rfl).1 HG2.out HN2.out HNL2.out (Sep.arch (i := 7) hs rfl).2
                      obtain ⟨BQ, hBQ⟩ : ∃ BQ, BQ = inQ DD YS.length q := ⟨_, rfl⟩
                      rw [← hBQ] at GB
                      have HGB := Lib.hid GB
                      have HBQ := Lib.hid hBQ
                      have eBQ : (BQ != BQ) = false := by simp
                      clear GB hBQ
                      go_wp2_with fail
                      refine (HGB.out).mono ?_
                      rintro en w11 ⟨r1, rfl, hc1, ho1, hb1⟩
                      replace hs := hs.belowStep hb1
                      clear HGB hb1 c6
                      have HO1 := Lib.hid (ho1.below ((Below.refl _ w11).alloc (Nat.le_refl _) (.cells (roR.cells r1).toArray 39)))
                      have HC1 := Lib.hid hc1
                      obtain ⟨S1, hS1⟩ : ∃ S1, S1 = r1 := ⟨_, rfl⟩
                      rw [← hS1] at HC1
                      have HS1 := Lib.hid hS1
                      clear hc1 ho1 hS1
                      obtain ⟨uno, uday, ucomp, uq1, ut1, uids, un, uq2, ut2, ues, uq3, ut3, ufl, uq4, ut4, upot⟩ := r1
                      dsimp only [Ro.val, roR] at HO1 ⊢
                      have hsA := hs.newCells #[.int .u64 uno, .int .i64 uday, .bool ucomp, .slice uq1 uids.length ut1, .int .i64 un, .slice uq2 ues.length ut2, .slice uq3 ufl.length ut3, .slice uq4 upot.length ut4] 39
                      have RGB := rget_both (q := q) (hsA.cells 1 rfl) (hsA.rdWin 2 rfl) HG2.out HN2.out (fun y hy => (HYO2.out y hy).sep hsA)
                      rw [← HBQ.out] at RGB
                      have HRGB := Lib.hid RGB
                      clear RGB hs
                      go_wp2_with fail
                      refine (HRGB.out).mono ?_
                      rintro en w12 ⟨r2, rfl, hc2, ho2, hb2⟩
                      replace hsA := hsA.belowStep hb2
                      have HO1b := Lib.hid ((HO1.out.below hb2).below ((Below.refl _ w12).alloc (Nat.le_refl _) (.cells (roR.cells r2).toArray 39)))
                      have HO2 := Lib.hid (ho2.below ((Below.refl _ w12).alloc (Nat.le_refl _) (.cells (roR.cells r2).toArray 39)))
                      have HCC := Lib.hid (HC1.out.trans hc2.symm)
                      rw [HS1.out] at HCC
                      clear HRGB hb2 hc2 ho2 HO1 HC1 HS1
                      obtain ⟨vno, vday, vcomp, vq1, vt1, vids, vn, vq2, vt2, ves, vq3, vt3, vfl, vq4, vt4, vpot⟩ := r2
                      dsimp only [Ro.val, roR] at HO1b HO2 HCC ⊢
                      have hsB := (hsA.newCells #[.int .u64 vno, .int .i64 vday, .bool vcomp, .slice vq1 vids.length vt1, .int .i64 vn, .slice vq2 ves.length vt2, .slice vq3 vfl.length vt3, .slice vq4 vpot.length vt4] 39).drew
                      clear hsA
                      obtain ⟨av, cv, rfl⟩ := (hsB.rdWin 3 rfl).shape
                      have SS := Lib.hid (same_same ⟨uno, uday, ucomp, uq1, ut1, uids, un, uq2, ut2, ues, uq3, ut3, ufl, uq4, ut4, upot⟩ ⟨vno, vday, vcomp, vq1, vt1, vids, vn, vq2, vt2, ves, vq3, vt3, vfl, vq4, vt4, vpot⟩ HCC.out _ (HO1b.out.below (Sep.start _).drew.below) (HO2.out.below (Sep.start _).drew.below))
                      dsimp only [Ro.val] at SS
                      have y0 := cell_of (hsB.cells 1 rfl) 0
                      have y1 := cell_of (hsB.cells 1 rfl) 1
                      have y2 := cell_of (hsB.cells 1 rfl) 2
                      have y3 := cell_of (hsB.cells 1 rfl) 3
                      have y4 := cell_of (hsB.cells 1 rfl) 4
                      have y5 := cell_of (hsB.cells 1 rfl) 5
                      have y6 := cell_of (hsB.cells 1 rfl) 6
                      have y7 := cell_of (hsB.cells 1 rfl) 7
                      simp only [List.getElem?_toArray, List.getElem?_cons_zero, List.getElem?_cons_succ] at y0 y1 y2 y3 y4 y5 y6 y7
                      have z0 := cell_of (hsB.cells 0 rfl) 0
                      have z1 := cell_of (hsB.cells 0 rfl) 1
                      have z2 := cell_of (hsB.cells 0 rfl) 2
                      have z3 := cell_of (hsB.cells 0 rfl) 3
                      have z4 := cell_of (hsB.cells 0 rfl) 4
                      have z5 := cell_of (hsB.cells 0 rfl) 5
                      have z6 := cell_of (hsB.cells 0 rfl) 6
                      have z7 := cell_of (hsB.cells 0 rfl) 7
                      simp only [List.getElem?_toArray, List.getElem?_cons_zero, List.getElem?_cons_succ] at z0 z1 z2 z3 z4 z5 z6 z7
                      have hCW := (show (fun W : World => W.cell? ⟨b2, 0, none⟩ = some (.slice av YS.length cv) ∧ W.cell? ⟨b2, 1, none⟩ = some (.int .u64 NN)) _ from ⟨cell_of (hsB.cells 2 rfl) 0, cell_of (hsB.cells 2 rfl) 1⟩)
                      go_wp2_with fail
                      refine Mix.region [0, 0, 0, 0, 0, 0, 2, 0, 0, 0, 0, 2, 1, 1, 1, 1, 2, 0, 0, 0, 0, 2, 1, 1, 1, 1, 0, 0] (fun W : World => W.cell? ⟨b2, 0, none⟩ = some (.slice av YS.length cv) ∧ W.cell? ⟨b2, 1, none⟩ = some (.int .u64 NN)) (by kernel_rfl) (by kernel_rfl) hCW ?_
                      simp only [List.zip_cons_cons, List.zip_nil_right]
                      iterate 4 (refine Mix.step0 fun K hK => ?_; go_simp; (try (go_bits; try go_simp)); first | ((with_reducible refine hK _ _ ?_); clear hK K) | ((try (simp only [IntWalk.iteOmega]; try go_simp)); (try go_bits); (with_reducible refine hK _ _ ?_); clear hK K))
                      iterate 2 (first | (refine Mix.stepS rfl fun K hK => ?_; go_simp; (with_reducible refine hK _ _ ?_); clear hK K) | (refine Mix.step0 fun K hK => ?_; go_simp; (try (go_bits; try go_simp)); first | ((with_reducible refine hK _ _ ?_); clear hK K) | ((try (simp only [IntWalk.iteOmega]; try go_simp)); (try go_bits); (with_reducible refine hK _ _ ?_); clear hK K)))
                      refine Mix.step2n (by first | rfl | simp [Region.wanted, yielded]) fun K hK => ?_
                      go_wp2_with fail
                      refine (SS.out).mono ?_
                      rintro en w13 ⟨rfl, hb3⟩
                      replace hsB := hsB.belowStep hb3
                      clear SS hb3 y0 y1 y2 y3 y4 y5 y6 y7 z0 z1 z2 z3 z4 z5 z6 z7 hCW
                      have LI := Lib.hid (list_any b1 ks2 YS.length DD _ (by rw [← HN2.out]; exact (Sep.arch (i := 9) hsB rfl).1) HG2.out.l4 HG2.out.le (by have := HN2.out; have := HNL2.out; omega) (Sep.arch (i := 9) hsB rfl).2 HG2.out.small)
                      have hCW := (show (fun W : World => W.cell? ⟨b2, 0, none⟩ = some (.slice av YS.length cv) ∧ W.cell? ⟨b2, 1, none⟩ = some (.int .u64 NN)) _ from ⟨cell_of (hsB.cells 2 rfl) 0, cell_of (hsB.cells 2 rfl) 1⟩)
                      go_wp2_with fail
                      refine Mix.post_mk (C := (fun W : World => W.cell? ⟨b2, 0, none⟩ = some (.slice av YS.length cv) ∧ W.cell? ⟨b2, 1, none⟩ = some (.int .u64 NN))) (by first | exact hCW | exact HCW.out _) (hK _ _ ?_)
                      clear hK K
                      iterate 1 (first | (refine Mix.stepS rfl fun K hK => ?_; go_simp; (with_reducible refine hK _ _ ?_); clear hK K) | (refine Mix.step0 fun K hK => ?_; go_simp; (try (go_bits; try go_simp)); first | ((with_reducible refine hK _ _ ?_); clear hK K) | ((try (simp only [IntWalk.iteOmega]; try go_simp)); (try go_bits); (with_reducible refine hK _ _ ?_); clear hK K)))
                      iterate 2 (refine Mix.step0 fun K hK => ?_; go_simp; (try (go_bits; try go_simp)); first | ((with_reducible refine hK _ _ ?_); clear hK K) | ((try (simp only [IntWalk.iteOmega]; try go_simp)); (try go_bits); (with_reducible refine hK _ _ ?_); clear hK K))
                      iterate 1 (first | (refine Mix.stepS rfl fun K hK => ?_; go_simp; (with_reducible refine hK _ _ ?_); clear hK K) | (refine Mix.step0 fun K hK => ?_; go_simp; (try (go_bits; try go_simp)); first | ((with_reducible refine hK _ _ ?_); clear hK K) | ((try (simp only [IntWalk.iteOmega]; try go_simp)); (try go_bits); (with_reducible refine hK _ _ ?_); clear hK K)))
                      refine Mix.step2n (by first | rfl | simp [Region.wanted, yielded]) fun K hK => ?_
                      go_wp2_with fail
                      refine (LI.out).mono ?_
                      rintro en w14 ⟨vl, rs, rfl, hrs, k1⟩
                      rw [goodW_list HG2.out] at hrs
                      have HRS := Lib.hid hrs
                      have hsC := hsB.join k1
                      simp only [List.cons_append, List.nil_append] at hsC
                      clear LI hrs k1 hsB hCW
                      obtain ⟨al4, cl4, rfl⟩ := (hsC.rdRecs 0 rfl).shape
                      have hCW := (show (fun W : World => W.cell? ⟨b2, 0, none⟩ = some (.slice av YS.length cv) ∧ W.cell? ⟨b2, 1, none⟩ = some (.int .u64 NN)) _ from ⟨cell_of (hsC.cells 4 rfl) 0, cell_of (hsC.cells 4 rfl) 1⟩)
                      go_wp2_with fail
                      refine Mix.post_mk (C := (fun W : World => W.cell? ⟨b2, 0, none⟩ = some (.slice av YS.length cv) ∧ W.cell? ⟨b2, 1, none⟩ = some (.int .u64 NN))) (by first | exact hCW | exact HCW.out _) (hK _ _ ?_)
                      clear hK K
                      (first | (refine Mix.stepS rfl fun K hK => ?_; go_simp; (with_reducible refine hK _ _ ?_); clear hK K) | (refine Mix.step1 fun K hK => ?_; go_simp; (try (go_bits; try go_simp)); first | ((with_reducible refine hK _ _ ?_); clear hK K) | ((try (simp only [IntWalk.iteOmega]; try go_simp)); (try go_bits); (with_reducible refine hK _ _ ?_); clear hK K)))
                      (first | (refine Mix.stepS rfl fun K hK => ?_; go_simp; (with_reducible refine hK _ _ ?_); clear hK K) | (refine Mix.step1 fun K hK => ?_; go_simp; (try (go_bits; try go_simp)); first | ((with_reducible refine hK _ _ ?_); clear hK K) | ((try (simp only [IntWalk.iteOmega]; try go_simp)); (try go_bits); (with_reducible refine hK _ _ ?_); clear hK K)))
                      (first | (refine Mix.stepS rfl fun K hK => ?_; go_simp; (with_reducible refine hK _ _ ?_); clear hK K) | (refine Mix.step1 fun K hK => ?_; go_simp; (try (go_bits; try go_simp)); first | ((with_reducible refine hK _ _ ?_); clear hK K) | ((try (simp only [IntWalk.iteOmega]; try go_simp)); (try go_bits); (with_reducible refine hK _ _ ?_); clear hK K)))
                      (first | (refine Mix.stepS rfl fun K hK => ?_; go_simp; (with_reducible refine hK _ _ ?_); clear hK K) | (refine Mix.step1 fun K hK => ?_; go_simp; refine ⟨fun W => ?_, hK _ _ ?_⟩; (intro hW1; (try intro hW2); (try intro hW3); (try intro hW4); (try intro hW5); (try intro hW6); (try intro hW7); (try intro hW8); go_simp); clear hK K))
                      refine Mix.step2n (by first | rfl | simp [Region.wanted, yielded]) fun K hK => ?_
                      go_wp2_with fail
                      refine (sameL_same rs YS HRS.out _ _ _ (hsC.rdRecs 0 rfl) (hsC.rdWin 5 rfl) (Sep.bag (i := 1) hsC rfl) (fun y hy => (HYO2.out y hy).sep hsC)).mono ?_
                      rintro en w15 ⟨rfl, hb4⟩
                      replace hsC := hsC.belowStep hb4
                      clear hb4 hCW
                      have ano := (arch_n HG2.out.l4 (Sep.arch (i := 11) hsC rfl).1).2
                      have hCW := (show (fun W : World => W.cell? ⟨b2, 0, none⟩ = some (.slice av YS.length cv) ∧ W.cell? ⟨b2, 1, none⟩ = some (.int .u64 NN)) _ from ⟨cell_of (hsC.cells 4 rfl) 0, cell_of (hsC.cells 4 rfl) 1⟩)
                      go_wp2_with fail
                      refine Mix.post_mk (C := (fun W : World => W.cell? ⟨b2, 0, none⟩ = some (.slice av YS.length cv) ∧ W.cell? ⟨b2, 1, none⟩ = some (.int .u64 NN))) (by first | exact hCW | exact HCW.out _) (hK _ _ ?_)
                      clear hK K
                      iterate 1 (first | (refine Mix.stepS rfl fun K hK => ?_; go_simp; (with_reducible refine hK _ _ ?_); clear hK K) | (refine Mix.step0 fun K hK => ?_; go_simp; (try (go_bits; try go_simp)); first | ((with_reducible refine hK _ _ ?_); clear hK K) | ((try (simp only [IntWalk.iteOmega]; try go_simp)); (try go_bits); (with_reducible refine hK _ _ ?_); clear hK K)))
                      iterate 2 (refine Mix.step0 fun K hK => ?_; go_simp; (try (go_bits; try go_simp)); first | ((with_reducible refine hK _ _ ?_); clear hK K) | ((try (simp only [IntWalk.iteOmega]; try go_simp)); (try go_bits); (with_reducible refine hK _ _ ?_); clear hK K))
                      iterate 1 (first | (refine Mix.stepS rfl fun K hK => ?_; go_simp; (with_reducible refine hK _ _ ?_); clear hK K) | (refine Mix.step0 fun K hK => ?_; go_simp; (try (go_bits; try go_simp)); first | ((with_reducible refine hK _ _ ?_); clear hK K) | ((try (simp only [IntWalk.iteOmega]; try go_simp)); (try go_bits); (with_reducible refine hK _ _ ?_); clear hK K)))
                      refine Mix.step2n (by first | rfl | simp [Region.wanted, yielded]) fun K hK => ?_
                      go_wp2_with fail
                      refine (no_any b1 _ _ ano).mono ?_
                      rintro en w16 ⟨rfl, rfl⟩
                      go_wp2_with fail
                      refine Mix.post_mk (C := (fun W : World => W.cell? ⟨b2, 0, none⟩ = some (.slice av YS.length cv) ∧ W.cell? ⟨b2, 1, none⟩ = some (.int .u64 NN))) (by first | exact hCW | exact HCW.out _) (hK _ _ ?_)
                      clear hK K
                      (first | (refine Mix.stepS rfl fun K hK => ?_; go_simp; (with_reducible refine hK _ _ ?_); clear hK K) | (refine Mix.step1 fun K hK => ?_; go_simp; (try (go_bits; try go_simp)); first | ((with_reducible refine hK _ _ ?_); clear hK K) | ((try (simp only [IntWalk.iteOmega]; try go_simp)); (try go_bits); (with_reducible refine hK _ _ ?_); clear hK K)))
                      (first | (refine Mix.stepS rfl fun K hK => ?_; go_simp; (with_reducible refine hK _ _ ?_); clear hK K) | (refine Mix.step1 fun K hK => ?_; go_simp; (try (go_bits; try go_simp)); first | ((with_reducible refine hK _ _ ?_); clear hK K) | ((try (simp only [IntWalk.iteOmega]; try go_simp)); (try go_bits); (with_reducible refine hK _ _ ?_); clear hK K)))
                      (first | (refine Mix.stepS rfl fun K hK => ?_; go_simp; (with_reducible refine hK _ _ ?_); clear hK K) | (refine Mix.step1 fun K hK => ?_; go_simp; (try (go_bits; try go_simp)); first | ((with_reducible refine hK _ _ ?_); clear hK K) | ((try (simp only [IntWalk.iteOmega]; try go_simp)); (try go_bits); (with_reducible refine hK _ _ ?_); clear hK K)))
                      (first | (refine Mix.stepS rfl fun K hK => ?_; go_simp; (with_reducible refine hK _ _ ?_); clear hK K) | (refine Mix.step1 fun K hK => ?_; go_simp; refine ⟨fun W => ?_, hK _ _ ?_⟩; (intro hW1; (try intro hW2); (try intro hW3); (try intro hW4); (try intro hW5); (try intro hW6); (try intro hW7); (try intro hW8); go_simp); clear hK K))
                      iterate 1 (first | (refine Mix.stepS rfl fun K hK => ?_; go_simp; (with_reducible refine hK _ _ ?_); clear hK K) | (refine Mix.step0 fun K hK => ?_; go_simp; (try (go_bits; try go_simp)); first | ((with_reducible refine hK _ _ ?_); clear hK K) | ((try (simp only [IntWalk.iteOmega]; try go_simp)); (try go_bits); (with_reducible refine hK _ _ ?_); clear hK K)))
                      iterate 1 (refine Mix.step0 fun K hK => ?_; go_simp; (try (go_bits; try go_simp)); first | ((with_reducible refine hK _ _ ?_); clear hK K) | ((try (simp only [IntWalk.iteOmega]; try go_simp)); (try go_bits); (with_reducible refine hK _ _ ?_); clear hK K))
                      refine Mix.done ?_
                      have hsF := (((hsC.tail.tail.tail.tail).front 7 rfl).takeN 3)
                      simp only [List.take_succ_cons, List.take_zero] at hsF
                      have hsG := (hsF.front 2 rfl).front 2 rfl
                      simp only [List.eraseIdx_cons_succ, List.eraseIdx_cons_zero] at hsG
                      clear hsF hsC ano hCW
                      go_wp2_with fail
                      refine Round.intro (l.length - (i + 1)) ?measure13 (by kernel_rfl) (hJ1 _ _ _ ?rel13)
                      case' rel13 => (try dsimp only [nthV])
                      case measure13 => omega
                      case rel13 => exact ⟨i + 1, DD, NN, ks2, YS, _, by go_num, hlt, rfl, Lib.hid ⟨HN2.out, HNL2.out, HG2.out, HYO2.out, hsG⟩⟩
end Go.Proofs.Ytfnkmkfkomhhnaa
