/-
  Package build, walked: open (a clone, and those that are held deleted from it).
-/
import Derived.Test.YtlbpkfjebaelpaaBW2
import Derived.Test.YtlbpkfjebaelpaaWin2
import Derived.Test.YtlbpkfjebaelpaaObj
import Derived.WalkSpells
import Derived.Shelf.Abstract
namespace Go.BuildP
open Go Go.RowKit Go.Mem Go.MoneyP Go.NetP
/-- The first one that is held. -/
def IdxP (l : List Du) (k : Int) : Prop := (k = -1 ∧ ∀ d ∈ l, d.h = false) ∨ ∃ i : Nat, k = i ∧ ∃ hi : i < l.length, (l[i]).h = true ∧ ∀ d ∈ l.take i, d.h = false
theorem open_all {l : List Du} (h : ∀ d ∈ l, d.h = false) : openL l = l := by
  unfold openL
  rw [List.filter_eq_self]
  intro d hd
  rw [h d hd]; rfl
/-- What lies in the row while the held ones are being deleted. -/
def DelP (l ys : List Du) (i j : Nat) : Prop := ys.length = l.length ∧ i ≤ j ∧ j ≤ l.length ∧ ys.take i = openL (l.take j) ∧ ys.drop j = l.drop j
theorem del_start {l : List Du} {i : Nat} (hi : i < l.length) (hh : (l[i]).h = true) (ha : ∀ d ∈ l.take i, d.h = false) : DelP l l i (i + 1) := by
  refine ⟨rfl, by omega, by omega, ?_, rfl⟩
  rw [open_step hi, hh, open_all ha]
  simp
theorem del_skip {l ys : List Du} {i j : Nat} (h : DelP l ys i j) (hj : j < l.length) (hh : (l[j]).h = true) : DelP l ys i (j + 1) := by
  obtain ⟨h1, h2, h3, h4, h5⟩ := h
  refine ⟨h1, by omega, by omega, ?_, ?_⟩
  · rw [open_step hj, hh, h4]; simp
  · have := congrArg (List.drop 1) h5
    rwa [List.drop_drop, List.drop_drop] at this
theorem del_at {l ys : List Du} {i j : Nat} (h : DelP l ys i j) (hj : j < l.length) : ∃ hy : j < ys.length, ys[j] = l[j] := by
  obtain ⟨h1, h2, h3, h4, h5⟩ := h
  refine ⟨by omega, ?_⟩
  have := congrArg (fun a => a[0]?) h5
  simp only [List.getElem?_drop, Nat.add_zero] at this
  rw [List.getElem?_eq_getElem (by omega), List.getElem?_eq_getElem hj] at this
  exact Option.some.inj this
theorem del_put {l ys : List Du} {i j : Nat} (h : DelP l ys i j) (hij : i < j) (hj : j < l.length) (hh : (l[j]).h = false) : DelP l (ys.set i (l[j])) (i + 1) (j + 1) := by
  obtain ⟨h1, h2, h3, h4, h5⟩ := h
  refine ⟨by rw [List.length_set]; exact h1, by omega, by omega, ?_, ?_⟩
  · rw [open_step hj, hh, ← h4, List.take_succ_eq_append_getElem (by rw [List.length_set]; omega), List.take_set_of_le (Nat.le_refl _)]
    simp
  · rw [List.drop_set_of_lt (by omega)]
    have := congrArg (List.drop 1) h5
    rwa [List.drop_drop, List.drop_drop] at this
theorem del_end {l ys : List Du} {i j : Nat} (h : DelP l ys i j) (hj : j = l.length) : ys.take i = openL l := by
  obtain ⟨h1, h2, h3, h4, h5⟩ := h
  rw [h4, hj, List.take_length]
end Go.BuildP
namespace Go.Proofs.Ytlbpkfjebaelpaa
open Go Go.RowKit Go.Mem Go.MoneyP Go.NetP Go.BuildP Go.Shelf
set_option maxHeartbeats 1000000 in
set_option maxRecDepth 100000 in
theorem cloneD_any (v : Value) (xs : List Du) (w : World) (h : RdG duR w v xs) (hsm : xs.length ≤ 1000000) :
    Calls Try.prog 43 #[v] w fun en w' => ∃ u, en = .returned u ∧ Sep w w' [recT duR 45 u xs] := by
  obtain ⟨i0, hi0, hz0, hz1, hz2⟩ := info_parts Try.infoDu
  obtain ⟨a, c, rfl⟩ := h.shape
  rcases a with _ | a
  · have hx : xs = [] := by
      rcases Nat.eq_zero_or_pos xs.length with q | q
      · exact List.eq_nil_of_length_eq_zero q
      · obtain ⟨b, o, e, _⟩ := h.at 0 q; cases e
    have hc : c = 0 := by obtain ⟨_, _, e, _, hn, _⟩ := h; injection e with e1 e2 e3; subst e1; subst e3; exact hn rfl
    subst hx; subst hc
    have he := fun w : World => Lib.run_eql_slice_nil (P := Try.prog) w 23 45 none 0 0 0 0 Try.underlying23
    simp at he
    go_enter Try.func43, Try.ntmps43
    go_wp2_with fail
    go_ret
    exact ⟨_, rfl, (Sep.start w).nilRecs duR _⟩
  · have he := fun w : World => Lib.run_eql_slice_nil (P := Try.prog) w 23 45 (some a) xs.length c 0 0 Try.underlying23
    simp at he
    have hs2 := (Sep.start w).litRecs duR 45 [] (by simp [maxLen])
    simp only [List.length_nil, Rec.flat, List.flatMap_nil] at hs2
    go_enter Try.func43, Try.ntmps43
    go_wp2_with (at_builtin; refine wpList_appRdG duR rfl (.tmp 5) (.tmp 6) 23 rfl 45 i0 _ 56 Try.underlying23 hi0 hz0 hz1 hz2 rfl _ [] _ xs hs2 0 rfl (hs2.rdG h) rfl rfl ?c3 ?c4 ?grow)
    case c3 => (try simp); (try simp only [maxLen]); (try omega)
    case c4 => (try simp); (try simp only [maxLen]); (try omega)
    case grow =>
      intro v' w2 hs3
      (try simp only [List.set_cons_zero, List.nil_append] at hs3)
      clear he
      go_wp2_with fail
      go_ret
      exact ⟨_, rfl, hs3⟩
theorem ent_held : Enters Try.prog 44 := enters_of Try.func44 (by kernel_rfl) rfl
set_option maxHeartbeats 1000000 in
theorem held_any (d : Du) (w : World) : Calls Try.prog 44 #[d.val] w fun en w' => en = .returned (.bool d.h) ∧ Below w.heap.size w w' := by
  obtain ⟨id, f, t, x, we, u, h⟩ := d
  dsimp only [Du.val]
  have hs := (Sep.start w).newCells #[.int .u64 id, .int .i64 f, .int .i64 t, .int .i64 x, .int .i64 we, .int .i64 u, .bool h] 45
  go_enter Try.func44, Try.ntmps44
  go_wp2_with fail
  go_ret
  exact ⟨rfl, hs.below⟩
set_option maxHeartbeats 2000000 in
theorem indexF_any (l : List Du) (v : Value) (w : World) (h : RdG duR w v l) :
    Calls Try.prog 63 #[v, .func (.func 44) #[] #[]] w fun en w' => ∃ k : Int, en = .returned (.int .i64 k) ∧ IdxP l k ∧ Below w.heap.size w w' := by
  obtain ⟨a, c, rfl⟩ := h.shape
  have hle := h.le'
  have hen := fun W args => ent_held W args
  go_enter Try.func63, Try.ntmps63
  go_wp2_with fail
  refine wp_loopM [none, none, none, none, some 4, some 5, none, none, some 8, some 9, some 10, some 11, some 12, some 13, some 14, some 15, some 16, some 17, some 18] (fun (r : Nat) (f : Nat → Value) (wr : World) => (fun (v : Value) => ∃ i : Nat, v = .int .i64 i ∧ i ≤ l.length ∧ r = l.length - i ∧ Hid (∀ d ∈ l.take i, d.h = false) ∧ Sep w wr []) (f 8)) (l.length) (by kernel_rfl) ?atStart1 ?round1
  case' atStart1 => (try dsimp only [nthV])
  case' round1 =>
    intro gk f wr l hl hrel J1 K1 hJ1 hK1
    (try simp only [mask] at hl)
    generalize f 8 = u8 at hl hrel
    subst hl
    (try dsimp only at hrel)
  case atStart1 => exact ⟨0, rfl, Nat.zero_le _, rfl, Lib.hid (by simp), Sep.start w⟩
  case round1 =>
    obtain ⟨i, rfl, hi, rfl, HA, hs⟩ := hrel
    by_cases hlt : i < l.length
    · obtain ⟨b1, o1, e1, hb1, hc1⟩ := (hs.rdG h).at i hlt
      subst e1
      obtain ⟨x, hx⟩ : ∃ x, x = l[i] := ⟨_, rfl⟩
      rw [← hx] at hc1
      have HX := Lib.hid hx
      clear hx
      obtain ⟨id, f, t, xx, we, u, hh⟩ := x
      have x0 := hc1 0 (by decide)
      have x1 := hc1 1 (by decide)
      have x2 := hc1 2 (by decide)
      have x3 := hc1 3 (by decide)
      have x4 := hc1 4 (by decide)
      have x5 := hc1 5 (by decide)
      have x6 := hc1 6 (by decide)
      simp only [duR, Nat.add_zero, List.getElem?_cons_zero, List.getElem?_cons_succ] at x0 x1 x2 x3 x4 x5 x6
      clear hc1
      have HE := Lib.hid (held_any ⟨id, f, t, xx, we, u, hh⟩ wr)
      dsimp only [Du.val] at HE
      cases hh
      · have HA2 := Lib.hid (show ∀ d ∈ l.take (i + 1), d.h = false by
          rw [List.take_succ_eq_append_getElem hlt]
          intro d hd
          rcases List.mem_append.1 hd with q | q
          · exact HA.out d q
          · rw [List.mem_singleton.1 q, ← HX.out])
        go_wp2_with fail
        refine (HE.out).mono ?_
        rintro en w2 ⟨rfl, hb⟩
        clear HE x0 x1 x2 x3 x4 x5 x6
        go_wp2_with fail
        refine Round.intro (l.length - (i + 1)) ?measure2 (by kernel_rfl) (hJ1 _ _ _ ?rel2)
        case' rel2 => (try dsimp only [nthV])
        case measure2 => omega
        case rel2 => exact ⟨i + 1, by go_num, hlt, rfl, HA2, hs.belowStep hb⟩
      · go_wp2_with fail
        refine (HE.out).mono ?_
        rintro en w2 ⟨rfl, hb⟩
        clear HE x0 x1 x2 x3 x4 x5 x6
        go_wp2_with fail
        go_ret
        exact ⟨i, rfl, .inr ⟨i, rfl, hlt, by rw [← HX.out], HA.out⟩, (hs.belowStep hb).below⟩
    · obtain rfl : i = l.length := by omega
      have HA2 := HA.out
      rw [List.take_length] at HA2
      have HA3 := Lib.hid HA2
      clear HA2
      go_wp2_with fail
      go_ret
      exact ⟨-1, rfl, .inl ⟨rfl, HA3.out⟩, hs.below⟩
set_option maxHeartbeats 2000000 in
set_option maxRecDepth 100000 in
theorem delF_any {w0 w : World} {L : List Thing} (hs : Sep w0 w L) (q : Nat) (l : List Du) (v : Value) (hq : L[q]? = some (winT duR v l)) :
    Calls Try.prog 42 #[v, .func (.func 44) #[] #[]] w fun en w' => ∃ u, en = .returned u ∧ Sep w0 w' (L.set q (winT duR u (openL l))) := by
  obtain ⟨a, c, rfl⟩ := (hs.rdWin q hq).shape
  have hle := (hs.rdWin q hq).le'
  have hen := fun W args => ent_held W args
  have HQ := Lib.hid hq
  clear hq
  go_enter Try.func42, Try.ntmps42
  go_wp2_with fail
  refine (indexF_any l _ _ (hs.rdWin q HQ.out)).mono ?_
  rintro en w1 ⟨k, rfl, hk, hb⟩
  replace hs := hs.belowStep hb
  clear hb
  rcases hk with ⟨rfl, ha⟩ | ⟨i, rfl, hi, hh, ha⟩
  · have HE := Lib.hid (open_all ha)
    clear ha
    go_wp2_with fail
    go_ret
    exact ⟨.slice a l.length c, rfl, by rw [HE.out, set_same HQ.out]; exact hs⟩
  · have HD0 := Lib.hid (del_start hi hh ha)
    clear ha hh
    have hne : ((i : Int) == -1) = false := by simp
    go_wp2_with fail
    refine wp_loopM [none, none, none, none, none, some 5, some 6, some 7, none, none, none, none, none, none, none, none, some 16, some 17, some 18, some 19, some 20, some 21, some 22, some 23, some 24, some 25, some 26, some 27, some 28, some 29, some 30, some 31, some 32, some 33, some 34, some 35, none, none, none, none, none, none] (fun (r : Nat) (f : Nat → Value) (wr : World) => (fun (vi vj : Value) => ∃ (i j : Nat) (ys : List Du), vi = .int .i64 i ∧ vj = .int .i64 j ∧ r = l.length - j ∧ i < j ∧ j ≤ l.length ∧ Hid (DelP l ys i j) ∧ Sep w0 wr (L.set q (winT duR (.slice a l.length c) ys))) (f 5) (f 6)) (l.length - (i + 1)) (by kernel_rfl) ?atStart3 ?round3
    case' atStart3 => (try dsimp only [nthV])
    case' round3 =>
      intro gk f wr l hl hrel J1 K1 hJ1 hK1
      (try simp only [mask] at hl)
      generalize f 5 = u5 at hl hrel
      generalize f 6 = u6 at hl hrel
      subst hl
      (try dsimp only at hrel)
    case atStart3 => exact ⟨i, i + 1, l, rfl, by go_num, by omega, by omega, by omega, HD0, by rw [set_same HQ.out]; exact hs⟩
    case round3 =>
      clear hs HD0 hi hne
      obtain ⟨i, j, ys, rfl, rfl, rfl, hij, hj, HD, hs⟩ := hrel
      have HQS := Lib.hid (fun X : Thing => (by rw [List.getElem?_set_self (List.getElem?_eq_some_iff.1 HQ.out).1] : (L.set q X)[q]? = some X))
      have hyl := HD.out.1
      by_cases hlt : j < l.length
      · obtain ⟨hy, hyj⟩ := del_at HD.out hlt
        obtain ⟨b1, o1, e1, hb1, hc1⟩ := (hs.rdWin q (HQS.out _)).at j hy
        subst e1
        rw [hyj] at hc1
        obtain ⟨x, hx⟩ : ∃ x, x = l[j] := ⟨_, rfl⟩
        rw [← hx] at hc1
        have HX := Lib.hid hx
        clear hx hyj
        obtain ⟨id, f, t, xx, we, u, hh⟩ := x
        have x0 := hc1 0 (by decide)
        have x1 := hc1 1 (by decide)
        have x2 := hc1 2 (by decide)
        have x3 := hc1 3 (by decide)
        have x4 := hc1 4 (by decide)
        have x5 := hc1 5 (by decide)
        have x6 := hc1 6 (by decide)
        simp only [duR, Nat.add_zero, List.getElem?_cons_zero, List.getElem?_cons_succ] at x0 x1 x2 x3 x4 x5 x6
        clear hc1
        cases hh
        · have HD2 := Lib.hid (del_put HD.out hij hlt (by rw [← HX.out]))
          rw [← HX.out] at HD2
          go_wp2_with fail
          have HE := Lib.hid (held_any ⟨id, f, t, xx, we, u, false⟩ (wr.alloc (.cells #[.int .u64 id, .int .i64 f, .int .i64 t, .int .i64 xx, .int .i64 we, .int .i64 u, .bool false] 45)))
          have hn := heap_alloc_new wr (.cells #[.int .u64 id, .int .i64 f, .int .i64 t, .int .i64 xx, .int .i64 we, .int .i64 u, .bool false] 45)
          dsimp only [Du.val] at HE
          refine (HE.out).mono ?_
          rintro en w2 ⟨rfl, hb⟩
          replace hs := hs.newCells #[.int .u64 id, .int .i64 f, .int .i64 t, .int .i64 xx, .int .i64 we, .int .i64 u, .bool false] 45
          have y0 := (hb.cell (p := ⟨wr.heap.size, 0, none⟩) (lt_of hn)).trans (cell_of hn 0)
          have y1 := (hb.cell (p := ⟨wr.heap.size, 1, none⟩) (lt_of hn)).trans (cell_of hn 1)
          have y2 := (hb.cell (p := ⟨wr.heap.size, 2, none⟩) (lt_of hn)).trans (cell_of hn 2)
          have y3 := (hb.cell (p := ⟨wr.heap.size, 3, none⟩) (lt_of hn)).trans (cell_of hn 3)
          have y4 := (hb.cell (p := ⟨wr.heap.size, 4, none⟩) (lt_of hn)).trans (cell_of hn 4)
          have y5 := (hb.cell (p := ⟨wr.heap.size, 5, none⟩) (lt_of hn)).trans (cell_of hn 5)
          have y6 := (hb.cell (p := ⟨wr.heap.size, 6, none⟩) (lt_of hn)).trans (cell_of hn 6)
          simp only [List.getElem?_toArray, List.getElem?_cons_zero, List.getElem?_cons_succ] at y0 y1 y2 y3 y4 y5 y6
          replace hs := (hs.belowStep hb).tail
          have hiy : i < ys.length := by omega
          obtain ⟨b2, o2, e2, hb2, hc2⟩ := (hs.rdWin q (HQS.out _)).at i hiy
          injection e2 with e2
          injection e2 with e2 e3 _
          subst e2; subst e3
          have hfz : ∀ k, w2.frozen? ⟨b1, k, none⟩ = false := by
            rcases hs.win q (HQS.out _) with ⟨e, _⟩ | ⟨g, off, cap, e, _, _, _, _, hz, _⟩
            · cases e
            · injection e with e _ _
              injection e with e
              injection e with e _ _
              subst e; exact hz
          generalize ys[i] = y at hc2
          obtain ⟨id', f', t', x', we', u', h'⟩ := y
          have z0 := hc2 0 (by decide)
          have z1 := hc2 1 (by decide)
          have z2 := hc2 2 (by decide)
          have z3 := hc2 3 (by decide)
          have z4 := hc2 4 (by decide)
          have z5 := hc2 5 (by decide)
          have z6 := hc2 6 (by decide)
          simp only [duR, Nat.add_zero, List.getElem?_cons_zero, List.getElem?_cons_succ] at z0 z1 z2 z3 z4 z5 z6
          clear hc2
          have hs3 := hs.setRec q (HQS.out _) i hiy ⟨id, f, t, xx, we, u, false⟩
          rw [List.set_set] at hs3
          clear HE hb hn x0 x1 x2 x3 x4 x5 x6 hs
          go_wp2_with fail
          refine Round.intro (l.length - (j + 1)) ?measure4 (by kernel_rfl) (hJ1 _ _ _ ?rel4)
          case' rel4 => (try dsimp only [nthV])
          case measure4 => omega
          case rel4 => exact ⟨i + 1, j + 1, _, by go_num, by go_num, rfl, by omega, hlt, HD2, hs3⟩
        · have HD2 := Lib.hid (del_skip HD.out hlt (by rw [← HX.out]))
          go_wp2_with fail
          have HE := Lib.hid (held_any ⟨id, f, t, xx, we, u, true⟩ (wr.alloc (.cells #[.int .u64 id, .int .i64 f, .int .i64 t, .int .i64 xx, .int .i64 we, .int .i64 u, .bool true] 45)))
          dsimp only [Du.val] at HE
          refine (HE.out).mono ?_
          rintro en w2 ⟨rfl, hb⟩
          replace hs := (hs.alloc (.cells #[.int .u64 id, .int .i64 f, .int .i64 t, .int .i64 xx, .int .i64 we, .int .i64 u, .bool true] 45)).belowStep hb
          clear HE hb x0 x1 x2 x3 x4 x5 x6
          go_wp2_with fail
          refine Round.intro (l.length - (j + 1)) ?measure5 (by kernel_rfl) (hJ1 _ _ _ ?rel5)
          case' rel5 => (try dsimp only [nthV])
          case measure5 => omega
          case rel5 => exact ⟨i, j + 1, ys, rfl, by go_num, rfl, by omega, hlt, HD2, hs⟩
      · obtain rfl : j = l.length := by omega
        have HE := Lib.hid (del_end HD.out rfl)
        obtain ⟨i0, hi0, hz0, hz1, hz2⟩ := info_parts Try.infoDu
        have hzv : ∀ w : World, (zeroValue 45).run Try.prog w = .ok (.agg #[.int .u64 0, .int .i64 0, .int .i64 0, .int .i64 0, .int .i64 0, .int .i64 0, .bool false]) w := fun w => by simp [zeroValue, typeInfo, hi0, hz0]
        rcases hs.win q (HQS.out _) with ⟨_, hz⟩ | ⟨g, off, cap, e, hcap, _⟩
        · rw [hz] at hyl; simp at hyl; omega
        · injection e with e1 e2 e3
          subst e1; subst e3
          have hci : ¬ c = i := by omega
          have hcl : l.length ≤ c := by omega
          have hic : i ≤ c := by omega
          have HYL := Lib.hid hyl
          have HZV := Lib.hid hzv
          clear hyl hcap hzv hz0 hz1 hz2 hi0 i0
          go_upto_region 11 with fail
          go_wp2_with (refine wpList_clearWin duR rfl (.tmp 38) 23 45 rfl _ Try.underlying23 HZV.out ⟨0, 0, 0, 0, 0, 0, false⟩ rfl g off l.length c ys hs q (HQS.out _) i _ _ _ rfl (by rw [HYL.out]) (fun _ => rfl) (by rw [HYL.out]; omega) ?clr)
          case clr =>
            intro w5 hs5
            (try rw [List.set_set] at hs5)
            rw [HE.out] at hs5
            clear hs
            go_wp2_with fail
            go_ret
            exact ⟨_, rfl, hs5⟩
/-- The dues that are open. -/
theorem open_any (l : List Du) (v : Value) (w : World) (h : RdG duR w v l) (hsm : l.length ≤ 1000) :
    Calls Try.prog 24 #[v] w fun en w' => ∃ u, en = .returned u ∧ Sep w w' [winT duR u (openL l)] := by
  go_enter Try.func24, Try.ntmps24
  go_wp2_with fail
  refine (cloneD_any v l _ h (by omega)).mono ?_
  rintro en w1 ⟨u1, rfl, hs⟩
  have hs2 := hs.winOf 0 rfl
  have DF := Lib.hid (delF_any hs2 0 l u1 rfl)
  clear hs hs2
  go_wp2_with fail
  refine (DF.out).mono ?_
  rintro en w2 ⟨u2, rfl, hs3⟩
  go_wp2_with fail
  go_ret
  exact ⟨_, rfl, hs3⟩
end Go.Proofs.Ytlbpkfjebaelpaa
