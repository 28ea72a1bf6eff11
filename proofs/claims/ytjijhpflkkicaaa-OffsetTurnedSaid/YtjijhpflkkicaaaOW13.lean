/-
  Package cycles: Find's inner function, walked.
-/
import Derived.Test.YtjijhpflkkicaaaOW12
import Derived.Laws.EntriesVeiled
set_option linter.unusedVariables false
set_option linter.unusedSimpArgs false
namespace Go.Mem
open Go Go.RowKit
theorem IOwn.icap {k : IntKind} {E : TypeId} {w : World} {a : Option Addr} {n c : Nat} {zs : List Int} (h : IOwn k E w (.slice a n c) zs) : n ≤ c := by
  unfold IOwn at h
  rcases h.2 with ⟨e, _⟩ | ⟨g, cap, cur, e, _, _, h1, _⟩
  · injection e with e1 e2 e3
    omega
  · injection e with e1 e2 e3
    omega
theorem Rd.dropN {k : IntKind} {w : World} {b o n c : Nat} {zs : List Int} (h : Rd k w (.slice (some ⟨b, o, none⟩) n c) zs) (j c' m : Nat) (hj : j < zs.length) (hm : m = zs.length - j) : Rd k w (.slice (some ⟨b, o + j, none⟩) m c') (zs.drop j) := by
  obtain ⟨a0, c0, e, hl, _, hc⟩ := h
  injection e with e1 e2 e3
  obtain ⟨b', o', e4, hb, hcell⟩ := hc (by omega)
  rw [e4] at e1
  injection e1 with e1
  injection e1 with e5 e6
  subst e5
  subst e6
  refine ⟨some ⟨b, o + j, none⟩, c', by rw [List.length_drop, hm], by rw [List.length_drop]; omega, (fun q => by cases q), fun hq => ⟨b, o + j, rfl, hb, fun i hi => ?_⟩⟩
  rw [List.length_drop] at hi
  rw [Nat.add_assoc, hcell (j + i) (by omega)]
  congr 2
  rw [List.getD_eq_getElem?_getD, List.getD_eq_getElem?_getD, List.getElem?_drop]
end Go.Mem
namespace Go.Proofs.Ytjijhpflkkicaaa
open Go Go.RowKit Go.Mem Go.MoneyP Go.NetP Go.BuildP Go.OffP Go.Shelf
theorem ent_find1 : Enters Try.prog 44 := enters_of Try.func44 (by kernel_rfl) rfl
def ptr (b : Nat) : Value := .pointer (some ⟨b, 0, none⟩)
def fromV (BL BD BW BF : Nat) : Value := .func (.func 44) #[] #[.pointer (some ⟨BL, 0, none⟩), .pointer (some ⟨BD, 0, none⟩), .pointer (some ⟨BW, 0, none⟩), .pointer (some ⟨BF, 0, none⟩)]
def wayI (p : List Nat) : List Int := List.map (fun k : Nat => (k : Int)) p
theorem wayI_len (p : List Nat) : (wayI p).length = p.length := by simp [wayI]
theorem wayI_snoc (p : List Nat) (k : Nat) : wayI (p ++ [k]) = wayI p ++ [(k : Int)] := by simp [wayI]
theorem wayI_at {p : List Nat} {j : Nat} (h : j < p.length) : (wayI p).getD j 0 = (p[j] : Int) := by
  unfold wayI
  rw [List.getD_eq_getElem?_getD, List.getElem?_map, List.getElem?_eq_getElem h]; rfl
theorem godMemS {l : List Du} {p : List Nat} {b i : Nat} (h : GoD l p b) (hi : i < l.length) : ∀ k ∈ p ++ [i], k < l.length := fun k hk => by
  rcases List.mem_append.1 hk with q | q
  · exact h.mem k q
  · rw [List.mem_singleton.1 q]; exact hi
def doneV (D : List Bool) : Array Value := (D.map Value.bool).toArray
/-- More banks are done. -/
def MoreD (D D' : List Bool) : Prop := D'.length = D.length ∧ ∀ b, D.getD b false = true → D'.getD b false = true
theorem MoreD.refl (D : List Bool) : MoreD D D := ⟨rfl, fun _ h => h⟩
theorem MoreD.trans {D E F : List Bool} (h : MoreD D E) (k : MoreD E F) : MoreD D F := ⟨k.1.trans h.1, fun b hb => k.2 b (h.2 b hb)⟩
theorem MoreD.set (D : List Bool) (b : Nat) : MoreD D (D.set b true) := ⟨by simp, fun c hc => by
  rw [List.getD_eq_getElem?_getD, List.getElem?_set]
  rw [List.getD_eq_getElem?_getD] at hc
  split
  · split
    · rfl
    · next h => subst_vars; rw [List.getElem?_eq_none (by omega)] at hc; simp at hc
  · exact hc⟩
theorem doneV_at {D : List Bool} {j : Nat} (h : j < D.length) : (doneV D)[j]? = some (.bool (D.getD j false)) := by
  unfold doneV
  rw [List.getElem?_toArray, List.getElem?_map, List.getElem?_eq_getElem h, List.getD_eq_getElem?_getD, List.getElem?_eq_getElem h]; rfl
theorem doneV_set (D : List Bool) (j : Nat) (x : Bool) : doneV (D.set j x) = (doneV D).setIfInBounds j (.bool x) := by
  unfold doneV
  rw [List.map_set]; simp
/-- One due more is looked at. -/
structure LookD (l : List Du) (D E : List Bool) (b i : Nat) : Prop where
  more : MoreD D E
  ring : NoRing l E
  len : E.length = 16
  all : ∀ (k : Nat) (c : Int), k < i → EdgeD l k b c → E.getD c.toNat false = true
theorem LookD.skip {l : List Du} {D E : List Bool} {b i : Nat} (h : LookD l D E b i) (hn : ∀ c, EdgeD l i b c → E.getD c.toNat false = true) : LookD l D E b (i + 1) :=
  ⟨h.more, h.ring, h.len, fun k c hk e => by
    by_cases q : k = i
    · subst q; exact hn c e
    · exact h.all k c (by omega) e⟩
/-- What lies about the search: the way, the banks done, the dues, the search itself. -/
def dfsL (BL BD BW BF : Nat) (vl v : Value) (p : List Nat) (D : List Bool) : List Thing :=
  [cellsT BW #[v] 60, intsT .i64 3 v (wayI p), cellsT BD (doneV D) 85, cellsT BL #[vl] 22, cellsT BF #[fromV BL BD BW BF] 86]
/-- What the search from a bank answers. -/
def FromD (BL BD BW BF : Nat) (vl : Value) (l : List Du) (p : List Nat) (D : List Bool) (b : Nat) (w0 : World) (en : Ending) (w' : World) : Prop :=
  (∃ (a : Addr) (n c : Nat) (q : List Nat), en = .returned (.slice (some a) n c) ∧ RingD l q ∧ Sep w0 w' [intsT .i64 3 (.slice (some a) n c) (wayI q)]) ∨
  (∃ (v : Value) (D' : List Bool), en = .returned (.slice none 0 0) ∧ MoreD D D' ∧ D'.getD b false = true ∧ NoRing l D' ∧ Sep w0 w' (dfsL BL BD BW BF vl v p D'))
set_option maxRecDepth 100000 in
set_option maxHeartbeats 4000000 in
theorem from_any (BL BD BW BF : Nat) (l : List Du) (vl : Value) (hl : ∀ d ∈ l, MayD d) (hlen : l.length ≤ 64) : ∀ (n : Nat) (w0 w : World) (v : Value) (p : List Nat) (D : List Bool) (b : Nat), 16 - p.length ≤ n → GoD l p b → NoRing l D → D.length = 16 → RdG duR w0 vl l → Sep w0 w (dfsL BL BD BW BF vl v p D) →
    Calls Try.prog 44 #[.int .i64 b, .pointer (some ⟨BL, 0, none⟩), .pointer (some ⟨BD, 0, none⟩), .pointer (some ⟨BW, 0, none⟩), .pointer (some ⟨BF, 0, none⟩)] w fun en w' => FromD BL BD BW BF vl l p D b w0 en w' := by
  intro n
  induction n with
  | zero => 
    intro w0 w v p D b hn hg _ _ _ _
    have := hg.len hl
    omega
  | succ n ih =>
    intro w0 w v p D b hn hg hnr hD hrd hs
    obtain ⟨i0, hi0, hz0, hz1, hz2⟩ := info_parts Try.infoInto
    obtain ⟨al, cl, rfl⟩ := hrd.shape
    have hb16 := hg.b16
    have hp16 := hg.len hl
    have HG := Lib.hid hg
    have HL := Lib.hid hl
    have HN := Lib.hid hn
    have HNR := Lib.hid hnr
    have HD := Lib.hid hD
    have HIH := Lib.hid ih
    have HRD := Lib.hid hrd
    clear ih hg hl hn hnr hrd hD
    unfold dfsL at hs
    have c0 := cell_of (hs.cells 3 rfl) 0
    simp only [List.getElem?_toArray, List.getElem?_cons_zero] at c0
    go_enter Try.func44, Try.ntmps44
    go_wp2_with fail
    go_step3
    go_wp2_with fail
    go_step3
    go_wp2_with fail
    clear c0
    refine wp_loopM [none, none, none, none, none, none, some 6, some 7, some 8, some 9, some 10, some 11, none, none, some 14, some 15, some 16, some 17, some 18, some 19, some 20, some 21, some 22, some 23, some 24, some 25, some 26, some 27, some 28, some 29, some 30, some 31, some 32, some 33, some 34, some 35, some 36, some 37, some 38, some 39, some 40, some 41, some 42, some 43, some 44, some 45, some 46, some 47, some 48, some 49, some 50, some 51, some 52, some 53, some 54, some 55, some 56, some 57, some 58, some 59, some 60, some 61, some 62, some 63, some 64, some 65, some 66, some 67, some 68, some 69, none, none] (fun (r : Nat) (f : Nat → Value) (wr : World) => (fun (v : Value) => ∃ (i : Nat) (u : Value) (E : List Bool), v = .int .i64 i ∧ i ≤ l.length ∧ r = l.length - i ∧ Hid (LookD l D E b i) ∧ Sep w0 wr (dfsL BL BD BW BF (.slice al l.length cl) u p E)) (f 14)) (l.length) (by kernel_rfl) ?atStart1 ?round1
    case' atStart1 => (try dsimp only [nthV])
    case' round1 =>
      intro gk f wr l hl hrel J1 K1 hJ1 hK1
      (try simp only [mask] at hl)
      generalize f 14 = u14 at hl hrel
      subst hl
      (try dsimp only at hrel)
    case atStart1 => exact ⟨0, v, D, rfl, Nat.zero_le _, rfl, Lib.hid ⟨MoreD.refl D, HNR.out, HD.out, fun k c hk => absurd hk (Nat.not_lt_zero k)⟩, hs⟩
    case round1 =>
      clear hs
      obtain ⟨i, u, E, rfl, hi, rfl, HI, hs⟩ := hrel
      by_cases hlt : i < l.length
      · have hiI : (i : Int) < l.length := by omega
        obtain ⟨b1, o1, e1, _, hc1⟩ := (hs.rdG HRD.out).at i hlt
        subst e1
        have hm := HL.out _ (List.getElem_mem hlt)
        obtain ⟨x, hx⟩ : ∃ x, x = l[i] := ⟨_, rfl⟩
        rw [← hx] at hc1 hm
        have HX := Lib.hid hx
        clear hx
        obtain ⟨id, f, t, x, we, uu, hh⟩ := x
        obtain ⟨hf0, hf1, ht0, ht1, hne, _, _, _, _, _⟩ := hm
        dsimp only at hf0 hf1 ht0 ht1 hne
        have x0 := hc1 0 (by decide)
        have x1 := hc1 1 (by decide)
        have x2 := hc1 2 (by decide)
        have x3 := hc1 3 (by decide)
        have x4 := hc1 4 (by decide)
        have x5 := hc1 5 (by decide)
        have x6 := hc1 6 (by decide)
        simp only [duR, Nat.add_zero, List.getElem?_cons_zero, List.getElem?_cons_succ] at x0 x1 x2 x3 x4 x5 x6
        clear hc1
        obtain ⟨T, rfl⟩ : ∃ T : Nat, t = T := ⟨t.toNat, by omega⟩
        have hT : T < 16 := by omega
        unfold dfsL at hs
        go_upto_region 4 with fail
        replace hs := hs.newCells #[.int .u64 id, .int .i64 f, .int .i64 T, .int .i64 x, .int .i64 we, .int .i64 uu, .bool hh] 44
        obtain ⟨B, hB⟩ : ∃ B, B = wr.heap.size := ⟨_, rfl⟩
        rw [← hB] at hs ⊢
        clear hB x0 x1 x2 x3 x4 x5 x6
        generalize World.alloc wr _ = W4 at hs ⊢
        have x0 := cell_of (hs.cells 0 rfl) 0
        have x1 := cell_of (hs.cells 0 rfl) 1
        have x2 := cell_of (hs.cells 0 rfl) 2
        have x3 := cell_of (hs.cells 0 rfl) 3
        have x4 := cell_of (hs.cells 0 rfl) 4
        have x5 := cell_of (hs.cells 0 rfl) 5
        have x6 := cell_of (hs.cells 0 rfl) 6
        simp only [List.getElem?_toArray, List.getElem?_cons_zero, List.getElem?_cons_succ] at x0 x1 x2 x3 x4 x5 x6
        have c3 := cell_of (hs.cells 3 rfl) T
        rw [doneV_at (by rw [HI.out.len]; exact hT)] at c3
        cases hh
        · by_cases hfb : f = b
          · subst hfb
            cases hET : E.getD T false
            · rw [hET] at c3
              have HET := Lib.hid hET
              clear hET
              have HE := Lib.hid (show EdgeD l i b T from ⟨hlt, by rw [← HX.out], by rw [← HX.out], by rw [← HX.out]⟩)
              have HPL := Lib.hid (show (p ++ [i]).length < 17 by rw [List.length_append, List.length_singleton]; omega)
              have hwl : (wayI p).length = p.length := wayI_len p
              obtain ⟨WP, hWP⟩ : ∃ WP, WP = wayI p := ⟨_, rfl⟩
              rw [← hWP] at hs hwl
              have HWP := Lib.hid hWP
              clear hWP
              have xw := cell_of (hs.cells 1 rfl) 0
              simp only [List.getElem?_toArray, List.getElem?_cons_zero] at xw
              go_wp2_with (at_builtin; refine wpList_appInt rfl (.tmp 33) (.tmp 35) 60 rfl 3 i0 _ 8 Try.underlying60 hi0 hz0 hz1 hz2 rfl u WP .i64 i hs 2 rfl rfl (by simp [go_sem]) ?c3 ?c4 ?grow)
              case c3 => unfold maxLen; omega
              case c4 => omega
              case grow =>
                intro v' w5 hs2 hv
                obtain ⟨g2, k2, rfl⟩ := hv.out
                (try rw [hwl] at hs2)
                (try rw [hwl])
                have HWQ := Lib.hid (show WP ++ [(i : Int)] = wayI (p ++ [i]) by rw [wayI_snoc, HWP.out])
                rw [HWQ.out] at hs2
                (try simp only [List.set_cons_zero, List.set_cons_succ] at hs2)
                clear hs xw x0 x1 x2 x3 x4 x5 x6 c3 hv hwl
                have xw := cell_of (hs2.cells 1 rfl) 0
                have xf := frozen_of (hs2.cells 1 rfl) 0
                simp only [List.getElem?_toArray, List.getElem?_cons_zero] at xw
                go_upto_region 6 with fail
                have hs := hs2.setC 1 rfl 0 (.slice (some ⟨g2, 0, none⟩) (p.length + 1) k2) #[.slice (some ⟨g2, 0, none⟩) (p.length + 1) k2] rfl
                (try simp only [List.set_cons_zero, List.set_cons_succ] at hs)
                clear hs2 xw xf
                generalize World.setCell w5 _ _ = W5 at hs ⊢
                have xw := cell_of (hs.cells 1 rfl) 0
                simp only [List.getElem?_toArray, List.getElem?_cons_zero] at xw
                go_wp2_with fail
                clear xw
                refine wp_loopM [none, none, none, none, none, none, some 6, none, none, some 9, some 10, none, none, none, none, none, none, none, none, none, none, none, none, none, none, none, none, none, none, none, none, none, none, none, none, none, none, none, none, some 39, some 40, some 41, some 42, some 43, some 44, some 45, some 46, some 47, some 48, some 49, some 50, some 51, some 52, some 53, some 54, some 55, some 56, none, none, none, none, none, none, none, none, none, none, none, none, none, none, none] (fun (r : Nat) (f : Nat → Value) (wq : World) => (fun (v : Value) => ∃ (j : Nat), v = .int .i64 j ∧ j ≤ p.length + 1 ∧ r = p.length + 1 - j ∧ Hid (∀ (m : Nat) (h : m < (p ++ [i]).length), m < j → fK l (p ++ [i])[m] ≠ T) ∧ Sep w0 wq [cellsT B #[.int .u64 id, .int .i64 b, .int .i64 T, .int .i64 x, .int .i64 we, .int .i64 uu, .bool false] 44, cellsT BW #[.slice (some ⟨g2, 0, none⟩) (p.length + 1) k2] 60, intsT .i64 3 (.slice (some ⟨g2, 0, none⟩) (p.length + 1) k2) (wayI (p ++ [i])), cellsT BD (doneV E) 85, cellsT BL #[.slice (some ⟨b1, o1, none⟩) l.length cl] 22, cellsT BF #[fromV BL BD BW BF] 86]) (f 39)) (p.length + 1) (by kernel_rfl) ?atStart2 ?round2
                case' atStart2 => (try dsimp only [nthV])
                case' round2 =>
                  intro gk f wr l hl hrel J2 K2 hJ2 hK2
                  (try simp only [mask] at hl)
                  generalize f 39 = u39 at hl hrel
                  subst hl
                  (try dsimp only at hrel)
                case atStart2 => exact ⟨0, rfl, Nat.zero_le _, rfl, Lib.hid (fun m h hm => absurd hm (Nat.not_lt_zero m)), hs⟩
                case round2 =>
                  clear hs
                  obtain ⟨j, rfl, hj, rfl, HJ, hs⟩ := hrel
                  by_cases hjt : j < p.length + 1
                  · have hjI : (j : Int) < p.length + 1 := by omega
                    have hjl : j < (p ++ [i]).length := by rw [List.length_append, List.length_singleton]; exact hjt
                    obtain ⟨b2, o2, e2, _, r0⟩ := (hs.rdInts 2 rfl).at j (by rw [wayI_len]; exact hjl)
                    cases e2
                    rw [wayI_at hjl, Nat.zero_add] at r0
                    have hk := godMemS HG.out HE.out.lt _ (List.getElem_mem hjl)
                    obtain ⟨b3, o3, e3, _, hc3⟩ := (hs.rdG HRD.out).at _ hk
                    cases e3
                    have y1 := hc3 1 (by decide)
                    simp only [duR, Nat.add_zero, List.getElem?_cons_zero, List.getElem?_cons_succ] at y1
                    obtain ⟨F, hF⟩ : ∃ F, F = (l[(p ++ [i])[j]]).f := ⟨_, rfl⟩
                    have HF := Lib.hid (show fK l (p ++ [i])[j] = F by rw [hF]; unfold fK; rw [List.getD_eq_getElem?_getD, List.getElem?_eq_getElem hk]; rfl)
                    rw [← hF] at y1
                    obtain ⟨k, hkk⟩ : ∃ k, k = (p ++ [i])[j] := ⟨_, rfl⟩
                    rw [← hkk] at r0 hk HF y1
                    have HKK := Lib.hid (show ∃ h : j < (p ++ [i]).length, (p ++ [i])[j] = k from ⟨hjl, hkk.symm⟩)
                    clear hc3 hF hkk
                    have x2 := cell_of (hs.cells 0 rfl) 2
                    have x8 := cell_of (hs.cells 4 rfl) 0
                    simp only [List.getElem?_toArray, List.getElem?_cons_zero, List.getElem?_cons_succ] at x2 x8
                    go_wp2_with fail
                    refine Mix.region [0, 0, 0, 0, 0, 0, 0, 0] (fun _ => True) (by kernel_rfl) (by kernel_rfl) trivial ?_
                    simp only [List.zip_cons_cons, List.zip_nil_right]
                    iterate 8 (refine Mix.step0 fun K hK => ?_; go_simp; (try (go_bits; try go_simp)); first | ((with_reducible refine hK _ _ ?_); clear hK K) | ((try (simp only [IntWalk.iteOmega]; try go_simp)); (try go_bits); (with_reducible refine hK _ _ ?_); clear hK K))
                    refine Mix.done ?_
                    replace hs := hs.drew
                    clear x2 x8 y1 r0
                    go_upto_if 51 with fail
                    have xw := cell_of (hs.cells 1 rfl) 0
                    simp only [List.getElem?_toArray, List.getElem?_cons_zero] at xw
                    by_cases hFT : F = (T : Int)
                    · have HRG := Lib.hid (show RingD l ((p ++ [i]).drop j) from HG.out.ring HE.out j hjl (by obtain ⟨_, e⟩ := HKK.out; rw [e, HF.out]; exact hFT))
                      subst hFT
                      have hcap : p.length + 1 ≤ k2 := (hs.ints 2 rfl).icap
                      have hkj : ¬ k2 = j := by omega
                      have HRR := Lib.hid ((hs.rdInts 2 rfl).dropN j (k2 - j) (p.length + 1 - j) (by rw [wayI_len]; exact hjl) (by rw [wayI_len, List.length_append, List.length_singleton]))
                      go_wp2_with fail
                      rw [Nat.zero_add] at HRR
                      refine (iclone_any _ _ _ HRR.out (by rw [List.length_drop, wayI_len]; have := HPL.out; omega)).mono ?_
                      rintro en w7 ⟨vo, rfl, ks⟩
                      have hs3 := (hs.join ks).takeN 1
                      have hdl : (wayI (p ++ [i])).drop j = wayI ((p ++ [i]).drop j) := by unfold wayI; rw [List.map_drop]
                      rw [hdl] at hs3
                      simp only [List.cons_append, List.nil_append, List.take_succ_cons, List.take_zero] at hs3
                      obtain ⟨av, cv, rfl⟩ := (hs3.rdInts 0 rfl).shape
                      have HNE := Lib.hid (show 0 < (wayI ((p ++ [i]).drop j)).length by rw [wayI_len]; exact List.length_pos_iff.2 HRG.out.ne)
                      obtain ⟨bv, ov, rfl, _⟩ := (hs3.rdInts 0 rfl).at 0 HNE.out
                      clear hs ks xw hdl hcap hkj
                      go_wp2_with fail
                      (repeat rw [Exit.noGoto_ret])
                      go_ret
                      exact .inl ⟨_, _, _, _, rfl, HRG.out, hs3⟩
                    · have HJ2 := Lib.hid (show ∀ (m : Nat) (h : m < (p ++ [i]).length), m < j + 1 → fK l (p ++ [i])[m] ≠ (T : Int) from fun m h hm => by
                        by_cases q : m = j
                        · subst q
                          obtain ⟨_, e⟩ := HKK.out
                          rw [e, HF.out]
                          exact hFT
                        · exact HJ.out m h (by omega))
                      go_wp2_with fail
                      refine Round.intro (p.length + 1 - (j + 1)) ?measure3 (by kernel_rfl) (hJ2 _ _ _ ?rel3)
                      case' rel3 => (try dsimp only [nthV])
                      case measure3 => omega
                      case rel3 => exact ⟨j + 1, by go_num, hjt, rfl, HJ2, hs⟩
                  · obtain rfl : j = p.length + 1 := by omega
                    have HG2 := Lib.hid (HG.out.next HE.out hT fun q hq => by
                      obtain ⟨m, hm, e⟩ := List.mem_iff_getElem.1 hq
                      rw [← e]
                      exact HJ.out m hm (by rw [List.length_append, List.length_singleton] at hm; exact hm))
                    have xb := cell_of (hs.cells 5 rfl) 0
                    have x2 := cell_of (hs.cells 0 rfl) 2
                    simp only [List.getElem?_toArray, List.getElem?_cons_zero, List.getElem?_cons_succ] at x2 xb
                    unfold fromV at xb
                    have HC := Lib.hid (HIH.out w0 _ _ (p ++ [i]) E T (by have := HN.out; rw [List.length_append, List.length_singleton]; omega) HG2.out HI.out.ring HI.out.len HRD.out hs.tail)
                    have hen := fun W args => ent_find1 W args
                    go_wp2_with fail
                    refine HC.out.mono ?_
                    clear HC hs xb x2
                    rintro en w7 (⟨av, nv, cv, q, rfl, hq, hs⟩ | ⟨vv, E', rfl, hE1, hE2, hE3, hs⟩)
                    · have HQ := Lib.hid hq
                      have hnil := fun (W : World) => run_neq_slice_nil_any (P := Try.prog) W 60 3 (some av) nv cv 0 0 Try.underlying60
                      clear hq
                      go_wp2_with fail
                      (repeat rw [Exit.noGoto_ret])
                      go_ret
                      exact .inl ⟨_, _, _, _, rfl, HQ.out, hs⟩
                    · have HE1 := Lib.hid hE1
                      have HE2 := Lib.hid hE2
                      have HE3 := Lib.hid hE3
                      clear hE1 hE2 hE3
                      have hnil := fun (W : World) => run_neq_slice_nil_any (P := Try.prog) W 60 3 none 0 0 0 0 Try.underlying60
                      unfold dfsL at hs
                      have hwl : (wayI (p ++ [i])).length = p.length + 1 := by rw [wayI_len, List.length_append, List.length_singleton]
                      obtain ⟨av, cv, rfl⟩ := (hs.rdInts 1 rfl).shape
                      obtain ⟨g3, _, e3, _⟩ := (hs.ints 1 rfl).get 0 (by omega)
                      injection e3 with e3 e4 e5
                      subst e3
                      subst e5
                      clear e4
                      rw [hwl] at hs
                      have hcap : p.length + 1 ≤ cv := (hs.ints 1 rfl).icap
                      have HWL := Lib.hid hwl
                      clear hwl
                      have xw := cell_of (hs.cells 0 rfl) 0
                      have xf := frozen_of (hs.cells 0 rfl) 0
                      simp only [List.getElem?_toArray, List.getElem?_cons_zero] at xw
                      have HT := Lib.hid (show (wayI (p ++ [i])).take p.length = wayI p by rw [wayI_snoc, ← wayI_len p, List.take_left])
                      have HS := Lib.hid (show LookD l D E' b (i + 1) from ⟨HI.out.more.trans HE1.out, HE3.out, by rw [HE1.out.1]; exact HI.out.len, fun k c hk e => by
                        by_cases q : k = i
                        · subst q
                          have h2 := e.to
                          rw [HE.out.to] at h2
                          rw [← h2]
                          exact HE2.out
                        · exact HE1.out.2 _ (HI.out.all k c (by omega) e)⟩)
                      go_wp2_with fail
                      have hs3 := (hs.setC 0 rfl 0 (.slice (some ⟨g3, 0, none⟩) p.length cv) #[.slice (some ⟨g3, 0, none⟩) p.length cv] rfl).shortInts 1 rfl p.length (by rw [HWL.out]; omega)
                      (try simp only [List.set_cons_zero, List.set_cons_succ] at hs3)
                      rw [HT.out] at hs3
                      refine Round.intro (l.length - (i + 1)) ?measure4 (by kernel_rfl) (hJ1 _ _ _ ?rel4)
                      case' rel4 => (try dsimp only [nthV])
                      case measure4 => omega
                      case rel4 => exact ⟨i + 1, _, E', by go_num, hlt, rfl, HS, hs3⟩
            · rw [hET] at c3
              have HS := Lib.hid (HI.out.skip fun c e => by rw [← e.to, ← HX.out]; exact hET)
              clear hET
              go_wp2_with fail
              refine Round.intro (l.length - (i + 1)) ?measure5 (by kernel_rfl) (hJ1 _ _ _ ?rel5)
              case' rel5 => (try dsimp only [nthV])
              case measure5 => omega
              case rel5 => exact ⟨i + 1, u, E, by go_num, hlt, rfl, HS, hs.tail⟩
          · have HS := Lib.hid (HI.out.skip fun c e => absurd e.fr (by rw [← HX.out]; exact hfb))
            go_wp2_with fail
            refine Round.intro (l.length - (i + 1)) ?measure6 (by kernel_rfl) (hJ1 _ _ _ ?rel6)
            case' rel6 => (try dsimp only [nthV])
            case measure6 => omega
            case rel6 => exact ⟨i + 1, u, E, by go_num, hlt, rfl, HS, hs.tail⟩
        · have HS := Lib.hid (HI.out.skip fun c e => absurd e.opn (by rw [← HX.out]; simp))
          go_wp2_with fail
          refine Round.intro (l.length - (i + 1)) ?measure7 (by kernel_rfl) (hJ1 _ _ _ ?rel7)
          case' rel7 => (try dsimp only [nthV])
          case measure7 => omega
          case rel7 => exact ⟨i + 1, u, E, by go_num, hlt, rfl, HS, hs.tail⟩
      · obtain rfl : i = l.length := by omega
        unfold dfsL at hs
        have x0 := cell_of (hs.cells 2 rfl) b
        have xf := fun j => frozen_of (hs.cells 2 rfl) j
        rw [doneV_at (by rw [HI.out.len]; exact hb16)] at x0
        have HNG := Lib.hid (HI.out.ring.more HL.out HI.out.len hb16 (fun k c e => HI.out.all k c e.lt e))
        have HMO := Lib.hid (HI.out.more.trans (MoreD.set E b))
        have HGB := Lib.hid (show (E.set b true).getD b false = true by
          have := HI.out.len
          rw [List.getD_eq_getElem?_getD, List.getElem?_set, if_pos rfl, if_pos (by omega)]; rfl)
        go_wp2_with fail
        (repeat rw [Exit.noGoto_ret])
        go_ret
        have hs3 := hs.setC 2 rfl b (.bool true) (doneV (E.set b true)) (doneV_set E b true)
        (try simp only [List.set_cons_zero, List.set_cons_succ] at hs3)
        exact .inr ⟨_, _, rfl, HMO.out, HGB.out, HNG.out, hs3⟩
end Go.Proofs.Ytjijhpflkkicaaa
