/-
  Package solve: the way back, arc by arc, walked.
-/
import Derived.Test.YtacbfpgijmpilaaSW3
import Derived.Test.YtacbfpgijmpilaaRangeV
import Derived.Sort.LoopGhostIn
set_option linter.unusedVariables false
set_option linter.unusedSimpArgs false
namespace Go.SolveP
open Go Go.Mem Go.NetP Go.RestP Go.CertP Go.PathP
/-- A way back, as the walk is told of it. -/
def BK (es : List Ed) (B : List Int) (N : Nat) : Nat → List (Nat × Nat) → Prop
  | v, [] => v < N ∧ g B v < 0
  | v, p :: P => v < N ∧ g B v = p.1 ∧ p.1 < 2 * es.length ∧ (endsE es p.1).1 = p.2 ∧ BK es B N p.2 P
theorem BK.lt {es : List Ed} {B : List Int} {N v : Nat} {P : List (Nat × Nat)} (h : BK es B N v P) : v < N := by
  cases P with
  | nil => exact h.1
  | cons p P => exact h.1
theorem BW.bk {es : List Ed} {fl pot D H B : List Int} {N v : Nat} {P : List (Nat × Nat)} {src : Nat → Prop} (hr : rightB N es = true) (hn : Net (arcsL es fl pot) src N maxL) (h : BW (arcsL es fl pot) D H B v P) : v < N → BK es B N v P := by
  induction h with
  | nil hb => intro hv; exact ⟨hv, by omega⟩
  | @cons v P a ha hv hb hu hd0 hd hh _ ih =>
    intro h1
    have hu' := hn.u _ ha
    have hi := ih hu'
    obtain ⟨m, hm, hrm, rfl⟩ := arcs_mem.1 ha
    have e := (ends_arc (pot := pot) hr hm).1
    exact ⟨h1, hb, hm, e, hi⟩
theorem FH.bk {N : Nat} {S : St} {D B : List Int} {t : Nat} (h : FH N S D B t) : BK S.es B N t (wayT N S B t) := by
  have ht := h.ff.tN
  obtain ⟨hsi, hsrc, hws, hnear⟩ := h
  obtain ⟨hw, hr, hp, htt⟩ := fits_parts hsi.fits
  obtain ⟨H, hh⟩ := hws.wh (by omega)
  exact BW.bk hr hws.net (back_bw hh hws.net N t ht (hh.hop t ht).2) ht
end Go.SolveP
namespace Go.Proofs.Ytacbfpgijmpilaa
open Go Go.RowKit Go.Mem Go.NetP Go.RestP Go.CertP Go.PathP Go.SolveP Go.Shelf
attribute [local go_sem] Oper.semAt_some
/-- An arc and where it begins, as they are told. -/
def encP (p : Nat × Nat) : Array Value := #[.int .i64 p.1, .int .i64 p.2]
set_option maxRecDepth 100000 in
set_option maxHeartbeats 2000000 in
theorem back1_in (n : Nat) (hn : 1 ≤ n) (l : Nat) (w0 : World) (Bs Bby Bv bs i1 i2 i3 i4 i5 : Nat) (N nE st : Nat) (cE : Nat) (gE : Nat) (es : List Ed) (B : List Int) (vby vf vp vo : Value) (t : Nat) (PL : List (Nat × Nat)) (Mt : List (Nat × Nat) → List Thing) (hn40 : N ≤ 40) (hes : es.length ≤ 200) (hnE : nE = es.length) (hke : ∀ e ∈ es, -1000 ≤ e.k ∧ e.k ≤ 1000)
    (hr : rightB N es = true) (hB : B.length = N)
    (m1 : ∀ pre, (Mt pre)[i1]? = some (cellsT Bby #[vby] 54)) (m2 : ∀ pre, (Mt pre)[i2]? = some (cellsT Bs #[.pointer (some ⟨bs, 0, none⟩)] 46))
    (m3 : ∀ pre, (Mt pre)[i3]? = some (cellsT bs #[.int .i64 N, .slice (some ⟨gE, 0, none⟩) nE cE, vf, vp, vo, .int .i64 st] 48))
    (m4 : ∀ pre, (Mt pre)[i4]? = some (recT edR 34 (.slice (some ⟨gE, 0, none⟩) nE cE) es)) (m5 : ∀ pre, (Mt pre)[i5]? = some (intsT .i64 3 vby B))
    (hbk : BK es B N t PL)
    (J : Array Value → List (Nat × Nat) → World → Prop) (W : World) (hJb : ∀ cs pre W W', J cs pre W → Below W.heap.size W W' → J cs pre W') (hJd : ∀ cs pre W, J cs pre W → J cs pre W.drew) (hJv : ∀ cs pre W u, J cs pre W → J (cs.setIfInBounds 0 u) pre (W.setCell ⟨Bv, 0, none⟩ u))
    (hJs : ∀ cs pre W, J cs pre W → Sep w0 W (cellsT Bv cs 3 :: Mt pre))
    (hJy : ∀ cs pre x W, J cs pre W → (pre ++ [x]) <+: PL → YieldAt Fence.wide (n - 1) Try.prog l (encP x) W fun e W' => e = .returned (.bool true) ∧ J cs (pre ++ [x]) W') (h0 : J #[.int .i64 t] [] W) :
    CallsIn Fence.wide n Try.prog 50 #[.func (.yield l) #[] #[], .pointer (some ⟨Bby, 0, none⟩), .pointer (some ⟨Bv, 0, none⟩), .pointer (some ⟨Bs, 0, none⟩)] W fun e W' => (∃ v, e = .returned v) ∧ ∃ cs, J cs PL W' := by
  subst hnE
  refine callsIn_of_wp Try.func50 rfl trivial ?_ rfl
  simp only [Try.ntmps50, List.size_toArray, List.length_cons, List.length_nil, Nat.reduceAdd, Nat.reduceSub, Array.replicate_succ, Array.replicate_zero, List.push_toArray, List.append_toArray, List.nil_append, List.cons_append]
  have HJB := Lib.hid hJb
  have HJD := Lib.hid hJd
  have HJV := Lib.hid hJv
  have HJS := Lib.hid hJs
  have HJY := Lib.hid hJy
  have M1 := Lib.hid m1
  have M2 := Lib.hid m2
  have M3 := Lib.hid m3
  have M4 := Lib.hid m4
  have M5 := Lib.hid m5
  have HBK := Lib.hid hbk
  have HR := Lib.hid hr
  have HK := Lib.hid hke
  have H0 := Lib.hid h0
  have HB := Lib.hid hB
  clear hJb hJd hJv hJs hJy m1 m2 m3 m4 m5 hbk hr hke h0 hB
  gi_wp2
  gi_loopg [] (PL.length + 1) (fun (k : Nat) wr => ∃ (pre : List (Nat × Nat)) (v : Nat) (P : List (Nat × Nat)), k = P.length + 1 ∧ Hid (PL = pre ++ P) ∧ Hid (BK es B N v P) ∧ J #[.int .i64 v] pre wr)
  case atStart => exact ⟨[], t, PL, rfl, Lib.hid rfl, HBK, H0.out⟩
  case round =>
    clear H0 HBK
    obtain ⟨pre, v, P, rfl, HP, HBK, hj⟩ := hrel
    have hs := HJS.out _ _ _ hj
    have hv := HBK.out.lt
    have y0 := cell_of (hs.cells 0 rfl) 0
    have y1 := cell_of (hs.cells (i1 + 1) (M1.out pre)) 0
    have y2 := cell_of (hs.cells (i2 + 1) (M2.out pre)) 0
    have y3 := cell_of (hs.cells (i3 + 1) (M3.out pre)) 0
    have y4 := cell_of (hs.cells (i3 + 1) (M3.out pre)) 1
    simp only [List.getElem?_toArray, List.getElem?_cons_zero, List.getElem?_cons_succ] at y0 y1 y2 y3 y4
    have hrd := hs.rdInts (i5 + 1) (M5.out pre)
    obtain ⟨ab, cb, rfl⟩ := hrd.shape
    obtain ⟨b, o, eb, _, x1⟩ := hrd.at v (by rw [HB.out]; exact hv)
    subst eb
    have hvB : (v : Int) < B.length := by rw [HB.out]; omega
    have HSE := Lib.hid (hs.rdRecs (i4 + 1) (M4.out pre))
    have HJ := Lib.hid hj
    clear hs hj hrd
    cases P with
    | nil =>
      have hg := HBK.out.2
      obtain ⟨x, hx⟩ : ∃ x, x = g B v := ⟨_, rfl⟩
      rw [show B.getD v 0 = x from hx.symm] at x1
      rw [← hx] at hg
      clear hx
      have d1 : decide (0 ≤ x) = false := decide_eq_false (by omega)
      clear hg
      obtain rfl : PL = pre := by rw [HP.out, List.append_nil]
      gi_wp2
      go_end0
      exact ⟨⟨_, rfl⟩, _, HJ.out⟩
    | cons p P =>
      obtain ⟨a, u⟩ := p
      obtain ⟨_, hg, ha, he, hbk⟩ := HBK.out
      dsimp only at hg ha he hbk
      rw [show B.getD v 0 = (a : Int) from hg] at x1
      have d1 : decide (0 ≤ (a : Int)) = true := decide_eq_true (by omega)
      have hhs : hasB es.length a = true := by unfold hasB; simp; omega
      gi_wp2
      refine ⟨trivial, (callsIn_wide.2 (endsX_any N (some ⟨gE, 0, none⟩) cE es a _ HSE.out (by omega))).mono ?_⟩
      rintro en w2 ⟨rfl, hb⟩
      have hev : endsV N es a = endsE es a := by unfold endsV; rw [hhs, HR.out]; rfl
      rw [hev, he]
      have hj2 := HJB.out _ _ _ _ HJ.out hb
      have hs2 := HJS.out _ _ _ hj2
      clear x1 y0 y1 y2 y3 y4 HJ HSE hhs hev hg hb d1 he
      have y0 := cell_of (hs2.cells 0 rfl) 0
      simp only [List.getElem?_toArray, List.getElem?_cons_zero, List.getElem?_cons_succ] at y0
      have zf := frozen_of (hs2.cells 0 rfl) 0
      obtain ⟨e2, h2⟩ : ∃ e2, e2 = (endsE es a).2.1 := ⟨_, rfl⟩
      obtain ⟨e3, h3⟩ : ∃ e3, e3 = (endsE es a).2.2 := ⟨_, rfl⟩
      rw [← h2, ← h3]
      clear h2 h3 hs2
      have hj3 := HJV.out _ _ _ (.int .i64 (u : Int)) hj2
      clear hj2
      have hj3' : J #[.int .i64 u] pre (w2.setCell ⟨Bv, 0, none⟩ (.int .i64 u)) := hj3
      have z0 := cell_of ((HJS.out _ _ _ hj3').cells 0 rfl) 0
      simp only [List.getElem?_toArray, List.getElem?_cons_zero, List.getElem?_cons_succ] at z0
      have HJ3 := Lib.hid hj3'
      clear hj3 hj3'
      obtain ⟨fn, tmps, assign, body, hy, hR⟩ := HJY.out _ pre (a, u) _ HJ3.out (by rw [HP.out]; exact ⟨P, by simp⟩)
      have HR' := Lib.hid hR
      clear hR
      dsimp only [encP] at hy
      gi_wp2
      refine HR'.out.mono ?_
      rintro en w4 ⟨rfl, hj4⟩
      clear HR' hy y0 z0 HJ3
      gi_wp2
      gi_roundg (P.length + 1)
      case measure => simp
      case rel => exact ⟨_, u, P, rfl, Lib.hid (by rw [HP.out]; simp), Lib.hid hbk, hj4⟩
end Go.Proofs.Ytacbfpgijmpilaa
