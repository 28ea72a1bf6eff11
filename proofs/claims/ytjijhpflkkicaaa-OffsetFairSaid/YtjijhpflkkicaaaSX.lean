/-
  Package solve: the way back, what a solver is.
-/
import Derived.Test.YtjijhpflkkicaaaSWa
import Derived.Test.YtjijhpflkkicaaaRangeV
import Derived.Sort.LoopGhostIn
import Derived.Test.YtjijhpflkkicaaaPD
set_option linter.unusedVariables false
set_option linter.unusedSimpArgs false
namespace Go.SolveP
open Go Go.Mem Go.NetP Go.RestP Go.CertP Go.PathP
/-- A way back, as the walk is told of it. -/
def BK (es : List Ed) (B : List Int) (N : Nat) : Nat → List (Nat × Nat) → Prop
  | v, [] => v < N ∧ g B v < 0
  | v, p :: P => v < N ∧ g B v = p.1 ∧ p.1 < 2 * es.length ∧ (endsE es p.1).1 = p.2 ∧ BK es B N p.2 P
theorem BK.lt {es : List Ed} {B : List Int} {N v : Nat} {P : List (Nat × Nat)} (h : BK es B N v P) : v < N := by
  cases P with
  | nil => exact h.1
  | cons p P => exact h.1
theorem BW.bk {es : List Ed} {fl pot D H B : List Int} {N v : Nat} {P : List (Nat × Nat)} {src : Nat → Prop} (hr : rightB N es = true) (hn : Net (arcsL es fl pot) src N maxL) (h : BW (arcsL es fl pot) D H B v P) : v < N → BK es B N v P := by
  induction h with
  | nil hb => intro hv; exact ⟨hv, by omega⟩
  | @cons v P a ha hv hb hu hd0 hd hh _ ih =>
    intro h1
    have hu' := hn.u _ ha
    have hi := ih hu'
    obtain ⟨m, hm, hrm, rfl⟩ := arcs_mem.1 ha
    have e := (ends_arc (pot := pot) hr hm).1
    exact ⟨h1, hb, hm, e, hi⟩
theorem FH.bk {N : Nat} {S : St} {D B : List Int} {t : Nat} (h : FH N S D B t) : BK S.es B N t (wayT N S B t) := by
  have ht := h.ff.tN
  obtain ⟨hsi, hsrc, hws, hnear⟩ := h
  obtain ⟨hw, hr, hp, htt⟩ := fits_parts hsi.fits
  obtain ⟨H, hh⟩ := hws.wh (by omega)
  exact BW.bk hr hws.net (back_bw hh hws.net N t ht (hh.hop t ht).2) ht
end Go.SolveP
namespace Go.Proofs.Ytjijhpflkkicaaa
open Go Go.RowKit Go.Mem Go.NetP Go.RestP Go.CertP Go.PathP Go.SolveP Go.Shelf
attribute [local go_sem] Oper.semAt_some
/-- An arc and where it begins, as they are told. -/
def encP (p : Nat × Nat) : Array Value := #[.int .i64 p.1, .int .i64 p.2]
set_option maxRecDepth 100000 in
set_option maxHeartbeats 2000000 in
theorem back1_in (n : Nat) (hn : 1 ≤ n) (l : Nat) (w0 : World) (Bs Bby Bv bs i1 i2 i3 i4 i5 : Nat) (N nE st : Nat) (cE : Nat) (gE : Nat) (es : List Ed) (B : List Int) (vby vf vp vo : Value) (t : Nat) (PL : List (Nat × Nat)) (Mt : List (Nat × Nat) → List Thing) (hn40 : N ≤ 40) (hes : es.length ≤ 200) (hnE : nE = es.length) (hke : ∀ e ∈ es, -1000 ≤ e.k ∧ e.k ≤ 1000)
    (hr : rightB N es = true) (hB : B.length = N)
    (m1 : ∀ pre, (Mt pre)[i1]? = some (cellsT Bby #[vby] 60)) (m2 : ∀ pre, (Mt pre)[i2]? = some (cellsT Bs #[.pointer (some ⟨bs, 0, none⟩)] 79))
    (m3 : ∀ pre, (Mt pre)[i3]? = some (cellsT bs #[.int .i64 N, .slice (some ⟨gE, 0, none⟩) nE cE, vf, vp, vo, .int .i64 st] 81))
    (m4 : ∀ pre, (Mt pre)[i4]? = some (recT edR 77 (.slice (some ⟨gE, 0, none⟩) nE cE) es)) (m5 : ∀ pre, (Mt pre)[i5]? = some (intsT .i64 3 vby B))
    (hbk : BK es B N t PL)
    (J : Array Value → List (Nat × Nat) → World → Prop) (W : World) (hJb : ∀ cs pre W W', J cs pre W → Below W.heap.size W W' → J cs pre W') (hJd : ∀ cs pre W, J cs pre W → J cs pre W.drew) (hJv : ∀ cs pre W u, J cs pre W → J (cs.setIfInBounds 0 u) pre (W.setCell ⟨Bv, 0, none⟩ u))
    (hJs : ∀ cs pre W, J cs pre W → Sep w0 W (cellsT Bv cs 3 :: Mt pre))
    (hJy : ∀ cs pre x W, J cs pre W → (pre ++ [x]) <+: PL → YieldAt Fence.wide (n - 1) Try.prog l (encP x) W fun e W' => e = .returned (.bool true) ∧ J cs (pre ++ [x]) W') (h0 : J #[.int .i64 t] [] W) :
    CallsIn Fence.wide n Try.prog 84 #[.func (.yield l) #[] #[], .pointer (some ⟨Bby, 0, none⟩), .pointer (some ⟨Bv, 0, none⟩), .pointer (some ⟨Bs, 0, none⟩)] W fun e W' => (∃ v, e = .returned v) ∧ ∃ cs, J cs PL W' := by
  subst hnE
  refine callsIn_of_wp Try.func84 rfl trivial ?_ rfl
  simp only [Try.ntmps84, List.size_toArray, List.length_cons, List.length_nil, Nat.reduceAdd, Nat.reduceSub, Array.replicate_succ, Array.replicate_zero, List.push_toArray, List.append_toArray, List.nil_append, List.cons_append]
  have HJB := Lib.hid hJb
  have HJD := Lib.hid hJd
  have HJV := Lib.hid hJv
  have HJS := Lib.hid hJs
  have HJY := Lib.hid hJy
  have M1 := Lib.hid m1
  have M2 := Lib.hid m2
  have M3 := Lib.hid m3
  have M4 := Lib.hid m4
  have M5 := Lib.hid m5
  have HBK := Lib.hid hbk
  have HR := Lib.hid hr
  have HK := Lib.hid hke
  have H0 := Lib.hid h0
  have HB := Lib.hid hB
  clear hJb hJd hJv hJs hJy m1 m2 m3 m4 m5 hbk hr hke h0 hB
  gi_wp2
  gi_loopg [] (PL.length + 1) (fun (k : Nat) wr => ∃ (pre : List (Nat × Nat)) (v : Nat) (P : List (Nat × Nat)), k = P.length + 1 ∧ Hid (PL = pre ++ P) ∧ Hid (BK es B N v P) ∧ J #[.int .i64 v] pre wr)
  case atStart => exact ⟨[], t, PL, rfl, Lib.hid rfl, HBK, H0.out⟩
  case round =>
    clear H0 HBK
    obtain ⟨pre, v, P, rfl, HP, HBK, hj⟩ := hrel
    have hs := HJS.out _ _ _ hj
    have hv := HBK.out.lt
    have y0 := cell_of (hs.cells 0 rfl) 0
    have y1 := cell_of (hs.cells (i1 + 1) (M1.out pre)) 0
    have y2 := cell_of (hs.cells (i2 + 1) (M2.out pre)) 0
    have y3 := cell_of (hs.cells (i3 + 1) (M3.out pre)) 0
    have y4 := cell_of (hs.cells (i3 + 1) (M3.out pre)) 1
    simp only [List.getElem?_toArray, List.getElem?_cons_zero, List.getElem?_cons_succ] at y0 y1 y2 y3 y4
    have hrd := hs.rdInts (i5 + 1) (M5.out pre)
    obtain ⟨ab, cb, rfl⟩ := hrd.shape
    obtain ⟨b, o, eb, _, x1⟩ := hrd.at v (by rw [HB.out]; exact hv)
    subst eb
    have hvB : (v : Int) < B.length := by rw [HB.out]; omega
    have HSE := Lib.hid (hs.rdRecs (i4 + 1) (M4.out pre))
    have HJ := Lib.hid hj
    clear hs hj hrd
    cases P with
    | nil =>
      have hg := HBK.out.2
      obtain ⟨x, hx⟩ : ∃ x, x = g B v := ⟨_, rfl⟩
      rw [show B.getD v 0 = x from hx.symm] at x1
      rw [← hx] at hg
      clear hx
      have d1 : decide (0 ≤ x) = false := decide_eq_false (by omega)
      clear hg
      obtain rfl : PL = pre := by rw [HP.out, List.append_nil]
      gi_wp2
      go_end0
      exact ⟨⟨_, rfl⟩, _, HJ.out⟩
    | cons p P =>
      obtain ⟨a, u⟩ := p
      obtain ⟨_, hg, ha, he, hbk⟩ := HBK.out
      dsimp only at hg ha he hbk
      rw [show B.getD v 0 = (a : Int) from hg] at x1
      have d1 : decide (0 ≤ (a : Int)) = true := decide_eq_true (by omega)
      have hhs : hasB es.length a = true := by unfold hasB; simp; omega
      gi_wp2
      refine ⟨trivial, (callsIn_wide.2 (endsX_any N (some ⟨gE, 0, none⟩) cE es a _ HSE.out (by omega))).mono ?_⟩
      rintro en w2 ⟨rfl, hb⟩
      have hev : endsV N es a = endsE es a := by unfold endsV; rw [hhs, HR.out]; rfl
      rw [hev, he]
      have hj2 := HJB.out _ _ _ _ HJ.out hb
      have hs2 := HJS.out _ _ _ hj2
      clear x1 y0 y1 y2 y3 y4 HJ HSE hhs hev hg hb d1 he
      have y0 := cell_of (hs2.cells 0 rfl) 0
      simp only [List.getElem?_toArray, List.getElem?_cons_zero, List.getElem?_cons_succ] at y0
      have zf := frozen_of (hs2.cells 0 rfl) 0
      obtain ⟨e2, h2⟩ : ∃ e2, e2 = (endsE es a).2.1 := ⟨_, rfl⟩
      obtain ⟨e3, h3⟩ : ∃ e3, e3 = (endsE es a).2.2 := ⟨_, rfl⟩
      rw [← h2, ← h3]
      clear h2 h3 hs2
      have hj3 := HJV.out _ _ _ (.int .i64 (u : Int)) hj2
      clear hj2
      have hj3' : J #[.int .i64 u] pre (w2.setCell ⟨Bv, 0, none⟩ (.int .i64 u)) := hj3
      have z0 := cell_of ((HJS.out _ _ _ hj3').cells 0 rfl) 0
      simp only [List.getElem?_toArray, List.getElem?_cons_zero, List.getElem?_cons_succ] at z0
      have HJ3 := Lib.hid hj3'
      clear hj3 hj3'
      obtain ⟨fn, tmps, assign, body, hy, hR⟩ := HJY.out _ pre (a, u) _ HJ3.out (by rw [HP.out]; exact ⟨P, by simp⟩)
      have HR' := Lib.hid hR
      clear hR
      dsimp only [encP] at hy
      gi_wp2
      refine HR'.out.mono ?_
      rintro en w4 ⟨rfl, hj4⟩
      clear HR' hy y0 z0 HJ3
      gi_wp2
      gi_roundg (P.length + 1)
      case measure => simp
      case rel => exact ⟨_, u, P, rfl, Lib.hid (by rw [HP.out]; simp), Lib.hid hbk, hj4⟩
end Go.Proofs.Ytjijhpflkkicaaa
namespace Go.SolveP
open Go Go.Mem Go.NetP Go.RestP Go.CertP Go.PathP
theorem rootF_snoc (v : Nat) (P : List (Nat × Nat)) (x : Nat × Nat) : rootF v (P ++ [x]) = x.2 := by
  induction P generalizing v with
  | nil => rfl
  | cons p P ih => exact ih p.2
theorem botF_snoc (es : List Ed) (fl : List Int) (P : List (Nat × Nat)) (m : Int) (x : Nat × Nat) : botF es fl (P ++ [x]) m = min (botF es fl P m) (roomE es fl x.1) := by
  unfold botF; rw [List.foldl_append]; rfl
theorem pushP_snoc (fl : List Int) (P : List (Nat × Nat)) (m : Int) (x : Nat × Nat) : pushP fl (P ++ [x]) m = pushL (pushP fl P m) x.1 m := by
  unfold pushP; rw [List.foldl_append]; rfl
theorem pushP_len (m : Int) : ∀ (P : List (Nat × Nat)) (fl : List Int), (pushP fl P m).length = fl.length
  | [], _ => rfl
  | p :: P, fl => by show (pushP (pushL fl p.1 m) P m).length = _; rw [pushP_len m P]; simp [pushL]
theorem pushP_at (m : Int) (j : Nat) : ∀ (P : List (Nat × Nat)) (fl : List Int), (∀ p ∈ P, p.1 / 2 ≠ j) → g (pushP fl P m) j = g fl j
  | [], _, _ => rfl
  | p :: P, fl, h => by
    show g (pushP (pushL fl p.1 m) P m) j = _
    rw [pushP_at m j P _ fun q hq => h q (List.mem_cons_of_mem _ hq)]
    have := h p List.mem_cons_self
    unfold g pushL
    rw [List.getD_eq_getElem?_getD, List.getElem?_set_ne this, ← List.getD_eq_getElem?_getD]
/-- What a way's round is told of its arc. -/
theorem FH.arc {N : Nat} {S : St} {D B : List Int} {t : Nat} (h : FH N S D B t) {pre : List (Nat × Nat)} {x : Nat × Nat} (hp : (pre ++ [x]) <+: wayT N S B t) (m : Int) :
    x.1 < 2 * S.es.length ∧ x.2 < N ∧ g (pushP S.fl pre m) (x.1 / 2) = g S.fl (x.1 / 2) ∧ pre.length < N := by
  have hf := h.ff
  have hm : x ∈ wayT N S B t := hp.subset (by simp)
  obtain ⟨w1, w2, _, _⟩ := hf.way x hm
  have hl := hp.length_le
  simp only [List.length_append, List.length_singleton] at hl
  refine ⟨w1, w2, ?_, by have := hf.wlen; omega⟩
  have ht := hf.tN
  obtain ⟨hsi, hsrc, hws, hnear⟩ := h
  obtain ⟨hw, hr, hp2, htt⟩ := fits_parts hsi.fits
  obtain ⟨H, hh⟩ := hws.wh (by omega)
  have hbw := back_bw hh hws.net N t ht (hh.hop t ht).2
  have hnd := hbw.apart hws.net
  refine pushP_at m _ pre _ fun p hp3 e => ?_
  obtain ⟨T, hT⟩ := hp
  have hnd2 : (((pre ++ [x]) ++ T).map fun p => p.1 / 2).Nodup := by rw [hT]; exact hnd
  rw [List.map_append, List.nodup_append] at hnd2
  have hnd3 := hnd2.1
  rw [List.map_append, List.nodup_append] at hnd3
  exact hnd3.2.2 (p.1 / 2) (List.mem_map.2 ⟨p, hp3, rfl⟩) (x.1 / 2) (by simp) e
theorem FH.bots {N : Nat} {S : St} {D B : List Int} {t : Nat} (h : FH N S D B t) {pre : List (Nat × Nat)} (hp : pre <+: wayT N S B t) : 0 < botF S.es S.fl pre (-(g S.ov t)) ∧ botF S.es S.fl pre (-(g S.ov t)) ≤ -(g S.ov t) := by
  have hf := h.ff
  have ho := hf.ovt
  obtain ⟨b1, _, b3⟩ := bot_spec S.es S.fl pre (-(g S.ov t))
  exact ⟨b3 (by omega) (fun p hp2 => (hf.way p (hp.subset hp2)).2.2.1), b1⟩
theorem roomV_of {n : Int} {es : List Ed} {fl : List Int} {a : Nat} (hw : withinB n es fl = true) (ha : a < 2 * es.length) : roomV n es fl a = roomE es fl a := by
  unfold roomV
  rw [hw, Bool.and_true, if_pos (by rw [hasB_iff]; omega)]
  rfl
end Go.SolveP
namespace Go.Proofs.Ytjijhpflkkicaaa
open Go Go.RowKit Go.Mem Go.NetP Go.RestP Go.CertP Go.PathP Go.SolveP Go.Shelf
/-- A solver, beside other things. -/
def Sol.at (M : Sol) (ex : List Thing) : Sol := { M with ex := ex }
theorem sol_at {M : Sol} {S : St} {w0 w : World} (h : Sep w0 w (solL M S)) : Sep w0 w (solL (M.at M.ex) S) := h
theorem sol_in {M : Sol} {ex : List Thing} {S : St} {w0 w : World} {X : Thing} (h : Sep w0 w (X :: solL (M.at ex) S)) : Sep w0 w (solL (M.at (X :: ex)) S) := by
  refine h.perm ?_
  unfold solL Sol.at
  show (X :: [_, _, _, _, _] ++ ex).Perm ([_, _, _, _, _] ++ X :: ex)
  exact (List.perm_middle (l₁ := [_, _, _, _, _])).symm
theorem sol_out {M : Sol} {ex : List Thing} {S : St} {w0 w : World} {X : Thing} (h : Sep w0 w (solL (M.at (X :: ex)) S)) : Sep w0 w (X :: solL (M.at ex) S) := by
  refine h.perm ?_
  unfold solL Sol.at
  show ([_, _, _, _, _] ++ X :: ex).Perm (X :: [_, _, _, _, _] ++ ex)
  exact List.perm_middle (l₁ := [_, _, _, _, _])
theorem sol_ins (L : List Thing) {M : Sol} {ex : List Thing} {S : St} {w0 w : World} (h : Sep w0 w (L ++ solL (M.at ex) S)) : Sep w0 w (solL (M.at (L ++ ex)) S) := by
  refine h.perm ?_
  unfold solL Sol.at
  show (L ++ ([_, _, _, _, _] ++ ex)).Perm ([_, _, _, _, _] ++ (L ++ ex))
  exact List.perm_append_comm_assoc _ _ _
theorem sol_outs (L : List Thing) {M : Sol} {ex : List Thing} {S : St} {w0 w : World} (h : Sep w0 w (solL (M.at (L ++ ex)) S)) : Sep w0 w (L ++ solL (M.at ex) S) := by
  refine h.perm ?_
  unfold solL Sol.at
  show ([_, _, _, _, _] ++ (L ++ ex)).Perm (L ++ ([_, _, _, _, _] ++ ex))
  exact List.perm_append_comm_assoc _ _ _
theorem sources_x (M : Sol) (ex : List Thing) (S : St) (w0 w : World) (hl : S.ov.length = M.N) (hN : M.N ≤ 40) (hs : Sep w0 w (solL (M.at ex) S)) :
    Calls Try.prog 61 #[.pointer (some ⟨M.bs, 0, none⟩)] w fun e w' => ∃ u, e = .returned u ∧ Sep w0 w' (intsT .i64 3 u (srcK S.ov M.N) :: solL (M.at ex) S) := sources_any (M.at ex) S w0 w hl hN hs
theorem nearest_x (M : Sol) (ex : List Thing) (S : St) (w0 w : World) (vd : Value) (D : List Int) (hl : S.ov.length = M.N) (hN : M.N ≤ 40) (hs : Sep w0 w (solL (M.at ex) S)) (hd : Rd .i64 w vd D) (hD : D.length = M.N) :
    Calls Try.prog 63 #[.pointer (some ⟨M.bs, 0, none⟩), vd] w fun e w' => e = .returned (.int .i64 (nearK S.ov D M.N)) ∧ w' = w := nearest_any (M.at ex) S w0 w vd D hl hN hs hd hD
theorem raise_x (M : Sol) (ex : List Thing) (S : St) (w0 w : World) (vd : Value) (D : List Int) (dt : Int) (hl : S.pot.length = M.N) (hN : M.N ≤ 40) (hb : ∀ v, v < M.N → -1073741824 ≤ g S.pot v ∧ g S.pot v ≤ 1073741824) (h0 : 0 ≤ dt) (h1 : dt ≤ 83751901272) (hs : Sep w0 w (solL (M.at ex) S)) (j : Nat) (hj : ∀ S', (solL (M.at ex) S')[j]? = some (intsT .i64 2 vd D)) (hD : D.length = M.N) :
    Calls Try.prog 66 #[.pointer (some ⟨M.bs, 0, none⟩), vd, .int .i64 dt] w fun e w' => (∃ v, e = .returned v) ∧ Sep w0 w' (solL (M.at ex) { S with pot := raiseN S.pot D dt M.N }) := raise_any (M.at ex) S w0 w vd D dt hl hN hb h0 h1 hs j hj hD
theorem narrow_x (M : Sol) (ex : List Thing) (S : St) (w0 w : World) (hw : withinB M.N S.es S.fl = true) (ht : tightB S.es S.fl S.pot = true) (hl : S.pot.length = M.N) (hs : Sep w0 w (solL (M.at ex) S)) :
    Calls Try.prog 67 #[.pointer (some ⟨M.bs, 0, none⟩)] w fun e w' => (∃ v, e = .returned v) ∧ Sep w0 w' (solL (M.at ex) { S with pot := narrowF S.es S.fl S.pot M.N }) := narrow_any (M.at ex) S w0 w hw ht hl hs
set_option maxRecDepth 100000 in
theorem sback_any (bs : Nat) (ab : Option Addr) (nb cb : Nat) (t : Int) (w : World) :
    Calls Try.prog 64 #[.pointer (some ⟨bs, 0, none⟩), .slice ab nb cb, .int .i64 t] w fun e w' => e = .returned (.func (.func 84) #[] #[.pointer (some ⟨w.heap.size + 1, 0, none⟩), .pointer (some ⟨w.heap.size + 2, 0, none⟩), .pointer (some ⟨w.heap.size, 0, none⟩)]) ∧
      w' = ((w.alloc (.cells #[.pointer (some ⟨bs, 0, none⟩)] 79)).alloc (.cells #[.slice ab nb cb] 60)).alloc (.cells #[.int .i64 t] 3) := by
  go_enter Try.func64, Try.ntmps64
  go_wp2_with fail
  go_ret
  exact ⟨rfl, rfl⟩
end Go.Proofs.Ytjijhpflkkicaaa
