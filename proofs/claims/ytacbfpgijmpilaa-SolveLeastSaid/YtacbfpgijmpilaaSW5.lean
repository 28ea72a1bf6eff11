/-
  Package solve: what a fill's walk needs.
-/
import Derived.Test.YtacbfpgijmpilaaSW4
import Derived.Test.YtacbfpgijmpilaaPD
set_option linter.unusedVariables false
set_option linter.unusedSimpArgs false
namespace Go.SolveP
open Go Go.Mem Go.NetP Go.RestP Go.CertP Go.PathP
theorem rootF_snoc (v : Nat) (P : List (Nat × Nat)) (x : Nat × Nat) : rootF v (P ++ [x]) = x.2 := by
  induction P generalizing v with
  | nil => rfl
  | cons p P ih => exact ih p.2
theorem botF_snoc (es : List Ed) (fl : List Int) (P : List (Nat × Nat)) (m : Int) (x : Nat × Nat) : botF es fl (P ++ [x]) m = min (botF es fl P m) (roomE es fl x.1) := by
  unfold botF; rw [List.foldl_append]; rfl
theorem pushP_snoc (fl : List Int) (P : List (Nat × Nat)) (m : Int) (x : Nat × Nat) : pushP fl (P ++ [x]) m = pushL (pushP fl P m) x.1 m := by
  unfold pushP; rw [List.foldl_append]; rfl
theorem pushP_len (m : Int) : ∀ (P : List (Nat × Nat)) (fl : List Int), (pushP fl P m).length = fl.length
  | [], _ => rfl
  | p :: P, fl => by show (pushP (pushL fl p.1 m) P m).length = _; rw [pushP_len m P]; simp [pushL]
theorem pushP_at (m : Int) (j : Nat) : ∀ (P : List (Nat × Nat)) (fl : List Int), (∀ p ∈ P, p.1 / 2 ≠ j) → g (pushP fl P m) j = g fl j
  | [], _, _ => rfl
  | p :: P, fl, h => by
    show g (pushP (pushL fl p.1 m) P m) j = _
    rw [pushP_at m j P _ fun q hq => h q (List.mem_cons_of_mem _ hq)]
    have := h p List.mem_cons_self
    unfold g pushL
    rw [List.getD_eq_getElem?_getD, List.getElem?_set_ne this, ← List.getD_eq_getElem?_getD]
/-- What a way's round is told of its arc. -/
theorem FH.arc {N : Nat} {S : St} {D B : List Int} {t : Nat} (h : FH N S D B t) {pre : List (Nat × Nat)} {x : Nat × Nat} (hp : (pre ++ [x]) <+: wayT N S B t) (m : Int) :
    x.1 < 2 * S.es.length ∧ x.2 < N ∧ g (pushP S.fl pre m) (x.1 / 2) = g S.fl (x.1 / 2) ∧ pre.length < N := by
  have hf := h.ff
  have hm : x ∈ wayT N S B t := hp.subset (by simp)
  obtain ⟨w1, w2, _, _⟩ := hf.way x hm
  have hl := hp.length_le
  simp only [List.length_append, List.length_singleton] at hl
  refine ⟨w1, w2, ?_, by have := hf.wlen; omega⟩
  have ht := hf.tN
  obtain ⟨hsi, hsrc, hws, hnear⟩ := h
  obtain ⟨hw, hr, hp2, htt⟩ := fits_parts hsi.fits
  obtain ⟨H, hh⟩ := hws.wh (by omega)
  have hbw := back_bw hh hws.net N t ht (hh.hop t ht).2
  have hnd := hbw.apart hws.net
  refine pushP_at m _ pre _ fun p hp3 e => ?_
  obtain ⟨T, hT⟩ := hp
  have hnd2 : (((pre ++ [x]) ++ T).map fun p => p.1 / 2).Nodup := by rw [hT]; exact hnd
  rw [List.map_append, List.nodup_append] at hnd2
  have hnd3 := hnd2.1
  rw [List.map_append, List.nodup_append] at hnd3
  exact hnd3.2.2 (p.1 / 2) (List.mem_map.2 ⟨p, hp3, rfl⟩) (x.1 / 2) (by simp) e
theorem FH.bots {N : Nat} {S : St} {D B : List Int} {t : Nat} (h : FH N S D B t) {pre : List (Nat × Nat)} (hp : pre <+: wayT N S B t) : 0 < botF S.es S.fl pre (-(g S.ov t)) ∧ botF S.es S.fl pre (-(g S.ov t)) ≤ -(g S.ov t) := by
  have hf := h.ff
  have ho := hf.ovt
  obtain ⟨b1, _, b3⟩ := bot_spec S.es S.fl pre (-(g S.ov t))
  exact ⟨b3 (by omega) (fun p hp2 => (hf.way p (hp.subset hp2)).2.2.1), b1⟩
theorem roomV_of {n : Int} {es : List Ed} {fl : List Int} {a : Nat} (hw : withinB n es fl = true) (ha : a < 2 * es.length) : roomV n es fl a = roomE es fl a := by
  unfold roomV
  rw [hw, Bool.and_true, if_pos (by rw [hasB_iff]; omega)]
  rfl
end Go.SolveP
namespace Go.Proofs.Ytacbfpgijmpilaa
open Go Go.RowKit Go.Mem Go.NetP Go.RestP Go.CertP Go.PathP Go.SolveP Go.Shelf
/-- A solver, beside other things. -/
def Sol.at (M : Sol) (ex : List Thing) : Sol := { M with ex := ex }
theorem sol_at {M : Sol} {S : St} {w0 w : World} (h : Sep w0 w (solL M S)) : Sep w0 w (solL (M.at M.ex) S) := h
theorem sol_in {M : Sol} {ex : List Thing} {S : St} {w0 w : World} {X : Thing} (h : Sep w0 w (X :: solL (M.at ex) S)) : Sep w0 w (solL (M.at (X :: ex)) S) := by
  refine h.perm ?_
  unfold solL Sol.at
  show (X :: [_, _, _, _, _] ++ ex).Perm ([_, _, _, _, _] ++ X :: ex)
  exact (List.perm_middle (l₁ := [_, _, _, _, _])).symm
theorem sol_out {M : Sol} {ex : List Thing} {S : St} {w0 w : World} {X : Thing} (h : Sep w0 w (solL (M.at (X :: ex)) S)) : Sep w0 w (X :: solL (M.at ex) S) := by
  refine h.perm ?_
  unfold solL Sol.at
  show ([_, _, _, _, _] ++ X :: ex).Perm (X :: [_, _, _, _, _] ++ ex)
  exact List.perm_middle (l₁ := [_, _, _, _, _])
theorem sol_ins (L : List Thing) {M : Sol} {ex : List Thing} {S : St} {w0 w : World} (h : Sep w0 w (L ++ solL (M.at ex) S)) : Sep w0 w (solL (M.at (L ++ ex)) S) := by
  refine h.perm ?_
  unfold solL Sol.at
  show (L ++ ([_, _, _, _, _] ++ ex)).Perm ([_, _, _, _, _] ++ (L ++ ex))
  exact List.perm_append_comm_assoc _ _ _
theorem sol_outs (L : List Thing) {M : Sol} {ex : List Thing} {S : St} {w0 w : World} (h : Sep w0 w (solL (M.at (L ++ ex)) S)) : Sep w0 w (L ++ solL (M.at ex) S) := by
  refine h.perm ?_
  unfold solL Sol.at
  show ([_, _, _, _, _] ++ (L ++ ex)).Perm (L ++ ([_, _, _, _, _] ++ ex))
  exact List.perm_append_comm_assoc _ _ _
theorem sources_x (M : Sol) (ex : List Thing) (S : St) (w0 w : World) (hl : S.ov.length = M.N) (hN : M.N ≤ 40) (hs : Sep w0 w (solL (M.at ex) S)) :
    Calls Try.prog 31 #[.pointer (some ⟨M.bs, 0, none⟩)] w fun e w' => ∃ u, e = .returned u ∧ Sep w0 w' (intsT .i64 3 u (srcK S.ov M.N) :: solL (M.at ex) S) := sources_any (M.at ex) S w0 w hl hN hs
theorem nearest_x (M : Sol) (ex : List Thing) (S : St) (w0 w : World) (vd : Value) (D : List Int) (hl : S.ov.length = M.N) (hN : M.N ≤ 40) (hs : Sep w0 w (solL (M.at ex) S)) (hd : Rd .i64 w vd D) (hD : D.length = M.N) :
    Calls Try.prog 33 #[.pointer (some ⟨M.bs, 0, none⟩), vd] w fun e w' => e = .returned (.int .i64 (nearK S.ov D M.N)) ∧ w' = w := nearest_any (M.at ex) S w0 w vd D hl hN hs hd hD
theorem raise_x (M : Sol) (ex : List Thing) (S : St) (w0 w : World) (vd : Value) (D : List Int) (dt : Int) (hl : S.pot.length = M.N) (hN : M.N ≤ 40) (hb : ∀ v, v < M.N → -1073741824 ≤ g S.pot v ∧ g S.pot v ≤ 1073741824) (h0 : 0 ≤ dt) (h1 : dt ≤ 83751901272) (hs : Sep w0 w (solL (M.at ex) S)) (j : Nat) (hj : ∀ S', (solL (M.at ex) S')[j]? = some (intsT .i64 2 vd D)) (hD : D.length = M.N) :
    Calls Try.prog 36 #[.pointer (some ⟨M.bs, 0, none⟩), vd, .int .i64 dt] w fun e w' => (∃ v, e = .returned v) ∧ Sep w0 w' (solL (M.at ex) { S with pot := raiseN S.pot D dt M.N }) := raise_any (M.at ex) S w0 w vd D dt hl hN hb h0 h1 hs j hj hD
theorem narrow_x (M : Sol) (ex : List Thing) (S : St) (w0 w : World) (hw : withinB M.N S.es S.fl = true) (ht : tightB S.es S.fl S.pot = true) (hl : S.pot.length = M.N) (hs : Sep w0 w (solL (M.at ex) S)) :
    Calls Try.prog 37 #[.pointer (some ⟨M.bs, 0, none⟩)] w fun e w' => (∃ v, e = .returned v) ∧ Sep w0 w' (solL (M.at ex) { S with pot := narrowF S.es S.fl S.pot M.N }) := narrow_any (M.at ex) S w0 w hw ht hl hs
set_option maxRecDepth 100000 in
theorem sback_any (bs : Nat) (ab : Option Addr) (nb cb : Nat) (t : Int) (w : World) :
    Calls Try.prog 34 #[.pointer (some ⟨bs, 0, none⟩), .slice ab nb cb, .int .i64 t] w fun e w' => e = .returned (.func (.func 50) #[] #[.pointer (some ⟨w.heap.size + 1, 0, none⟩), .pointer (some ⟨w.heap.size + 2, 0, none⟩), .pointer (some ⟨w.heap.size, 0, none⟩)]) ∧
      w' = ((w.alloc (.cells #[.pointer (some ⟨bs, 0, none⟩)] 46)).alloc (.cells #[.slice ab nb cb] 54)).alloc (.cells #[.int .i64 t] 3) := by
  go_enter Try.func34, Try.ntmps34
  go_wp2_with fail
  go_ret
  exact ⟨rfl, rfl⟩
end Go.Proofs.Ytacbfpgijmpilaa
