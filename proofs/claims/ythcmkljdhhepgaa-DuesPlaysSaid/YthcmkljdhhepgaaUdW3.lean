/-
  Package dues: Add, walked.
-/
import Derived.Test.YthcmkljdhhepgaaUdW2
set_option linter.unusedVariables false
set_option linter.unusedSimpArgs false
namespace Go.Proofs.Ythcmkljdhhepgaa
open Go Go.RowKit Go.Mem Go.MoneyP Go.NetP Go.BuildP Go.DuesP Go.Maps Go.Shelf
attribute [local go_sem] Oper.semAt_some
theorem Sep.mapLen {α : Type} {kk : IntKind} {kf : α → Int} {vf : α → Value} {P : Program} {w0 w : World} {L : List Thing} {xs : List α} {b : Nat} {t k e : TypeId} (h : Sep w0 w L) (i : Nat) (hi : L[i]? = some (dmapT kk kf vf b xs)) (ht : P.underlying t = some (.map k e)) (ty : TypeId) :
    (Builtin.len_ #[t] ty #[.map (some b)]).run P w = .ok (.int .i64 xs.length) w := by
  obtain ⟨S, _, es, clock, hb, hst, he, hwf⟩ := h.at i hi
  have := ents_len he
  simp [Builtin.len_, run_underlying ht, MapKept.run_getObj_map hb, goInt, this]
section
variable {w0 w : World} {L : List Thing} {i b : Nat} {xs : List Du} {nx : Int}
/-- What Add says and leaves. -/
def AddD (w0 : World) (L : List Thing) (i b : Nat) (xs : List Du) (nx : Int) (d : Du) (en : Ending) (w' : World) : Prop :=
  en = .returned (.tuple #[.int .u64 (addI xs nx d), .int .i64 (addE xs nx d)]) ∧ Sep w0 w' (L.set i (duesT b (addS xs nx d) (addN xs nx d)))
theorem add_err {d : Du} {e : Int} (h : addE xs nx d = e) (he : e ≠ 0) : addI xs nx d = 0 ∧ addS xs nx d = xs ∧ addN xs nx d = nx := by
  unfold addI addS addN
  rw [h, if_neg he, if_neg he, if_neg he]
  exact ⟨rfl, rfl, rfl⟩
theorem add_err1 {d : Du} (h : mayD d = false) : addE xs nx d = 1 := by unfold addE; rw [if_pos h]
theorem add_err6 {d : Du} (h : mayD d = true) (h2 : 64 ≤ xs.length ∨ 4611686018427387904 ≤ nx) : addE xs nx d = 6 := by unfold addE; rw [if_neg (by rw [h]; simp), if_pos h2]
theorem add_sum {d : Du} (h : mayD d = true) (h2 : ¬ (64 ≤ xs.length ∨ 4611686018427387904 ≤ nx)) : addE xs nx d = sumE (xs.map (·.x) ++ [d.x]) := by unfold addE; rw [if_neg (by rw [h]; simp), if_neg h2]
theorem add_end {A B : Thing} {bm : Nat} (hi : L[i]? = some A) (h : Sep w0 w (B :: dueO b bm nx :: dueT bm xs :: L.eraseIdx i)) : Sep w0 w (L.set i (duesT b xs nx)) := Sep.dueClose hi h.tail
set_option maxRecDepth 100000 in
set_option maxHeartbeats 2000000 in
theorem duesAdd_any (hs : Sep w0 w L) (hi : L[i]? = some (duesT b xs nx)) (hg : GoodS xs nx) (f t x we u : Int) :
    Calls Try.prog 9 #[.pointer (some ⟨b, 0, none⟩), .int .i64 f, .int .i64 t, .int .i64 x, .int .i64 we, .int .i64 u] w fun en w' => AddD w0 L i b xs nx ⟨nx, f, t, x, we, u, false⟩ en w' := by
  obtain ⟨bm, h⟩ := Sep.dueOpen hs hi
  obtain ⟨i0, hi0, hz0, hz1, hz2⟩ := info_parts Try.infoDuz
  obtain ⟨j0, hj0, hy0, hy1, hy2⟩ := info_parts Try.infoI64b
  have c0 := cell_of ((h).cells 0 rfl) 0
  have c1 := cell_of ((h).cells 0 rfl) 1
  simp only [List.getElem?_toArray, List.getElem?_cons_zero, List.getElem?_cons_succ] at c0 c1
  have HI := Lib.hid hi
  have HG := Lib.hid hg
  have hB := h.newCells #[.int .u64 nx, .int .i64 f, .int .i64 t, .int .i64 x, .int .i64 we, .int .i64 u, .bool false] 36
  have e0 := cell_of ((hB).cells 0 rfl) 0
  have e1 := cell_of ((hB).cells 0 rfl) 1
  have e2 := cell_of ((hB).cells 0 rfl) 2
  have e3 := cell_of ((hB).cells 0 rfl) 3
  have e4 := cell_of ((hB).cells 0 rfl) 4
  have e5 := cell_of ((hB).cells 0 rfl) 5
  have e6 := cell_of ((hB).cells 0 rfl) 6
  simp only [List.getElem?_toArray, List.getElem?_cons_zero, List.getElem?_cons_succ] at e0 e1 e2 e3 e4 e5 e6
  obtain ⟨BD, hBD⟩ : ∃ BD, BD = w.heap.size := ⟨_, rfl⟩
  have HB := Lib.hid hB
  clear h hs hi hg hB
  go_enter Try.func9, Try.ntmps9
  go_wp2_with fail
  refine (dmay_any ⟨nx, f, t, x, we, u, false⟩ _).mono ?_
  rintro en W2 ⟨rfl, hbl⟩
  have h2 := HB.out.belowStep hbl
  rw [← hBD] at h2 ⊢
  clear hbl HB hBD e0 e1 e2 e3 e4 e5 e6 c0 c1
  cases hm : mayD ⟨nx, f, t, x, we, u, false⟩
  · have HE := Lib.hid (add_err1 (xs := xs) (nx := nx) hm)
    obtain ⟨z1, z2, z3⟩ := add_err HE.out (by decide)
    have HI1 := Lib.hid z1
    have HS := Lib.hid (show Sep w0 W2 (L.set i (duesT b (addS xs nx ⟨nx, f, t, x, we, u, false⟩) (addN xs nx ⟨nx, f, t, x, we, u, false⟩))) by rw [z2, z3]; exact add_end HI.out h2)
    clear z1 z2 z3 h2
    go_wp2_with fail
    go_ret2
    exact ⟨by rw [HI1.out, HE.out]; rfl, HS.out⟩
  · have HM := Lib.hid hm
    clear hm
    have c0 := cell_of ((h2).cells 1 rfl) 0
    have c1 := cell_of ((h2).cells 1 rfl) 1
    simp only [List.getElem?_toArray, List.getElem?_cons_zero, List.getElem?_cons_succ] at c0 c1
    have hlen : ∀ ty, (Builtin.len_ #[62] ty #[.map (some bm)]).run Try.prog W2 = .ok (.int .i64 xs.length) W2 := fun ty => Sep.mapLen h2 2 rfl Try.underlying62 ty
    by_cases h64 : 64 ≤ xs.length
    · have h64I : (64 : Int) ≤ (xs.length : Int) := by omega
      have HE := Lib.hid (add_err6 (xs := xs) (nx := nx) HM.out (.inl h64))
      obtain ⟨z1, z2, z3⟩ := add_err HE.out (by decide)
      have HI1 := Lib.hid z1
      have HS := Lib.hid (show Sep w0 W2 (L.set i (duesT b (addS xs nx ⟨nx, f, t, x, we, u, false⟩) (addN xs nx ⟨nx, f, t, x, we, u, false⟩))) by rw [z2, z3]; exact add_end HI.out h2)
      clear z1 z2 z3 h2
      go_wp2_with fail
      go_ret2
      exact ⟨by rw [HI1.out, HE.out]; rfl, HS.out⟩
    · have h64I : ¬ (64 : Int) ≤ (xs.length : Int) := by omega
      by_cases hlast : 4611686018427387904 ≤ nx
      · have HE := Lib.hid (add_err6 (xs := xs) (nx := nx) HM.out (.inr hlast))
        obtain ⟨z1, z2, z3⟩ := add_err HE.out (by decide)
        have HI1 := Lib.hid z1
        have HS := Lib.hid (show Sep w0 W2 (L.set i (duesT b (addS xs nx ⟨nx, f, t, x, we, u, false⟩) (addN xs nx ⟨nx, f, t, x, we, u, false⟩))) by rw [z2, z3]; exact add_end HI.out h2)
        clear z1 z2 z3 h2
        go_wp2_with fail
        go_ret2
        exact ⟨by rw [HI1.out, HE.out]; rfl, HS.out⟩
      · have HSE := Lib.hid (add_sum (xs := xs) (nx := nx) (d := ⟨nx, f, t, x, we, u, false⟩) HM.out (by rintro (q | q) <;> omega))
        have hxl : xs.length ≤ 1000 := by omega
        have HAM := Lib.hid (amounts_any h2 1 2 b bm nx xs rfl rfl hxl)
        clear h2
        go_wp2_with fail
        clear hlen
        refine HAM.out.mono ?_
        rintro en W3 ⟨ua, ams, rfl, hp, h3⟩
        have HL := Lib.hid (show ams.length = xs.length by rw [hp.length_eq, List.length_map])
        obtain ⟨aa, ca, rfl⟩ := (h3.rdInts 0 rfl).shape
        have HPP := Lib.hid (hp.append_right [x])
        have HSM := Lib.hid (show sumE (ams ++ [x]) = addE xs nx ⟨nx, f, t, x, we, u, false⟩ by rw [HSE.out]; exact (sumE_perm (hp.append_right [x])).1)
        obtain ⟨AE, hAE⟩ : ∃ AE, AE = addE xs nx ⟨nx, f, t, x, we, u, false⟩ := ⟨_, rfl⟩
        have HAE := Lib.hid hAE
        rw [← hAE] at HSM
        have haml : ams.length ≤ 1000 := by have := HL.out; omega
        clear HAM hp hAE HSE
        go_wp2_with (at_builtin; refine wpList_appInt rfl (.tmp 47) (.tmp 49) 68 rfl 2 j0 _ 8 Try.underlying68 hj0 hy0 hy1 hy2 rfl _ ams .i64 x h3 0 rfl rfl rfl ?c3 ?c4 ?grow)
        case c3 => unfold maxLen; omega
        case c4 => omega
        case grow =>
          intro v' W5 h5 hsh
          obtain ⟨gg, cap, rfl⟩ := hsh.out
          have h5 : Sep w0 W5 (intsT .i64 2 (.slice (some ⟨gg, 0, none⟩) (ams.length + 1) cap) (ams ++ [x]) :: duC BD ⟨nx, f, t, x, we, u, false⟩ :: dueO b bm nx :: dueT bm xs :: L.eraseIdx i) := h5
          clear h3 hsh
          have hrd := h5.rdInts 0 rfl
          have h6 := h5.tail
          clear h5
          go_wp2_with fail
          refine (sum_any _ (ams ++ [x]) _ hrd).mono ?_
          rintro en W6 ⟨rfl, rfl⟩
          rw [HSM.out]
          clear hrd HSM
          by_cases hz : AE = 0
          · subst hz
            have HA0 := Lib.hid (show addI xs nx ⟨nx, f, t, x, we, u, false⟩ = nx ∧ addS xs nx ⟨nx, f, t, x, we, u, false⟩ = xs ++ [⟨nx, f, t, x, we, u, false⟩] ∧ addN xs nx ⟨nx, f, t, x, we, u, false⟩ = nx + 1 by
              unfold addI addS addN; rw [← HAE.out]; exact ⟨if_pos rfl, if_pos rfl, if_pos rfl⟩)
            have hn1 : 1 ≤ nx := HG.out.n1
            have hwf := wf_id (id := nx) (by omega) (by omega)
            obtain ⟨W7, hput, h7⟩ := h6.drew.mapAdd (P := Try.prog) (e := 36) 2 rfl keyedU Try.underlying28 Try.underlying62 ⟨nx, f, t, x, we, u, false⟩ hwf (fun q hq => by have := (HG.out.ok q hq).2.2; show q.id ≠ nx; omega)
            dsimp only [Du.val, Du.id] at hput
            have c0 := cell_of ((h6).cells 1 rfl) 0
            have c1 := cell_of ((h6).cells 1 rfl) 1
            simp only [List.getElem?_toArray, List.getElem?_cons_zero, List.getElem?_cons_succ] at c0 c1
            have e0 := cell_of ((h6).cells 0 rfl) 0
            have e1 := cell_of ((h6).cells 0 rfl) 1
            have e2 := cell_of ((h6).cells 0 rfl) 2
            have e3 := cell_of ((h6).cells 0 rfl) 3
            have e4 := cell_of ((h6).cells 0 rfl) 4
            have e5 := cell_of ((h6).cells 0 rfl) 5
            have e6 := cell_of ((h6).cells 0 rfl) 6
            simp only [List.getElem?_toArray, List.getElem?_cons_zero, List.getElem?_cons_succ] at e0 e1 e2 e3 e4 e5 e6
            have HP := Lib.hid hput
            clear hput h6
            go_wp2_with fail
            have hput := HP.out
            refine Mix.region [0, 0, 0, 0, 0, 0, 0, 2] (fun _ => True) (by kernel_rfl) (by kernel_rfl) trivial ?_
            simp only [List.zip_cons_cons, List.zip_nil_right]
            iterate 7 (refine Mix.step0 fun K hK => ?_; go_simp; (try (go_bits; try go_simp)); first | ((with_reducible refine hK _ _ ?_); clear hK K) | ((try (simp only [IntWalk.iteOmega]; try go_simp)); (try go_bits); (with_reducible refine hK _ _ ?_); clear hK K))
            refine Mix.step2n (by first | rfl | simp [Region.wanted, yielded]) fun K hK => ?_
            go_wp2_with fail
            refine Mix.post_mk (C := (fun _ => True)) trivial (hK _ _ ?_)
            clear hK K
            refine Mix.done ?_
            have h7 : Sep w0 W7 (duC BD ⟨nx, f, t, x, we, u, false⟩ :: dueO b bm nx :: dueT bm (xs ++ [⟨nx, f, t, x, we, u, false⟩]) :: L.eraseIdx i) := h7
            clear c0 c1 e0 e1 e2 e3 e4 e5 e6 hput HP
            have c0 := cell_of ((h7).cells 1 rfl) 0
            have c1 := cell_of ((h7).cells 1 rfl) 1
            simp only [List.getElem?_toArray, List.getElem?_cons_zero, List.getElem?_cons_succ] at c0 c1
            have f1 := frozen_of (h7.cells 1 rfl) 1
            have h8 := h7.setCells 1 rfl 1 (.int .u64 (nx + 1)) _ rfl
            have e0 := cell_of ((h8).cells 0 rfl) 0
            have e1 := cell_of ((h8).cells 0 rfl) 1
            have e2 := cell_of ((h8).cells 0 rfl) 2
            have e3 := cell_of ((h8).cells 0 rfl) 3
            have e4 := cell_of ((h8).cells 0 rfl) 4
            have e5 := cell_of ((h8).cells 0 rfl) 5
            have e6 := cell_of ((h8).cells 0 rfl) 6
            simp only [List.getElem?_toArray, List.getElem?_cons_zero, List.getElem?_cons_succ] at e0 e1 e2 e3 e4 e5 e6
            have HS := Lib.hid (show Sep w0 _ (L.set i (duesT b (addS xs nx ⟨nx, f, t, x, we, u, false⟩) (addN xs nx ⟨nx, f, t, x, we, u, false⟩))) by
              rw [HA0.out.2.1, HA0.out.2.2]; exact add_end HI.out h8)
            clear h7 h8
            go_wp2_with fail
            go_ret2
            exact ⟨by rw [HA0.out.1, ← HAE.out]; rfl, HS.out⟩
          · obtain ⟨z1, z2, z3⟩ := add_err HAE.out.symm hz
            have HI1 := Lib.hid z1
            have HS := Lib.hid (show Sep w0 W5 (L.set i (duesT b (addS xs nx ⟨nx, f, t, x, we, u, false⟩) (addN xs nx ⟨nx, f, t, x, we, u, false⟩))) by rw [z2, z3]; exact add_end HI.out h6)
            clear z1 z2 z3 h6
            go_wp2_with fail
            go_ret2
            exact ⟨by rw [HI1.out, ← HAE.out]; rfl, HS.out⟩
end
end Go.Proofs.Ythcmkljdhhepgaa
