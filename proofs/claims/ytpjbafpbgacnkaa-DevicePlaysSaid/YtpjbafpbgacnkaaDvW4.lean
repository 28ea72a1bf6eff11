/-
  Device.Write, walked.
-/
import Derived.Test.YtpjbafpbgacnkaaDvW3
set_option linter.unusedVariables false
set_option linter.unusedSimpArgs false
namespace Go.Mem
open Go Go.RowKit
theorem Sep.rdMem {w0 w : World} {L : List Thing} {k : IntKind} {E : TypeId} {v : Value} {zs : List Int} (h : Sep w0 w L) (hm : intsT k E v zs ∈ L) : Rd k w v zs := by
  obtain ⟨i, hi, e⟩ := List.getElem_of_mem hm
  exact h.rdInts i (by rw [List.getElem?_eq_getElem hi, e])
theorem mem_erase {L : List Thing} {i j : Nat} {A : Thing} (hj : L[j]? = some A) (hne : j ≠ i) : A ∈ L.eraseIdx i := List.mem_eraseIdx_iff_getElem?.2 ⟨j, hne, hj⟩
end Go.Mem
namespace Go.DevP
open Go Go.Mem
theorem put_at {d : Dv} {K k : Nat} {x : List Int} (hK : K < d.B.length) (hk : k < d.B.length) : ((d.put K x).B.getD k default) = if K = k then (d.B.getD K default).add x else d.B.getD k default := by
  unfold Dv.put
  rw [List.getD_eq_getElem?_getD, List.getElem?_set]
  by_cases e : K = k
  · subst e; rw [if_pos rfl, if_pos hK, if_pos rfl]; rfl
  · rw [if_neg e, if_neg e, List.getD_eq_getElem?_getD]
theorem put_len (d : Dv) (K : Nat) (x : List Int) : (d.put K x).B.length = d.B.length := by unfold Dv.put; rw [List.length_set]
/-- One more write to a block that has some .. -/
theorem Ok.putOld {l : Lay} {d : Dv} (ok : Ok l d) {j : Nat} (hj : j < l.es.length) {s s' : Sl} {x : List Int} (hx : x.length = 512 ∧ s.n = 512) :
    Ok { l with es := l.es.set j ⟨(l.es[j]).k, s', (l.es[j]).c ++ [(s, x)]⟩, M := (s, x) :: l.M } (d.put (l.es[j]).k x) := by
  have he := List.getElem_mem hj
  obtain ⟨g1, g2, g3, g4⟩ := ok.es _ he
  have hnk : ∀ m (hm : m < l.es.length), (l.es[m]).k = (l.es[j]).k → m = j := fun m hm e => by
    have := ok.nd
    refine (List.getElem_inj this (h₀ := by rw [List.length_map]; exact hm) (h₁ := by rw [List.length_map]; exact hj)).1 ?_
    rw [List.getElem_map, List.getElem_map, e]
  refine ⟨by rw [put_len]; exact ok.len, fun k h => ?_, fun e he' => ?_, ?_, fun k hk hn => ?_, fun p hp => ?_⟩
  · obtain ⟨h1, h2⟩ := ok.sure k h
    have hkl : k < d.B.length := by rw [← ok.len]; exact h
    refine ⟨?_, h2.imp id (fun q => List.mem_cons_of_mem _ q)⟩
    rw [put_at g1 hkl]
    split
    next e => subst e; exact h1
    · exact h1
  · obtain ⟨m, hm, rfl⟩ := List.getElem_of_mem he'
    dsimp only at hm ⊢
    rw [List.length_set] at hm
    rw [List.getElem_set]
    by_cases e : j = m
    · subst e
      rw [if_pos rfl]
      refine ⟨by rw [put_len]; exact g1, ?_, by simp, fun p hp => ?_⟩
      · dsimp only
        rw [put_at g1 g1, if_pos rfl]
        unfold Blk.add
        dsimp only
        rw [g2, List.map_append]; rfl
      · rcases List.mem_append.1 hp with hp | hp
        · exact List.mem_cons_of_mem _ (g4 p hp)
        · rw [List.mem_singleton.1 hp]; exact List.mem_cons_self
    · rw [if_neg e]
      obtain ⟨q1, q2, q3, q4⟩ := ok.es _ (List.getElem_mem hm)
      refine ⟨by rw [put_len]; exact q1, ?_, q3, fun p hp => List.mem_cons_of_mem _ (q4 p hp)⟩
      rw [put_at g1 q1, if_neg fun e2 => e (hnk m hm e2.symm).symm]
      exact q2
  · have e : (l.es.set j ⟨(l.es[j]).k, s', (l.es[j]).c ++ [(s, x)]⟩).map (·.k) = l.es.map (·.k) := by
      refine List.ext_getElem (by simp) fun m h1 h2 => ?_
      rw [List.getElem_map, List.getElem_map, List.getElem_set]
      split
      next e => subst e; rfl
      · rfl
    dsimp only
    rw [e]; exact ok.nd
  · dsimp only at hn
    rw [put_len] at hk
    have hne : (l.es[j]).k ≠ k := hn ⟨(l.es[j]).k, s', (l.es[j]).c ++ [(s, x)]⟩ (List.mem_set hj _)
    rw [put_at g1 hk, if_neg hne]
    refine ok.no k hk fun e he' q => ?_
    obtain ⟨m, hm, rfl⟩ := List.getElem_of_mem he'
    by_cases e2 : j = m
    · subst e2; exact hne q
    · exact hn (l.es[m]) (by
        rw [List.mem_iff_getElem]
        exact ⟨m, by rw [List.length_set]; exact hm, by rw [List.getElem_set, if_neg e2]⟩) q
  · rcases List.mem_cons.1 hp with rfl | hp
    · exact hx
    · exact ok.m512 p hp
/-- .. or none yet. -/
theorem Ok.putNew {l : Lay} {d : Dv} (ok : Ok l d) {K : Nat} (hK : K < d.B.length) (hn : ∀ e ∈ l.es, e.k ≠ K) {s s' : Sl} {x : List Int} (hx : x.length = 512 ∧ s.n = 512) :
    Ok { l with es := l.es ++ [⟨K, s', [(s, x)]⟩], M := (s, x) :: l.M } (d.put K x) := by
  refine ⟨by rw [put_len]; exact ok.len, fun k h => ?_, fun e he' => ?_, ?_, fun k hk hn' => ?_, fun p hp => ?_⟩
  · obtain ⟨h1, h2⟩ := ok.sure k h
    have hkl : k < d.B.length := by rw [← ok.len]; exact h
    refine ⟨?_, h2.imp id (fun q => List.mem_cons_of_mem _ q)⟩
    rw [put_at hK hkl]
    split
    next e => subst e; exact h1
    · exact h1
  · dsimp only at he' ⊢
    rcases List.mem_append.1 he' with he' | he'
    · obtain ⟨q1, q2, q3, q4⟩ := ok.es _ he'
      refine ⟨by rw [put_len]; exact q1, ?_, q3, fun p hp => List.mem_cons_of_mem _ (q4 p hp)⟩
      rw [put_at hK q1, if_neg fun e2 => hn e he' e2.symm]
      exact q2
    · rw [List.mem_singleton.1 he']
      refine ⟨by rw [put_len]; exact hK, ?_, by simp, fun p hp => ?_⟩
      · dsimp only
        rw [put_at hK hK, if_pos rfl]
        unfold Blk.add
        dsimp only
        rw [ok.no K hK hn]; rfl
      · rw [List.mem_singleton.1 hp]; exact List.mem_cons_self
  · dsimp only
    rw [List.map_append, List.nodup_append]
    refine ⟨ok.nd, by simp, fun a ha c hc => ?_⟩
    obtain ⟨e, he, rfl⟩ := List.mem_map.1 ha
    simp at hc
    rw [hc]
    exact hn e he
  · dsimp only at hn'
    rw [put_len] at hk
    have hne : K ≠ k := hn' ⟨K, s', [(s, x)]⟩ (by simp)
    rw [put_at hK hk, if_neg hne]
    exact ok.no k hk fun e he' => hn' e (List.mem_append_left _ he')
  · rcases List.mem_cons.1 hp with rfl | hp
    · exact hx
    · exact ok.m512 p hp
end Go.DevP
namespace Go.Proofs.Ytpjbafpbgacnkaa
open Go Go.RowKit Go.Mem Go.DevP
section
variable {w0 w : World} {R : List Thing} {b : Nat} {l : Lay} {left : Int} {off : Bool}
theorem rows_set {es : List Ent} {E2 : TypeId} {j : Nat} {e : Ent} (h : j < es.length) : rowsL (es.set j e) E2 = (rowsL es E2).set j (recT slR E2 e.s.val (e.c.map (·.1))) := by
  unfold rowsL; rw [List.map_set]
theorem old_perm {j : Nat} (hj : j < l.es.length) {e : Ent} {s : Sl} {x : List Int} :
    Sep w0 w (((intsT .u8 5 s.val x :: (devL b l left off ++ R)).set (j + 4) (recT slR 41 e.s.val (e.c.map (·.1)))).set 3 (dmapT .i64 Ent.key Ent.val l.bm (l.es.set j e))) →
    Sep w0 w (devL b { l with es := l.es.set j e, M := (s, x) :: l.M } left off ++ R) := by
  intro h
  refine h.perm ?_
  have hr : j < (rowsL l.es 41).length := by unfold rowsL; rw [List.length_map]; exact hj
  have e1 : ((intsT .u8 5 s.val x :: (devL b l left off ++ R)).set (j + 4) (recT slR 41 e.s.val (e.c.map (·.1)))).set 3 (dmapT .i64 Ent.key Ent.val l.bm (l.es.set j e))
      = intsT .u8 5 s.val x :: dvC b l.ss.val l.bm left off :: recT slR 41 l.ss.val (l.S.map (·.1)) :: dmapT .i64 Ent.key Ent.val l.bm (l.es.set j e) :: ((rowsL l.es 41).set j (recT slR 41 e.s.val (e.c.map (·.1))) ++ (gridL .u8 5 l.M ++ R)) := by
    unfold devL
    simp only [List.cons_append, List.set_cons_succ, List.set_cons_zero, List.append_assoc]
    rw [List.set_append_left _ _ hr]
  rw [e1, ← rows_set hj]
  have e2 : devL b { l with es := l.es.set j e, M := (s, x) :: l.M } left off ++ R
      = (dvC b l.ss.val l.bm left off :: recT slR 41 l.ss.val (l.S.map (·.1)) :: dmapT .i64 Ent.key Ent.val l.bm (l.es.set j e) :: rowsL (l.es.set j e) 41) ++ intsT .u8 5 s.val x :: (gridL .u8 5 l.M ++ R) := by
    unfold devL gridL
    simp only [List.cons_append, List.map_cons, List.append_assoc]
  rw [e2]
  exact (List.perm_middle (l₁ := dvC b l.ss.val l.bm left off :: recT slR 41 l.ss.val (l.S.map (·.1)) :: dmapT .i64 Ent.key Ent.val l.bm (l.es.set j e) :: rowsL (l.es.set j e) 41)).symm
theorem new_perm {e : Ent} {s : Sl} {x : List Int} :
    Sep w0 w ((recT slR 41 e.s.val (e.c.map (·.1)) :: intsT .u8 5 s.val x :: (devL b l left off ++ R)).set 4 (dmapT .i64 Ent.key Ent.val l.bm (l.es ++ [e]))) →
    Sep w0 w (devL b { l with es := l.es ++ [e], M := (s, x) :: l.M } left off ++ R) := by
  intro h
  refine h.perm ?_
  have e1 : (recT slR 41 e.s.val (e.c.map (·.1)) :: intsT .u8 5 s.val x :: (devL b l left off ++ R)).set 4 (dmapT .i64 Ent.key Ent.val l.bm (l.es ++ [e]))
      = recT slR 41 e.s.val (e.c.map (·.1)) :: intsT .u8 5 s.val x :: ((dvC b l.ss.val l.bm left off :: recT slR 41 l.ss.val (l.S.map (·.1)) :: dmapT .i64 Ent.key Ent.val l.bm (l.es ++ [e]) :: rowsL l.es 41) ++ (gridL .u8 5 l.M ++ R)) := by
    unfold devL
    simp only [List.cons_append, List.set_cons_succ, List.set_cons_zero, List.append_assoc]
  have e2 : devL b { l with es := l.es ++ [e], M := (s, x) :: l.M } left off ++ R
      = (dvC b l.ss.val l.bm left off :: recT slR 41 l.ss.val (l.S.map (·.1)) :: dmapT .i64 Ent.key Ent.val l.bm (l.es ++ [e]) :: rowsL l.es 41) ++ recT slR 41 e.s.val (e.c.map (·.1)) :: intsT .u8 5 s.val x :: (gridL .u8 5 l.M ++ R) := by
    unfold devL gridL rowsL
    simp only [List.cons_append, List.map_cons, List.map_append, List.map_nil, List.append_assoc, List.nil_append]
  rw [e1, e2]
  refine List.Perm.trans ?_ List.perm_middle.symm
  exact List.Perm.cons _ List.perm_middle.symm
end
section
variable {w0 w : World} {L : List Thing} {i b : Nat} {d : Dv}
theorem write_nil (k : Int) (a : Option Addr) (n c : Nat) (w : World) : Calls Try.prog 14 #[.pointer none, .int .i64 k, .slice a n c] w fun en w' => en = .returned (.int .i64 2) ∧ w' = w := by
  go_enter Try.func14, Try.ntmps14
  go_wp2_with fail
  refine (on_nil _).mono ?_
  rintro en w1 ⟨rfl, rfl⟩
  go_wp2_with fail
  go_ret
  exact ⟨rfl, rfl⟩
set_option maxRecDepth 100000 in
set_option maxHeartbeats 4000000 in
theorem write_any (hs : Sep w0 w L) (hi : L[i]? = some (devT b d)) (hg : d.Good) (k : Int) {j : Nat} {v : Value} {bs : List Int} (hne : j ≠ i) (hj : L[j]? = some (intsT .u8 5 v bs)) (hsm : bs.length ≤ 1000000) (hbig : ∀ B ∈ d.B, B.loose.length ≤ 1000000) :
    Calls Try.prog 14 #[.pointer (some ⟨b, 0, none⟩), .int .i64 k, v] w fun en w' => en = .returned (.int .i64 (d.writeE k bs.length)) ∧ Sep w0 w' (L.set i (devT b (d.writeD k bs))) := by
  obtain ⟨i0, hi0, hz0, hz1, hz2⟩ := info_parts Try.infoRowv
  have hmem := mem_erase hj hne
  obtain ⟨l, ok, hs1⟩ := Sep.devOpen hs hi
  have HON := Lib.hid (on_any hs1 (i := 0) rfl)
  have HOK := Lib.hid ok
  have HHI := Lib.hid hi
  have HS0 := Lib.hid hs
  have HME := Lib.hid hmem
  have HSET := Lib.hid (show Sep w0 w (L.set i (devT b d)) by rw [set_same hi]; exact hs)
  obtain ⟨av, cv, rfl⟩ := (hs.rdInts j hj).shape
  obtain ⟨B, left, off⟩ := d
  dsimp only at hs1
  cases off
  rotate_left
  · clear hs1 hs ok hg hi
    go_enter Try.func14, Try.ntmps14
    go_wp2_with fail
    refine (HON.out).mono ?_
    rintro en w1 ⟨rfl, rfl⟩
    go_wp2_with fail
    go_ret
    exact ⟨rfl, HSET.out⟩
  have hlen := ok.len
  obtain ⟨a1, n1, es⟩ := (hs1.rdRecs (R := slR) (E := 41) 1 rfl).shape
  rw [List.length_map, hlen] at es
  dsimp only at es
  have HHAS := Lib.hid (has_any hs1 (i := 0) (a := a1) (n := B.length) (c := n1) (by rw [← es]; rfl) k)
  have hn4 := hg.n1
  dsimp only at hn4
  cases hh : (Dv.mk B left false).mayW k bs.length
  · have HWE := Lib.hid (show Dv.writeE ⟨B, left, false⟩ k bs.length = 1 by simp [Dv.writeE, hh])
    have HWD := Lib.hid (show Dv.writeD ⟨B, left, false⟩ k bs = ⟨B, left, false⟩ by simp [Dv.writeD, hh])
    cases hb : hasB B.length k
    · rw [hb] at HHAS
      clear hs1 hs ok hg hi hh es hb
      go_enter Try.func14, Try.ntmps14
      go_wp2_with fail
      refine (HON.out).mono ?_
      rintro en w1 ⟨rfl, rfl⟩
      go_wp2_with fail
      refine (HHAS.out).mono ?_
      rintro en w1 ⟨rfl, rfl⟩
      go_wp2_with fail
      go_ret
      exact ⟨by rw [HWE.out]; rfl, by rw [HWD.out]; exact HSET.out⟩
    · rw [hb] at HHAS
      have h5 : ¬ bs.length = 512 := by
        intro e
        simp [Dv.mayW, hb, e] at hh
      have e5 : (((bs.length : Nat) : Int) != 512) = true := by rw [bne_iff_ne]; omega
      clear hs1 hs ok hg hi hh es hb h5
      go_enter Try.func14, Try.ntmps14
      go_wp2_with fail
      refine (HON.out).mono ?_
      rintro en w1 ⟨rfl, rfl⟩
      go_wp2_with fail
      refine (HHAS.out).mono ?_
      rintro en w1 ⟨rfl, rfl⟩
      go_wp2_with fail
      go_ret
      exact ⟨by rw [HWE.out]; rfl, by rw [HWD.out]; exact HSET.out⟩
  obtain ⟨hb, h5⟩ : hasB B.length k = true ∧ bs.length = 512 := by simpa [Dv.mayW] using hh
  rw [hb] at HHAS
  have hk0 : 0 ≤ k ∧ k < B.length := by simpa [hasB] using hb
  obtain ⟨KB, rfl⟩ : ∃ KB : Nat, k = KB := ⟨k.toNat, by omega⟩
  have hKl : KB < B.length := by omega
  have HWE := Lib.hid (show Dv.writeE ⟨B, left, false⟩ KB bs.length = cntE left by simp [Dv.writeE, hh])
  have HWD := Lib.hid (show Dv.writeD ⟨B, left, false⟩ KB bs = if left = 0 then (Dv.mk B left false).counted else (Dv.mk B left false).counted.put KB bs by simp [Dv.writeD, hh])
  have HCNT := Lib.hid (counts_any hs1 (i := 0) rfl hg.left)
  have H5 := Lib.hid h5
  have HS1 := Lib.hid hs1
  have e5 : (((bs.length : Nat) : Int) != 512) = false := by rw [h5]; rfl
  clear hs1 hs hh hb hk0 es hg hi h5 hlen
  by_cases hl0 : left = 0
  · subst hl0
    have HWD0 := Lib.hid (show Dv.writeD ⟨B, 0, false⟩ KB bs = (Dv.mk B 0 false).counted by rw [HWD.out, if_pos rfl])
    clear HWD
    go_enter Try.func14, Try.ntmps14
    go_wp2_with fail
    refine (HON.out).mono ?_
    rintro en w1 ⟨rfl, rfl⟩
    go_wp2_with fail
    refine (HHAS.out).mono ?_
    rintro en w1 ⟨rfl, rfl⟩
    go_wp2_with fail
    refine HCNT.out.mono ?_
    rintro en w2 ⟨rfl, hs2⟩
    have HC := Lib.hid (Sep.devClose (d := (Dv.mk B 0 false).counted) HHI.out (l := l) hs2 ⟨ok.len, ok.sure, ok.es, ok.nd, ok.no, ok.m512⟩)
    clear hs2 ok
    go_wp2_with fail
    go_ret
    exact ⟨by rw [HWE.out]; rfl, by rw [HWD0.out]; exact HC.out⟩
  · have HCE := Lib.hid (show cntE left = 0 by unfold cntE; rw [if_neg hl0])
    have HWD2 := Lib.hid (show Dv.writeD ⟨B, left, false⟩ KB bs = (Dv.mk B left false).counted.put KB bs by rw [HWD.out, if_neg hl0])
    have OK2 := Lib.hid (show Ok l (Dv.mk B left false).counted from ⟨ok.len, ok.sure, ok.es, ok.nd, ok.no, ok.m512⟩)
    rw [HCE.out] at HCNT
    obtain ⟨LF, hLF⟩ : ∃ LF, LF = cntL left := ⟨_, rfl⟩
    obtain ⟨OF, hOF⟩ : ∃ OF, OF = cntO left false := ⟨_, rfl⟩
    have HLF := Lib.hid hLF
    have HOF := Lib.hid hOF
    rw [← hLF, ← hOF] at HCNT
    clear hLF hOF HWD hl0
    by_cases hex : ∃ e ∈ l.es, e.k = KB
    · obtain ⟨e, he, hek⟩ := hex
      obtain ⟨m, hm, rfl⟩ := List.getElem_of_mem he
      have HMM := Lib.hid hm
      have HROW := Lib.hid (show ∀ R : List Thing, (devL b l LF OF ++ R)[m + 3]? = some (recT slR 41 (l.es[m]).s.val ((l.es[m]).c.map (·.1))) from fun R => devL_row hm)
      have hcl : (l.es[m]).c.length ≤ 1000000 := by
        have h1 := (ok.es _ he).2.1
        dsimp only at h1
        rw [hek] at h1
        have h2 := hbig (B.getD KB default) (by rw [List.getD_eq_getElem?_getD, List.getElem?_eq_getElem hKl]; exact List.getElem_mem hKl)
        rw [h1, List.length_map] at h2
        exact h2
      obtain ⟨E, hE⟩ : ∃ E, E = l.es[m] := ⟨_, rfl⟩
      have HPO := Lib.hid (show ∀ (s s' : Sl) (x : List Int), (x.length = 512 ∧ s.n = 512) → Ok { l with es := l.es.set m ⟨E.k, s', E.c ++ [(s, x)]⟩, M := (s, x) :: l.M } ((Dv.mk B left false).counted.put E.k x) from fun s s' x hx => by rw [hE]; exact OK2.out.putOld hm hx)
      have HLK0 := Lib.hid (show ∀ (W : World) (L' : List Thing) (q : Nat), Sep w0 W L' → L'[q]? = some (dmapT .i64 Ent.key Ent.val l.bm l.es) → (Instr.lookup 56 (.map (some l.bm)) (.int .i64 E.k) false).run Try.prog W = .ok E.s.val W from fun W L' q hq hi => by
        rw [hE]
        exact hq.lookYes (P := Try.prog) (e := 55) q hi keyedI Try.underlying3 Try.underlying56 false hm)
      have HPUT := Lib.hid (show ∀ (W : World) (L' : List Thing) (q : Nat), Sep w0 W L' → L'[q]? = some (dmapT .i64 Ent.key Ent.val l.bm l.es) → ∀ F : Ent, F.k = E.k → ∃ w', (Instr.mapUpdate 56 (.map (some l.bm)) (.int .i64 F.k) F.s.val).run Try.prog W = .ok () w' ∧ Sep w0 w' (L'.set q (dmapT .i64 Ent.key Ent.val l.bm (l.es.set m F))) from fun W L' q hq hi F hF =>
        hq.mapPut (P := Try.prog) (e := 55) q hi keyedI Try.underlying3 Try.underlying56 hm F (by unfold Ent.key; rw [hF, hE]; rfl))
      rw [← hE] at HROW hcl
      replace hek : E.k = KB := by rw [hE]; exact hek
      obtain ⟨Ek, ⟨sa, sn, sc⟩, c⟩ := E
      dsimp only [Sl.val] at HROW hcl HPO HLK0 HPUT hek
      have hek2 := hek.symm
      subst hek2
      have hsn : sn = c.length := by
        have h1 : RdG slR w (Sl.val ⟨sa, sn, sc⟩) (c.map (·.1)) := by
          have := HS1.out.rdRecs (R := slR) (E := 41) _ (devL_row hm)
          rw [show l.es[m] = _ from hE.symm] at this
          exact this
        obtain ⟨_, _, e⟩ := h1.shape
        injection e with _ e _
        exact e.trans (List.length_map ..)
      have HLK := Lib.hid (show ∀ (W : World) (L' : List Thing) (q : Nat), Sep w0 W L' → L'[q]? = some (dmapT .i64 Ent.key Ent.val l.bm l.es) → (Instr.lookup 56 (.map (some l.bm)) (.int .i64 KB) false).run Try.prog W = .ok (.slice sa sn sc) W from HLK0.out)
      clear HLK0 hE he ok hbig hmem HS1 HS0
      subst hsn
      go_enter Try.func14, Try.ntmps14
      go_wp2_with fail
      refine (HON.out).mono ?_
      rintro en w1 ⟨rfl, rfl⟩
      go_wp2_with fail
      refine (HHAS.out).mono ?_
      rintro en w1 ⟨rfl, rfl⟩
      go_wp2_with fail
      refine HCNT.out.mono ?_
      rintro en w2 ⟨rfl, hs2⟩
      replace hs2 : Sep w0 w2 (devL b l LF OF ++ L.eraseIdx i) := hs2
      have hs := hs2.drew
      clear hs2
      go_upto_region 8 with fail
      go_wp2_with fail
      have hCW : (fun W : World => W.cell? ⟨b, 1, none⟩ = some (.map (some l.bm)) ∧ (Instr.lookup 56 (.map (some l.bm)) (.int .i64 KB) false).run Try.prog W = .ok (.slice sa c.length sc) W) w2.drew := ⟨cell_of (hs.cells 0 rfl) 1, HLK.out _ _ 2 hs rfl⟩
      refine Mix.region2 15 [1, 1, 1, 1, 1, 1, 1, 1, 1, 1, 1, 0, 2, 2, 2, 2] (fun W : World => W.cell? ⟨b, 1, none⟩ = some (.map (some l.bm)) ∧ (Instr.lookup 56 (.map (some l.bm)) (.int .i64 KB) false).run Try.prog W = .ok (.slice sa c.length sc) W) (by kernel_rfl) (by kernel_rfl) hCW ?_
      simp only [List.zip_cons_cons, List.zip_nil_right, List.take_succ_cons, List.take_zero, List.drop_succ_cons, List.drop_zero]
      (refine Mix.step1 fun K hK => ?_; go_simp; (try (go_bits; try go_simp)); first | ((with_reducible refine hK _ _ ?_); clear hK K) | ((try (simp only [IntWalk.iteOmega]; try go_simp)); (try go_bits); (with_reducible refine hK _ _ ?_); clear hK K))
      (refine Mix.step1 fun K hK => ?_; go_simp; (try (go_bits; try go_simp)); first | ((with_reducible refine hK _ _ ?_); clear hK K) | ((try (simp only [IntWalk.iteOmega]; try go_simp)); (try go_bits); (with_reducible refine hK _ _ ?_); clear hK K))
      (refine Mix.step1 fun K hK => ?_; go_simp; (try (go_bits; try go_simp)); first | ((with_reducible refine hK _ _ ?_); clear hK K) | ((try (simp only [IntWalk.iteOmega]; try go_simp)); (try go_bits); (with_reducible refine hK _ _ ?_); clear hK K))
      (refine Mix.step1 fun K hK => ?_; go_simp; refine ⟨fun W => ?_, hK _ _ ?_⟩; (intro hW1; (try intro hW2); (try intro hW3); (try intro hW4); (try intro hW5); (try intro hW6); (try intro hW7); (try intro hW8); go_simp); clear hK K)
      (refine Mix.step1 fun K hK => ?_; go_simp; (try (go_bits; try go_simp)); first | ((with_reducible refine hK _ _ ?_); clear hK K) | ((try (simp only [IntWalk.iteOmega]; try go_simp)); (try go_bits); (with_reducible refine hK _ _ ?_); clear hK K))
      (refine Mix.step1 fun K hK => ?_; go_simp; (try (go_bits; try go_simp)); first | ((with_reducible refine hK _ _ ?_); clear hK K) | ((try (simp only [IntWalk.iteOmega]; try go_simp)); (try go_bits); (with_reducible refine hK _ _ ?_); clear hK K))
      (refine Mix.step1 fun K hK => ?_; go_simp; (try (go_bits; try go_simp)); first | ((with_reducible refine hK _ _ ?_); clear hK K) | ((try (simp only [IntWalk.iteOmega]; try go_simp)); (try go_bits); (with_reducible refine hK _ _ ?_); clear hK K))
      (refine Mix.step1 fun K hK => ?_; go_simp; (try (go_bits; try go_simp)); first | ((with_reducible refine hK _ _ ?_); clear hK K) | ((try (simp only [IntWalk.iteOmega]; try go_simp)); (try go_bits); (with_reducible refine hK _ _ ?_); clear hK K))
      (refine Mix.step1 fun K hK => ?_; go_simp; refine ⟨fun W => ?_, hK _ _ ?_⟩; (intro hW1; (try intro hW2); (try intro hW3); (try intro hW4); (try intro hW5); (try intro hW6); (try intro hW7); (try intro hW8); go_simp); clear hK K)
      (refine Mix.step1 fun K hK => ?_; go_simp; (try (go_bits; try go_simp)); first | ((with_reducible refine hK _ _ ?_); clear hK K) | ((try (simp only [IntWalk.iteOmega]; try go_simp)); (try go_bits); (with_reducible refine hK _ _ ?_); clear hK K))
      (refine Mix.step1 fun K hK => ?_; go_simp; refine ⟨fun W => ?_, hK _ _ ?_⟩; (intro hW1; (try intro hW2); (try intro hW3); (try intro hW4); (try intro hW5); (try intro hW6); (try intro hW7); (try intro hW8); go_simp); clear hK K)
      iterate 1 (refine Mix.step0 fun K hK => ?_; go_simp; (try (go_bits; try go_simp)); first | ((with_reducible refine hK _ _ ?_); clear hK K) | ((try (simp only [IntWalk.iteOmega]; try go_simp)); (try go_bits); (with_reducible refine hK _ _ ?_); clear hK K))
      refine Mix.step2n (by first | rfl | simp [Region.wanted, yielded]) fun K hK => ?_
      go_wp2_with fail
      refine (bclone_dev _ bs _ (hs.rdMem (List.mem_append_right _ HME.out)) (by have := H5.out; omega) (by have := H5.out; omega)).mono ?_
      rintro en w3 ⟨u, rfl, k1⟩
      obtain ⟨ua, uc, rfl⟩ := (k1.rdInts 0 rfl).shape
      replace hs := hs.join k1
      simp only [List.cons_append, List.nil_append] at hs
      clear k1 hCW
      have hCW : (fun W : World => W.cell? ⟨b, 1, none⟩ = some (.map (some l.bm)) ∧ (Instr.lookup 56 (.map (some l.bm)) (.int .i64 KB) false).run Try.prog W = .ok (.slice sa c.length sc) W) w3 := ⟨cell_of (hs.cells 1 rfl) 1, HLK.out _ _ 3 hs rfl⟩
      go_wp2_with fail
      refine Mix.post_mk (C := (fun W : World => W.cell? ⟨b, 1, none⟩ = some (.map (some l.bm)) ∧ (Instr.lookup 56 (.map (some l.bm)) (.int .i64 KB) false).run Try.prog W = .ok (.slice sa c.length sc) W)) (by first | exact hCW | exact HCW.out _) (hK _ _ ?_)
      clear hK K
      refine Mix.step2n (by first | rfl | simp [Region.wanted, yielded]) fun K hK => ?_
      go_wp2_with fail
      have hsa := hs.alloc (.cells #[.slice ua bs.length uc] 41)
      have HB1 := Lib.hid (heap_alloc_new w3 (.cells #[.slice ua bs.length uc] 41))
      clear hCW
      have hCW : (fun W : World => W.cell? ⟨b, 1, none⟩ = some (.map (some l.bm)) ∧ (Instr.lookup 56 (.map (some l.bm)) (.int .i64 KB) false).run Try.prog W = .ok (.slice sa c.length sc) W) (w3.alloc (.cells #[.slice ua bs.length uc] 41)) := ⟨cell_of (hsa.cells 1 rfl) 1, HLK.out _ _ 3 hsa rfl⟩
      refine Mix.post_mk (C := (fun W : World => W.cell? ⟨b, 1, none⟩ = some (.map (some l.bm)) ∧ (Instr.lookup 56 (.map (some l.bm)) (.int .i64 KB) false).run Try.prog W = .ok (.slice sa c.length sc) W)) (by first | exact hCW | exact HCW.out _) (hK _ _ ?_)
      clear hK K
      refine Mix.step2n (by first | rfl | simp [Region.wanted, yielded]) fun K hK => ?_
      refine wpList_appRecB slR rfl (.tmp 37) (.tmp 40) 55 rfl 41 i0 _ 24 Try.underlying55 hi0 hz0 hz1 hz2 rfl _ (c.map (·.1)) ⟨ua, bs.length, uc⟩ hsa (m + 4) (HROW.out _) w3.heap.size _ rfl HB1.out (by show Value.slice sa c.length sc = _; rfl) rfl (by rw [List.length_map]; unfold maxLen; omega) (by rw [List.length_map]; omega) ?_
      intro v' w4 hs3 hsh
      obtain ⟨g', cap, rfl⟩ := hsh.out
      rw [List.length_map] at hs3 ⊢
      clear hsa hsh hCW HB1 hs
      have hCW : (fun W : World => W.cell? ⟨b, 1, none⟩ = some (.map (some l.bm)) ∧ (Instr.lookup 56 (.map (some l.bm)) (.int .i64 KB) false).run Try.prog W = .ok (.slice sa c.length sc) W) w4 := ⟨cell_of (hs3.cells 1 rfl) 1, HLK.out _ _ 3 hs3 rfl⟩
      obtain ⟨w5, hput, hs4⟩ := HPUT.out w4 _ 3 hs3 rfl ⟨KB, ⟨some ⟨g', 0, none⟩, c.length + 1, cap⟩, c ++ [(⟨ua, bs.length, uc⟩, bs)]⟩ rfl
      dsimp only [Sl.val] at hput
      have HS4 := Lib.hid (old_perm HMM.out (e := ⟨KB, ⟨some ⟨g', 0, none⟩, c.length + 1, cap⟩, c ++ [(⟨ua, bs.length, uc⟩, bs)]⟩) (s := ⟨ua, bs.length, uc⟩) (x := bs) (by dsimp only; rw [List.map_append]; exact hs4))
      clear hs3 hs4
      go_wp2_with fail
      refine Mix.post_mk (C := (fun W : World => W.cell? ⟨b, 1, none⟩ = some (.map (some l.bm)) ∧ (Instr.lookup 56 (.map (some l.bm)) (.int .i64 KB) false).run Try.prog W = .ok (.slice sa c.length sc) W)) (by first | exact hCW | exact HCW.out _) (hK _ _ ?_)
      clear hK K
      refine Mix.done ?_
      refine Mix.step2n (by first | rfl | simp [Region.wanted, yielded]) fun K hK => ?_
      go_wp2_with fail
      refine Mix.post_mk (C := (fun _ => True)) trivial (hK _ _ ?_)
      clear hK K
      refine Mix.done ?_
      go_wp2_with fail
      go_ret
      have h5 := HS4.out
      rw [HLF.out, HOF.out] at h5
      refine ⟨by rw [HWE.out, HCE.out]; rfl, ?_⟩
      rw [HWD2.out]
      exact Sep.devClose (d := (Dv.mk B left false).counted.put KB bs) HHI.out h5 (HPO.out _ _ _ ⟨H5.out, H5.out⟩)
    · have hn : ∀ e ∈ l.es, e.k ≠ KB := fun e he q => hex ⟨e, he, q⟩
      have HPO := Lib.hid (show ∀ (s s' : Sl) (x : List Int), (x.length = 512 ∧ s.n = 512) → Ok { l with es := l.es ++ [⟨KB, s', [(s, x)]⟩], M := (s, x) :: l.M } ((Dv.mk B left false).counted.put KB x) from fun s s' x hx => OK2.out.putNew hKl hn hx)
      have HLK := Lib.hid (show ∀ (W : World) (L' : List Thing) (q : Nat), Sep w0 W L' → L'[q]? = some (dmapT .i64 Ent.key Ent.val l.bm l.es) → (Instr.lookup 56 (.map (some l.bm)) (.int .i64 KB) false).run Try.prog W = .ok (.slice none 0 0) W from fun W L' q hq hi =>
        hq.lookNo (P := Try.prog) (e := 55) q hi keyedI Try.underlying3 Try.underlying56 zeroRows false (id := (KB : Int)) (WalkArith.wf_i64 (by omega)) (fun e he q => hn e he (by unfold Ent.key at q; omega)))
      have HPUT := Lib.hid (show ∀ (W : World) (L' : List Thing) (q : Nat), Sep w0 W L' → L'[q]? = some (dmapT .i64 Ent.key Ent.val l.bm l.es) → ∀ F : Ent, F.k = KB → ∃ w', (Instr.mapUpdate 56 (.map (some l.bm)) (.int .i64 F.k) F.s.val).run Try.prog W = .ok () w' ∧ Sep w0 w' (L'.set q (dmapT .i64 Ent.key Ent.val l.bm (l.es ++ [F]))) from fun W L' q hq hi F hF =>
        hq.mapAdd (P := Try.prog) (e := 55) q hi keyedI Try.underlying3 Try.underlying56 F (WalkArith.wf_i64 (by unfold Ent.key; omega)) (fun e he q => hn e he (by unfold Ent.key at q; omega)))
      clear ok hbig hmem HS1 HS0 hex hn
      go_enter Try.func14, Try.ntmps14
      go_wp2_with fail
      refine (HON.out).mono ?_
      rintro en w1 ⟨rfl, rfl⟩
      go_wp2_with fail
      refine (HHAS.out).mono ?_
      rintro en w1 ⟨rfl, rfl⟩
      go_wp2_with fail
      refine HCNT.out.mono ?_
      rintro en w2 ⟨rfl, hs2⟩
      replace hs2 : Sep w0 w2 (devL b l LF OF ++ L.eraseIdx i) := hs2
      have hs := hs2.drew
      clear hs2
      go_upto_region 8 with fail
      go_wp2_with fail
      have hCW : (fun W : World => W.cell? ⟨b, 1, none⟩ = some (.map (some l.bm)) ∧ (Instr.lookup 56 (.map (some l.bm)) (.int .i64 KB) false).run Try.prog W = .ok (.slice none 0 0) W) w2.drew := ⟨cell_of (hs.cells 0 rfl) 1, HLK.out _ _ 2 hs rfl⟩
      refine Mix.region2 15 [1, 1, 1, 1, 1, 1, 1, 1, 1, 1, 1, 0, 2, 2, 2, 2] (fun W : World => W.cell? ⟨b, 1, none⟩ = some (.map (some l.bm)) ∧ (Instr.lookup 56 (.map (some l.bm)) (.int .i64 KB) false).run Try.prog W = .ok (.slice none 0 0) W) (by kernel_rfl) (by kernel_rfl) hCW ?_
      simp only [List.zip_cons_cons, List.zip_nil_right, List.take_succ_cons, List.take_zero, List.drop_succ_cons, List.drop_zero]
      (refine Mix.step1 fun K hK => ?_; go_simp; (try (go_bits; try go_simp)); first | ((with_reducible refine hK _ _ ?_); clear hK K) | ((try (simp only [IntWalk.iteOmega]; try go_simp)); (try go_bits); (with_reducible refine hK _ _ ?_); clear hK K))
      (refine Mix.step1 fun K hK => ?_; go_simp; (try (go_bits; try go_simp)); first | ((with_reducible refine hK _ _ ?_); clear hK K) | ((try (simp only [IntWalk.iteOmega]; try go_simp)); (try go_bits); (with_reducible refine hK _ _ ?_); clear hK K))
      (refine Mix.step1 fun K hK => ?_; go_simp; (try (go_bits; try go_simp)); first | ((with_reducible refine hK _ _ ?_); clear hK K) | ((try (simp only [IntWalk.iteOmega]; try go_simp)); (try go_bits); (with_reducible refine hK _ _ ?_); clear hK K))
      (refine Mix.step1 fun K hK => ?_; go_simp; refine ⟨fun W => ?_, hK _ _ ?_⟩; (intro hW1; (try intro hW2); (try intro hW3); (try intro hW4); (try intro hW5); (try intro hW6); (try intro hW7); (try intro hW8); go_simp); clear hK K)
      (refine Mix.step1 fun K hK => ?_; go_simp; (try (go_bits; try go_simp)); first | ((with_reducible refine hK _ _ ?_); clear hK K) | ((try (simp only [IntWalk.iteOmega]; try go_simp)); (try go_bits); (with_reducible refine hK _ _ ?_); clear hK K))
      (refine Mix.step1 fun K hK => ?_; go_simp; (try (go_bits; try go_simp)); first | ((with_reducible refine hK _ _ ?_); clear hK K) | ((try (simp only [IntWalk.iteOmega]; try go_simp)); (try go_bits); (with_reducible refine hK _ _ ?_); clear hK K))
      (refine Mix.step1 fun K hK => ?_; go_simp; (try (go_bits; try go_simp)); first | ((with_reducible refine hK _ _ ?_); clear hK K) | ((try (simp only [IntWalk.iteOmega]; try go_simp)); (try go_bits); (with_reducible refine hK _ _ ?_); clear hK K))
      (refine Mix.step1 fun K hK => ?_; go_simp; (try (go_bits; try go_simp)); first | ((with_reducible refine hK _ _ ?_); clear hK K) | ((try (simp only [IntWalk.iteOmega]; try go_simp)); (try go_bits); (with_reducible refine hK _ _ ?_); clear hK K))
      (refine Mix.step1 fun K hK => ?_; go_simp; refine ⟨fun W => ?_, hK _ _ ?_⟩; (intro hW1; (try intro hW2); (try intro hW3); (try intro hW4); (try intro hW5); (try intro hW6); (try intro hW7); (try intro hW8); go_simp); clear hK K)
      (refine Mix.step1 fun K hK => ?_; go_simp; (try (go_bits; try go_simp)); first | ((with_reducible refine hK _ _ ?_); clear hK K) | ((try (simp only [IntWalk.iteOmega]; try go_simp)); (try go_bits); (with_reducible refine hK _ _ ?_); clear hK K))
      (refine Mix.step1 fun K hK => ?_; go_simp; refine ⟨fun W => ?_, hK _ _ ?_⟩; (intro hW1; (try intro hW2); (try intro hW3); (try intro hW4); (try intro hW5); (try intro hW6); (try intro hW7); (try intro hW8); go_simp); clear hK K)
      iterate 1 (refine Mix.step0 fun K hK => ?_; go_simp; (try (go_bits; try go_simp)); first | ((with_reducible refine hK _ _ ?_); clear hK K) | ((try (simp only [IntWalk.iteOmega]; try go_simp)); (try go_bits); (with_reducible refine hK _ _ ?_); clear hK K))
      refine Mix.step2n (by first | rfl | simp [Region.wanted, yielded]) fun K hK => ?_
      go_wp2_with fail
      refine (bclone_dev _ bs _ (hs.rdMem (List.mem_append_right _ HME.out)) (by have := H5.out; omega) (by have := H5.out; omega)).mono ?_
      rintro en w3 ⟨u, rfl, k1⟩
      obtain ⟨ua, uc, rfl⟩ := (k1.rdInts 0 rfl).shape
      replace hs := hs.join k1
      simp only [List.cons_append, List.nil_append] at hs
      clear k1 hCW
      have hCW : (fun W : World => W.cell? ⟨b, 1, none⟩ = some (.map (some l.bm)) ∧ (Instr.lookup 56 (.map (some l.bm)) (.int .i64 KB) false).run Try.prog W = .ok (.slice none 0 0) W) w3 := ⟨cell_of (hs.cells 1 rfl) 1, HLK.out _ _ 3 hs rfl⟩
      go_wp2_with fail
      refine Mix.post_mk (C := (fun W : World => W.cell? ⟨b, 1, none⟩ = some (.map (some l.bm)) ∧ (Instr.lookup 56 (.map (some l.bm)) (.int .i64 KB) false).run Try.prog W = .ok (.slice none 0 0) W)) (by first | exact hCW | exact HCW.out _) (hK _ _ ?_)
      clear hK K
      refine Mix.step2n (by first | rfl | simp [Region.wanted, yielded]) fun K hK => ?_
      go_wp2_with fail
      have hsa := hs.alloc (.cells #[.slice ua bs.length uc] 41)
      have HB1 := Lib.hid (heap_alloc_new w3 (.cells #[.slice ua bs.length uc] 41))
      clear hCW
      have hCW : (fun W : World => W.cell? ⟨b, 1, none⟩ = some (.map (some l.bm)) ∧ (Instr.lookup 56 (.map (some l.bm)) (.int .i64 KB) false).run Try.prog W = .ok (.slice none 0 0) W) (w3.alloc (.cells #[.slice ua bs.length uc] 41)) := ⟨cell_of (hsa.cells 1 rfl) 1, HLK.out _ _ 3 hsa rfl⟩
      have hsn := hsa.nilRecs slR 41
      refine Mix.post_mk (C := (fun W : World => W.cell? ⟨b, 1, none⟩ = some (.map (some l.bm)) ∧ (Instr.lookup 56 (.map (some l.bm)) (.int .i64 KB) false).run Try.prog W = .ok (.slice none 0 0) W)) (by first | exact hCW | exact HCW.out _) (hK _ _ ?_)
      clear hK K
      refine Mix.step2n (by first | rfl | simp [Region.wanted, yielded]) fun K hK => ?_
      refine wpList_appRecB slR rfl (.tmp 37) (.tmp 40) 55 rfl 41 i0 _ 24 Try.underlying55 hi0 hz0 hz1 hz2 rfl _ [] ⟨ua, bs.length, uc⟩ hsn 0 rfl w3.heap.size _ rfl HB1.out rfl rfl (by simp [maxLen]) (by simp) ?_
      intro v' w4 hs3 hsh
      obtain ⟨g', cap, rfl⟩ := hsh.out
      simp only [List.set_cons_zero, List.nil_append, List.length_nil, Nat.zero_add] at hs3 ⊢
      clear hsa hsn hsh hCW HB1 hs
      have hCW : (fun W : World => W.cell? ⟨b, 1, none⟩ = some (.map (some l.bm)) ∧ (Instr.lookup 56 (.map (some l.bm)) (.int .i64 KB) false).run Try.prog W = .ok (.slice none 0 0) W) w4 := ⟨cell_of (hs3.cells 2 rfl) 1, HLK.out _ _ 4 hs3 rfl⟩
      obtain ⟨w5, hput, hs4⟩ := HPUT.out w4 _ 4 hs3 rfl ⟨KB, ⟨some ⟨g', 0, none⟩, 1, cap⟩, [(⟨ua, bs.length, uc⟩, bs)]⟩ rfl
      dsimp only [Sl.val] at hput
      have HS4 := Lib.hid (new_perm (e := ⟨KB, ⟨some ⟨g', 0, none⟩, 1, cap⟩, [(⟨ua, bs.length, uc⟩, bs)]⟩) (s := ⟨ua, bs.length, uc⟩) (x := bs) hs4)
      clear hs3 hs4
      go_wp2_with fail
      refine Mix.post_mk (C := (fun W : World => W.cell? ⟨b, 1, none⟩ = some (.map (some l.bm)) ∧ (Instr.lookup 56 (.map (some l.bm)) (.int .i64 KB) false).run Try.prog W = .ok (.slice none 0 0) W)) (by first | exact hCW | exact HCW.out _) (hK _ _ ?_)
      clear hK K
      refine Mix.done ?_
      refine Mix.step2n (by first | rfl | simp [Region.wanted, yielded]) fun K hK => ?_
      go_wp2_with fail
      refine Mix.post_mk (C := (fun _ => True)) trivial (hK _ _ ?_)
      clear hK K
      refine Mix.done ?_
      go_wp2_with fail
      go_ret
      have h5 := HS4.out
      rw [HLF.out, HOF.out] at h5
      refine ⟨by rw [HWE.out, HCE.out]; rfl, ?_⟩
      rw [HWD2.out]
      exact Sep.devClose (d := (Dv.mk B left false).counted.put KB bs) HHI.out h5 (HPO.out _ _ _ ⟨H5.out, H5.out⟩)
end
end Go.Proofs.Ytpjbafpbgacnkaa
