/-
  The reference's heap (gabletref10), walked: Push, Peek, Pop.
-/
import Derived.Test.YtellkmjbpaaclaaHRefW
import Derived.Test.YtellkmjbpaaclaaHSortsW
namespace Go.Proofs.Ytellkmjbpaaclaa
open Go Go.RowKit Go.Mem Go.HeapP

set_option maxHeartbeats 800000 in
theorem rpush_any (b : Nat) (S : Nat → Prop) (xs : List T) (k i : Int) (w : World) (h : RRep w b S xs) (hn : xs.length ≤ 2000) :
    Calls Try.prog 11 #[.pointer (some ⟨b, 0, none⟩), .int .i64 k, .int .i64 i] w fun e w' => e = .returned (.tuple #[]) ∧ ∃ S', RRep w' b S' (xs ++ [(k, i)]) ∧ Turned S S' w w' := by
  obtain ⟨i0, hi, hz0, hz1, hz2⟩ := info_parts Try.infoThing10
  have hb := h.low b h.inS
  obtain ⟨v, hv, hrow, hvb, hvS⟩ := h.mem
  have hc : w.cell? ⟨b, 0, none⟩ = some v := cell_of hv 0
  have hf0 := frozen_of hv 0
  have hnb : (w.alloc (.cells #[.int .i64 k, .int .i64 i] 42)).heap[w.heap.size]? = some (.cells #[.int .i64 k, .int .i64 i] 42 (0, 0)) := heap_alloc_new w _
  have hown : (w.alloc (.cells #[.int .i64 k, .int .i64 i] 42)).ownsRow 0 42 2 v xs.length (flat xs) := World.ownsRow.alloc hrow _
  go_enter Try.func11, Try.ntmps11
  go_wp2_with (at_builtin; refine wpList_append1 rfl (.tmp 10) (.tmp 14) 27 rfl 42 i0 _ 2 16 Try.underlying27 hi hz0 hz1 hz2 rfl (by decide) v xs.length (flat xs) rfl hown w.heap.size _ _ _ rfl hnb rfl ?c2 ?c3 ?c4 ?grow)
  case c2 => exact ⟨rfl, rfl⟩
  case c3 => unfold maxLen; omega
  case c4 => omega
  case grow =>
    intro v' w1 hA
    clear hnb hown
    have hF1 : Fr S w w1 := (Fr.alloc w _).trans hA.fr (fun i _ e => hvS i e)
    obtain ⟨g, cap', rfl⟩ := hA.shape (by omega)
    have hg0 : S g ∨ w.heap.size ≤ g := by
      rcases hA.block g rfl with h | h
      · exact .inl (hvS g h)
      · simp at h; exact .inr (by omega)
    have hbg : b ≠ g := by
      rcases hA.block g rfl with h | h
      · intro e; subst e; exact hvb h
      · simp at h; omega
    have hv1 : w1.heap[b]? = some (.cells #[v] 29 (0, 0)) := by
      rw [hA.fr.block b (by simp; omega) hvb]
      exact (Below.heap_alloc _ _ _ hb).trans hv
    have hc1 : w1.cell? ⟨b, 0, none⟩ = some v := cell_of hv1 0
    have hf1 := frozen_of hv1 0
    have ha1 : Row 42 w1 (.slice (some ⟨g, 0, none⟩) (xs.length + 1) cap') (xs ++ [(k, i)]) := by
      unfold Row
      rw [← flat_append]
      simpa using hA.own
    clear hc hf0 hv hA
    go_wp2_with fail
    generalize hW2 : World.setCell _ _ _ = w2
    have hF2 : Fr (· = b) w1 w2 := by rw [← hW2]; exact Fr.set1 _ _ _ _
    have hs2 : w2.heap[b]? = some (.cells #[.slice (some ⟨g, 0, none⟩) (xs.length + 1) cap'] 29 (0, 0)) := by
      rw [← hW2, heap_setCell_same _ _ _ _ _ _ hv1]; rfl
    have ha2 := ha1.frame hF2 (fun g' e => by simp only [Value.ownBlock, Option.some.injEq] at e; subst e; exact fun e => hbg e.symm)
    clear hW2
    go_end0
    have hF : Fr S w w2 := hF1.trans hF2 (fun i _ e => by rw [e]; exact h.inS)
    refine ⟨rfl, fun j => j < w2.heap.size ∧ (S j ∨ w.heap.size ≤ j), ⟨⟨lt_of hs2, .inl h.inS⟩, fun j hj => hj.1, _, hs2, ha2, by simp only [Value.ownBlock]; intro e; exact hbg (Option.some.inj e).symm, fun g' e => ?_⟩, hF, fun j hj => hj.2⟩
    simp only [Value.ownBlock, Option.some.injEq] at e
    subst e
    exact ⟨ha2.low _ rfl, hg0⟩

/-- What Peek tells: noughts, or a first one. -/
def RPeek (xs : List T) (p q e : Int) : Prop := (xs = [] ∧ p = 0 ∧ q = 0 ∧ e = 4) ∨ (e = 0 ∧ (p, q) ∈ xs ∧ ∀ y ∈ xs, le (p, q) y)

set_option maxHeartbeats 800000 in
set_option maxRecDepth 100000 in
theorem rpeek_any (b : Nat) (S : Nat → Prop) (xs : List T) (w : World) (h : RRep w b S xs) (hn : xs.length ≤ 2000) :
    Calls Try.prog 15 #[.pointer (some ⟨b, 0, none⟩)] w fun e w' => Fr (fun _ => False) w w' ∧ ∃ p q k : Int, e = .returned (.tuple #[.int .i64 p, .int .i64 q, .int .i64 k]) ∧ RPeek xs p q k := by
  go_enter Try.func15, Try.ntmps15
  go_wp2_with fail
  refine (rfirst_any b S xs _ h hn).mono ?_
  rintro e w1 ⟨hf, k, rfl, hk⟩
  rcases hk with ⟨h0, rfl⟩ | ⟨m, rfl, hm, hmin⟩
  · have H0 := Lib.hid h0
    clear h0
    go_wp2_with fail
    go_ret3
    exact ⟨hf, 0, 0, 4, rfl, .inl ⟨List.eq_nil_of_length_eq_zero H0.out, rfl, rfl, rfl⟩⟩
  · obtain ⟨v, hv, hrow, _, _⟩ := (h.frame hf (fun _ _ h => h)).mem
    obtain ⟨g, cap, rfl, hg, hcs⟩ := hrow.get m hm
    have hc : w1.cell? ⟨b, 0, none⟩ = some (.slice (some ⟨g, 0, none⟩) xs.length cap) := cell_of hv 0
    have c1 := (hcs m hm).1
    have c2 := (hcs m hm).2
    have hk0 : ¬ ((m : Int) < 0) := by omega
    clear hcs
    go_wp2_with fail
    refine Mix.region [0, 0, 0, 0, 0, 0, 0, 0, 0, 0, 0, 0, 0, 0, 0, 0, 0, 0, 0] (fun _ => True) (by kernel_rfl) (by kernel_rfl) trivial ?_
    simp only [List.zip_cons_cons, List.zip_nil_right]
    iterate 19 (refine Mix.step0 fun K hK => ?_; go_simp; (try (go_bits; try go_simp)); first | ((with_reducible refine hK _ _ ?_); clear hK K) | ((try (simp only [IntWalk.iteOmega]; try go_simp)); (try go_bits); (with_reducible refine hK _ _ ?_); clear hK K))
    refine Mix.done ?_
    go_wp2_with fail
    go_ret3
    refine ⟨hf.to_drew, (nth xs m).1, (nth xs m).2, 0, rfl, .inr ⟨rfl, nth_mem hm, fun y hy => ?_⟩⟩
    obtain ⟨j, hj, rfl⟩ := List.getElem_of_mem hy
    have := hmin j hj
    simpa [nth, hj] using this

/-- One thing fewer: the last one lies in its place. -/
def without (xs : List T) (m : Nat) : List T := (xs.set m (nth xs (xs.length - 1))).take (xs.length - 1)
theorem without_perm {xs : List T} {m : Nat} (hm : m < xs.length) : (nth xs m :: without xs m).Perm xs := by
  obtain ⟨ys, l, rfl⟩ : ∃ ys l, xs = ys ++ [l] := ⟨xs.dropLast, xs.getLast (by intro h; simp [h] at hm), (List.dropLast_concat_getLast _).symm⟩
  have hl : nth (ys ++ [l]) ((ys ++ [l]).length - 1) = l := by simp [nth]
  unfold without
  rw [hl]
  by_cases h : m < ys.length
  · have e1 : ((ys ++ [l]).set m l).take ((ys ++ [l]).length - 1) = ys.set m l := by
      rw [List.set_append_left _ _ h]
      simp
    have e2 : nth (ys ++ [l]) m = ys[m] := by simp [nth, List.getElem?_append_left h, h]
    rw [e1, e2]
    have h3 : ys = ys.take m ++ ys[m] :: ys.drop (m + 1) := by simp
    have h4 : ys.set m l = ys.take m ++ l :: ys.drop (m + 1) := by rw [List.set_eq_take_append_cons_drop, if_pos h]
    rw [h4]
    refine List.Perm.trans ?_ (List.Perm.append_right [l] (List.Perm.of_eq h3.symm))
    rw [List.append_assoc, List.cons_append]
    have p1 : (ys[m] :: (ys.take m ++ l :: ys.drop (m + 1))).Perm (ys.take m ++ ys[m] :: l :: ys.drop (m + 1)) := List.perm_middle.symm
    refine p1.trans (List.Perm.append_left _ (List.Perm.cons _ ?_))
    exact (List.perm_append_singleton l _).symm
  · have hml : m = ys.length := by simp at hm; omega
    subst hml
    have e1 : ((ys ++ [l]).set ys.length l).take ((ys ++ [l]).length - 1) = ys := by simp
    have e2 : nth (ys ++ [l]) ys.length = l := by simp [nth]
    rw [e1, e2]
    exact (List.perm_append_singleton l ys).symm
theorem without_length (xs : List T) (m : Nat) : (without xs m).length = xs.length - 1 := by simp [without]

theorem Row.put {E : TypeId} {w : World} {g cap : Nat} {ys : List T} (h : Row E w (.slice (some ⟨g, 0, none⟩) ys.length cap) ys) (k : Nat) (x : T) :
    Row E ((w.setCell ⟨g, k * 2, none⟩ (.int .i64 x.1)).setCell ⟨g, k * 2 + 1, none⟩ (.int .i64 x.2)) (.slice (some ⟨g, 0, none⟩) ys.length cap) (ys.set k x) := by
  have h1 := (World.ownsRow.stored (World.ownsRow.stored h (k * 2) (.int .i64 x.1)).1 (k * 2 + 1) (.int .i64 x.2)).1
  unfold Row
  rw [List.length_set, ← flat_set]
  exact h1
theorem Row.shrink {E : TypeId} {w : World} {g n cap : Nat} {ys : List T} (h : Row E w (.slice (some ⟨g, 0, none⟩) n cap) ys) (m : Nat) (hm : m ≤ ys.length) : Row E w (.slice (some ⟨g, 0, none⟩) m cap) (ys.take m) := by
  have hl : (ys.take m).length = m := by simp; omega
  refine ⟨flat_length _, ?_⟩
  rcases h.2 with ⟨h', _⟩ | ⟨g', cap', cur, h', hb, hg, hnc, hcm, hcs, htake⟩
  · simp at h'
  · simp only [Value.slice.injEq, Option.some.injEq, Addr.mk.injEq, and_true] at h'
    obtain ⟨rfl, rfl, rfl⟩ := h'
    refine .inr ⟨g, cap, cur, by rw [hl], hb, hg, by omega, hcm, hcs, ?_⟩
    rw [hl, ← flat_take, ← htake, List.take_take]
    congr 1
    omega
theorem Row.le {E : TypeId} {w : World} {g n cap : Nat} {ys : List T} (h : Row E w (.slice (some ⟨g, 0, none⟩) n cap) ys) : ys.length ≤ cap := by
  rcases h.2 with ⟨h', _⟩ | ⟨g', cap', cur, h', hb, hg, hnc, _⟩
  · simp at h'
  · simp only [Value.slice.injEq, Option.some.injEq, Addr.mk.injEq, and_true] at h'
    obtain ⟨rfl, rfl, rfl⟩ := h'
    exact hnc
theorem Row.free {E : TypeId} {w : World} {g n cap : Nat} {ys : List T} (h : Row E w (.slice (some ⟨g, 0, none⟩) n cap) ys) (j : Nat) : w.frozen? ⟨g, j, none⟩ = false := by
  rcases h.2 with ⟨h', _⟩ | ⟨g', cap', cur, h', hb, hg, _⟩
  · simp at h'
  · simp only [Value.slice.injEq, Option.some.injEq, Addr.mk.injEq, and_true] at h'
    obtain ⟨rfl, rfl, rfl⟩ := h'
    exact frozen_of hg j

set_option maxHeartbeats 1000000 in
set_option maxRecDepth 100000 in
theorem rpop_any (b : Nat) (S : Nat → Prop) (xs : List T) (w : World) (h : RRep w b S xs) (hn : xs.length ≤ 2000) :
    Calls Try.prog 13 #[.pointer (some ⟨b, 0, none⟩)] w fun e w' => Fr S w w' ∧ ∃ (p q k : Int) (xs' : List T), e = .returned (.tuple #[.int .i64 p, .int .i64 q, .int .i64 k]) ∧ RPeek xs p q k ∧ RRep w' b S xs' ∧ ((xs = [] ∧ xs' = []) ∨ (xs ≠ [] ∧ ((p, q) :: xs').Perm xs)) := by
  go_enter Try.func13, Try.ntmps13
  go_wp2_with fail
  refine (rpeek_any b S xs _ h hn).mono ?_
  rintro e w1 ⟨hf1, p, q, k, rfl, hpk⟩
  have hr1 := h.frame hf1 (fun _ _ h => h)
  have hF1 : Fr S w w1 := hf1.mono (fun _ _ h => h.elim)
  rcases hpk with ⟨h0, rfl, rfl, rfl⟩ | ⟨rfl, hin, hmin⟩
  · have H0 := Lib.hid h0
    clear h0
    go_wp2_with fail
    go_ret3
    exact ⟨hF1, 0, 0, 4, xs, rfl, .inl ⟨H0.out, rfl, rfl, rfl⟩, hr1, .inl ⟨H0.out, H0.out⟩⟩
  · have HIN := Lib.hid hin
    have HMIN := Lib.hid hmin
    clear hin hmin
    go_wp2_with fail
    refine (rfirst_any b S xs _ hr1 hn).mono ?_
    rintro e w2 ⟨hf2, k, rfl, hk⟩
    rcases hk with ⟨h0, rfl⟩ | ⟨m, rfl, hm, hmm⟩
    · have := List.eq_nil_of_length_eq_zero h0
      have h3 := HIN.out
      rw [this] at h3
      cases h3
    · have hr2 := hr1.frame hf2 (fun _ _ h => h)
      have hF2 : Fr S w w2 := hF1.trans hf2 (fun _ _ h => h.elim)
      have heq : nth xs m = (p, q) := by
        have h1 := HMIN.out (nth xs m) (nth_mem hm)
        obtain ⟨j, hj, hje⟩ := List.getElem_of_mem HIN.out
        have h2 := hmm j hj
        have h3 : nth xs j = (p, q) := by rw [← hje]; simp [nth, hj]
        rw [h3] at h2
        exact le_antisymm h2 h1
      have HEQ := Lib.hid heq
      have HMM := Lib.hid hmm
      clear heq hmm
      obtain ⟨v, hv, hrow, hvb, hvS⟩ := hr2.mem
      obtain ⟨g, cap, rfl, hg, hcs⟩ := hrow.get m hm
      have hgS : S g := hvS g rfl
      have hbg : b ≠ g := fun e => hvb (by rw [e]; rfl)
      obtain ⟨o, ho⟩ : ∃ o, o = xs.length - 1 := ⟨_, rfl⟩
      have hol : o < xs.length := by omega
      have hco : IntKind.i64.wrap ((xs.length : Int) - 1) = (o : Int) := by rw [IntWalk.i64_in _ (by omega)]; omega
      have HO := Lib.hid ho
      clear ho
      have hc : w2.cell? ⟨b, 0, none⟩ = some (.slice (some ⟨g, 0, none⟩) xs.length cap) := cell_of hv 0
      have hf0 := frozen_of hv 0
      have c1 := (hcs m hm).1
      have c2 := (hcs m hm).2
      have c3 := (hcs o hol).1
      have c4 := (hcs o hol).2
      have hfr := fun j => hrow.free j
      clear hcs
      go_upto_region 4 with fail
      refine Mix.region [0, 0, 0, 0, 0, 0, 0, 0, 0, 0, 0, 0, 0, 0, 0, 0, 0, 0, 2] (fun _ => True) (by kernel_rfl) (by kernel_rfl) trivial ?_
      simp only [List.zip_cons_cons, List.zip_nil_right]
      iterate 18 (refine Mix.step0 fun K hK => ?_; go_simp; (try (go_bits; try go_simp)); first | ((with_reducible refine hK _ _ ?_); clear hK K) | ((try (simp only [IntWalk.iteOmega]; try go_simp)); (try go_bits); (with_reducible refine hK _ _ ?_); clear hK K))
      refine Mix.step2n (by first | rfl | simp [Region.wanted, yielded]) fun K hK => ?_
      go_wp2_with fail
      refine Mix.post_mk (C := (fun _ => True)) trivial (hK _ _ ?_)
      clear hK K
      refine Mix.done ?_
      generalize hW3 : World.drew _ = w3
      have ha3 : Row 42 w3 (.slice (some ⟨g, 0, none⟩) xs.length cap) (xs.set m (nth xs o)) := by rw [← hW3]; exact hrow.put m (nth xs o)
      have hF3 : Fr (· = g) w2 w3 := by
        rw [← hW3]
        exact (Fr.set2 _ _ _ _ _ _).to_drew
      have hs3 : w3.heap[b]? = some (.cells #[.slice (some ⟨g, 0, none⟩) xs.length cap] 29 (0, 0)) := by rw [hF3.block b (lt_of hv) hbg, hv]
      have ha4 : Row 42 w3 (.slice (some ⟨g, 0, none⟩) o cap) (without xs m) := by
        have h := ha3.shrink o (by simp; omega)
        unfold without
        rw [← HO.out]
        exact h
      have hcapo : o ≤ cap := by have := hrow.le; omega
      clear hW3 c1 c2 c3 c4 hfr hc hf0
      have hc : w3.cell? ⟨b, 0, none⟩ = some (.slice (some ⟨g, 0, none⟩) xs.length cap) := cell_of hs3 0
      have hf0 := frozen_of hs3 0
      clear hco
      go_wp2_with fail
      have hco : IntKind.i64.wrap ((xs.length : Int) - 1) = (o : Int) := by have := HO.out; rw [IntWalk.i64_in _ (by omega)]; omega
      refine Mix.region [0, 0, 0, 0, 0, 0, 0, 0, 0, 0, 0, 0, 0, 0, 2] (fun _ => True) (by kernel_rfl) (by kernel_rfl) trivial ?_
      simp only [List.zip_cons_cons, List.zip_nil_right]
      iterate 14 (refine Mix.step0 fun K hK => ?_; go_simp; (try (go_bits; try go_simp)); first | ((with_reducible refine hK _ _ ?_); clear hK K) | ((try (simp only [IntWalk.iteOmega]; try go_simp)); (try go_bits); (with_reducible refine hK _ _ ?_); clear hK K))
      refine Mix.step2n (by first | rfl | simp [Region.wanted, yielded]) fun K hK => ?_
      go_wp2_with fail
      refine Mix.post_mk (C := (fun _ => True)) trivial (hK _ _ ?_)
      clear hK K
      refine Mix.done ?_
      generalize hW4 : World.drew _ = w4
      have hF4 : Fr (· = b) w3 w4 := by rw [← hW4]; exact (Fr.set1 _ _ _ _).to_drew
      have hs4 : w4.heap[b]? = some (.cells #[.slice (some ⟨g, 0, none⟩) o cap] 29 (0, 0)) := by
        rw [← hW4]; exact (heap_setCell_same _ _ _ _ _ _ hs3).trans rfl
      have ha5 := ha4.frame hF4 (fun g' e => by simp only [Value.ownBlock, Option.some.injEq] at e; subst e; exact fun e => hbg e.symm)
      clear hW4
      go_wp2_with fail
      go_ret3
      have hF : Fr S w w4 := (hF2.trans hF3 (fun i _ e => by rw [e]; exact hgS)).trans hF4 (fun i _ e => by rw [e]; exact h.inS)
      have hwp := without_perm hm
      rw [HEQ.out] at hwp
      have hwl : (without xs m).length = o := by rw [without_length, HO.out]
      refine ⟨hF, p, q, 0, without xs m, rfl, .inr ⟨rfl, HIN.out, HMIN.out⟩, ⟨h.inS, fun j hj => Nat.lt_of_lt_of_le (h.low j hj) hF.size, _, hs4, ha5, hvb, hvS⟩, .inr ⟨fun e => ?_, hwp⟩⟩
      have h3 := HIN.out
      rw [e] at h3
      cases h3
end Go.Proofs.Ytellkmjbpaaclaa
