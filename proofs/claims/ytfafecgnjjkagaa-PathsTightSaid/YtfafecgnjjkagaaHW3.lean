/-
  The walks of package heap, third part: New, Len, Push, Peek, Pop.
-/
import Derived.Test.YtfafecgnjjkagaaHW2
namespace Go.Proofs.Ytfafecgnjjkagaa
open Go Go.RowKit Go.Mem Go.HeapP

theorem Try.infoThing : (Try.prog.info? 65).map (fun i => (i.zero, i.size, i.bytes)) = some (some (.agg #[.int .i64 0, .int .i64 0]), 2, 16) := by kernel_rfl

/-- A heap lies at block b, in the blocks of S. -/
structure HRep (w : World) (b : Nat) (S : Nat → Prop) (xs : List T) : Prop where
  isH : IsH xs
  inS : S b
  low : ∀ j, S j → j < w.heap.size
  mem : (w.heap[b]? = some (.cells #[.slice none 0 0] 62 (0, 0)) ∧ xs = []) ∨ ∃ g cap, w.heap[b]? = some (.cells #[.slice (some ⟨g, 0, none⟩) xs.length cap] 62 (0, 0)) ∧ Arr w g cap xs ∧ b ≠ g ∧ S g

theorem HRep.frame {w w' : World} {b : Nat} {S S' : Nat → Prop} {xs : List T} (h : HRep w b S xs) (hf : Fr S' w w') (hd : ∀ j, S j → ¬ S' j) : HRep w' b S xs := by
  refine ⟨h.isH, h.inS, fun j hj => Nat.lt_of_lt_of_le (h.low j hj) hf.size, ?_⟩
  have hb := hf.block b (h.low b h.inS) (hd b h.inS)
  rcases h.mem with ⟨h1, h2⟩ | ⟨g, cap, h1, h2, h3, h4⟩
  · exact .inl ⟨hb.trans h1, h2⟩
  · exact .inr ⟨g, cap, hb.trans h1, h2.frame hf (hd g h4), h3, h4⟩

/-- What a call may have done to the blocks of S: they have turned into S'. -/
structure Turned (S S' : Nat → Prop) (w w' : World) : Prop where
  fr : Fr S w w'
  new : ∀ j, S' j → S j ∨ w.heap.size ≤ j

theorem Turned.refl {S : Nat → Prop} (w : World) : Turned S S w w := ⟨Fr.refl _ _, fun _ h => .inl h⟩
theorem Turned.trans {S S' S'' : Nat → Prop} {a b c : World} (h : Turned S S' a b) (k : Turned S' S'' b c) : Turned S S'' a c :=
  ⟨h.fr.trans k.fr (fun i hi hs => (h.new i hs).elim id (fun h' => by omega)), fun j hj => by
    rcases k.new j hj with h1 | h1
    · exact h.new j h1
    · have := h.fr.size; exact .inr (by omega)⟩
theorem Turned.of {S : Nat → Prop} {a b : World} (h : Fr S a b) : Turned S S a b := ⟨h, fun _ h => .inl h⟩

set_option maxHeartbeats 400000 in
theorem new_any (w : World) :
    Calls Try.prog 21 #[] w fun e w' => e = .returned (.pointer (some ⟨w.heap.size, 0, none⟩)) ∧ HRep w' w.heap.size (· = w.heap.size) [] ∧ Below w.heap.size w w' := by
  go_enter Try.func21, Try.ntmps21
  go_wp2
  go_ret
  refine ⟨rfl, ⟨isH_nil, rfl, fun j hj => by subst hj; simp, .inl ⟨?_, rfl⟩⟩, (Below.refl _ _).alloc (Nat.le_refl _) _⟩
  exact heap_alloc_new w _

set_option maxHeartbeats 400000 in
theorem len_any (b : Nat) (S : Nat → Prop) (xs : List T) (w : World) (h : HRep w b S xs) :
    Calls Try.prog 23 #[.pointer (some ⟨b, 0, none⟩)] w fun e w' => e = .returned (.int .i64 xs.length) ∧ w = w' := by
  rcases h.mem with ⟨h1, rfl⟩ | ⟨g, cap, h1, _, _, _⟩
  · have hc := cell_of h1 0
    simp at hc
    clear h h1
    go_enter Try.func23, Try.ntmps23
    go_wp2
    go_ret
    exact ⟨rfl, rfl⟩
  · have hc := cell_of h1 0
    simp at hc
    clear h h1
    go_enter Try.func23, Try.ntmps23
    go_wp2
    go_ret
    exact ⟨rfl, rfl⟩

set_option maxHeartbeats 800000 in
theorem push_any (b : Nat) (S : Nat → Prop) (xs : List T) (k i : Int) (w : World) (h : HRep w b S xs) (hn : xs.length ≤ 99999) :
    Calls Try.prog 35 #[.pointer (some ⟨b, 0, none⟩), .int .i64 k, .int .i64 i] w fun e w' => e = .returned (.int .i64 0) ∧ ∃ S' xs', HRep w' b S' xs' ∧ xs'.Perm ((k, i) :: xs) ∧ Turned S S' w w' := by
  obtain ⟨i0, hi, hz0, hz1, hz2⟩ := info_parts Try.infoThing
  have hb := h.low b h.inS
  obtain ⟨v, hv, hown, hvb, hvS⟩ : ∃ v, w.heap[b]? = some (.cells #[v] 62 (0, 0)) ∧ w.ownsRow 0 65 2 v xs.length (flat xs) ∧ v.ownBlock ≠ some b ∧ (∀ g, v.ownBlock = some g → S g) := by
    rcases h.mem with ⟨h1, h2⟩ | ⟨g, cap, h1, h2, h3, h4⟩
    · refine ⟨_, h1, by subst h2; exact World.ownsRow_nil _ _ _ _, by simp [Value.ownBlock], by simp [Value.ownBlock]⟩
    · refine ⟨_, h1, h2, by simp only [Value.ownBlock]; intro e; exact h3 (Option.some.inj e).symm, fun g' e => ?_⟩
      simp only [Value.ownBlock, Option.some.injEq] at e; subst e; exact h4
  have hc : w.cell? ⟨b, 0, none⟩ = some v := cell_of hv 0
  have hf0 := frozen_of hv 0
  have hnb : (w.alloc (.cells #[.int .i64 k, .int .i64 i] 65)).heap[w.heap.size]? = some (.cells #[.int .i64 k, .int .i64 i] 65 (0, 0)) := heap_alloc_new w _
  go_enter Try.func35, Try.ntmps35
  go_wp2_with (at_builtin; refine wpList_append1 rfl (.tmp 13) (.tmp 17) 60 rfl 65 i0 _ 2 16 Try.underlying60 hi hz0 hz1 hz2 rfl (by decide) v xs.length (flat xs) rfl (hown.alloc _) w.heap.size _ _ _ rfl hnb rfl ?c2 ?c3 ?c4 ?grow)
  case c2 => exact ⟨rfl, rfl⟩
  case c3 => unfold maxLen; omega
  case c4 => omega
  case grow =>
    intro v' w1 hA
    clear hnb
    have hF1 : Fr S w w1 := (Fr.alloc w _).trans hA.fr (fun i _ e => hvS i e)
    obtain ⟨g, cap', rfl⟩ := hA.shape (by omega)
    have hg0 : S g ∨ w.heap.size ≤ g := by
      rcases hA.block g rfl with h | h
      · exact .inl (hvS g h)
      · simp at h; exact .inr (by omega)
    have hbg : b ≠ g := by
      rcases hA.block g rfl with h | h
      · intro e; subst e; exact hvb h
      · simp at h; omega
    have hv1 : w1.heap[b]? = some (.cells #[v] 62 (0, 0)) := by
      rw [hA.fr.block b (by simp; omega) hvb]
      exact (Below.heap_alloc _ _ _ hb).trans hv
    have hc1 : w1.cell? ⟨b, 0, none⟩ = some v := cell_of hv1 0
    have hf1 := frozen_of hv1 0
    have ha1 : Arr w1 g cap' (xs ++ [(k, i)]) := by
      unfold Arr
      rw [← flat_append]
      simpa using hA.own
    have HL := Lib.hid (show (xs ++ [(k, i)]).length = xs.length + 1 by simp)
    clear hc hf0 hv hA
    go_wp2_with fail
    generalize hW2 : World.setCell _ _ _ = w2
    have hF2 : Fr (· = b) w1 w2 := by rw [← hW2]; exact Fr.set1 _ _ _ _
    have hs2 : w2.heap[b]? = some (.cells #[.slice (some ⟨g, 0, none⟩) (xs ++ [(k, i)]).length cap'] 62 (0, 0)) := by
      rw [← hW2, heap_setCell_same _ _ _ _ _ _ hv1, HL.out]; rfl
    have ha2 : Arr w2 g cap' (xs ++ [(k, i)]) := ha1.frame hF2 (fun e => hbg e.symm)
    refine (up_any b g cap' _ (xs ++ [(k, i)]) _ ?_ ?_ hs2 hbg ha2 (up_start h.isH _)).mono ?_
    · simp
    · simp; omega
    rintro e w3 ⟨rfl, hF3, ys, ha3, hh3, hp3⟩
    go_wp2_with fail
    go_ret
    have hF : Fr S w w3 := (hF1.trans hF2 (fun i _ e => by rw [e]; exact h.inS)).trans hF3 (fun i hi e => by
      rcases hg0 with h | h
      · rw [e]; exact h
      · rw [e] at hi; omega)
    have hs3 : w3.heap[b]? = some (.cells #[.slice (some ⟨g, 0, none⟩) ys.length cap'] 62 (0, 0)) := by
      rw [hF3.block b (lt_of hs2) hbg, hs2, hp3.length_eq]
    exact ⟨rfl, fun j => j < w3.heap.size ∧ (S j ∨ w.heap.size ≤ j), ys, ⟨hh3, ⟨lt_of hs3, .inl h.inS⟩, fun j hj => hj.1, .inr ⟨g, cap', hs3, ha3, hbg, ha3.lt, hg0⟩⟩, hp3.trans (List.perm_append_singleton _ _), hF, fun j hj => hj.2⟩

def peekV : List T → Value
  | [] => .tuple #[.int .i64 0, .int .i64 0, .int .i64 4]
  | x :: _ => .tuple #[.int .i64 x.1, .int .i64 x.2, .int .i64 0]

set_option maxHeartbeats 800000 in
theorem peek_any (b : Nat) (S : Nat → Prop) (xs : List T) (w : World) (h : HRep w b S xs) (hn : xs.length ≤ 100000) :
    Calls Try.prog 36 #[.pointer (some ⟨b, 0, none⟩)] w fun e w' => e = .returned (peekV xs) ∧ ∃ m, w' = w.drewN m := by
  match xs, h.mem with
  | [], .inl ⟨h1, _⟩ =>
    have hc := cell_of h1 0
    simp at hc
    clear h h1
    go_enter Try.func36, Try.ntmps36
    go_wp2
    go_ret3
    exact ⟨rfl, 0, rfl⟩
  | [], .inr ⟨g, cap, h1, _, _, _⟩ =>
    have hc := cell_of h1 0
    simp at hc
    clear h h1
    go_enter Try.func36, Try.ntmps36
    go_wp2
    go_ret3
    exact ⟨rfl, 0, rfl⟩
  | x :: r, .inr ⟨g, cap, h1, h2, _, _⟩ =>
    have hc := cell_of h1 0
    simp only [List.length_cons, List.getElem?_toArray, List.getElem?_cons_zero] at hc
    have k0 := h2.key 0 (by simp)
    have i0 := h2.item 0 (by simp)
    simp only [Nat.zero_mul, Nat.zero_add, nth, List.getD_cons_zero] at k0 i0
    simp only [List.length_cons] at hn
    clear h h1 h2
    go_enter Try.func36, Try.ntmps36
    go_wp2_with fail
    refine Mix.region [0, 0, 0, 0, 0, 0, 0, 0, 0, 0, 0, 0, 0, 0, 0, 0, 0] (fun _ => True) (by kernel_rfl) (by kernel_rfl) trivial ?_
    simp only [List.zip_cons_cons, List.zip_nil_right]
    iterate 17 (refine Mix.step0 fun K hK => ?_; go_simp; (try (go_bits; try go_simp)); first | ((with_reducible refine hK _ _ ?_); clear hK K) | ((try (simp only [IntWalk.iteOmega]; try go_simp)); (try go_bits); (with_reducible refine hK _ _ ?_); clear hK K))
    refine Mix.done ?_
    go_wp2_with fail
    go_ret3
    exact ⟨rfl, 1, rfl⟩
set_option maxHeartbeats 1000000 in
set_option maxRecDepth 100000 in
theorem pop_any (b : Nat) (S : Nat → Prop) (xs : List T) (w : World) (h : HRep w b S xs) (hn : xs.length ≤ 100000) :
    Calls Try.prog 24 #[.pointer (some ⟨b, 0, none⟩)] w fun e w' => e = .returned (peekV xs) ∧ ∃ xs', HRep w' b S xs' ∧ xs'.Perm xs.tail ∧ Fr S w w' := by
  match xs, h with
  | [], h =>
    go_enter Try.func24, Try.ntmps24
    go_wp2_with fail
    refine (peek_any b S [] _ h (by simp)).mono ?_
    rintro e w1 ⟨rfl, m, rfl⟩
    unfold peekV
    go_wp2_with fail
    go_ret3
    exact ⟨rfl, [], ⟨h.isH, h.inS, h.low, h.mem⟩, List.Perm.refl _, Fr.drewN _ _⟩
  | x :: r, h =>
    obtain ⟨g, cap, h1, h2, h3, h4⟩ : ∃ g cap, w.heap[b]? = some (.cells #[.slice (some ⟨g, 0, none⟩) (x :: r).length cap] 62 (0, 0)) ∧ Arr w g cap (x :: r) ∧ b ≠ g ∧ S g := by
      rcases h.mem with ⟨_, h⟩ | h
      · cases h
      · exact h
    go_enter Try.func24, Try.ntmps24
    go_wp2_with fail
    refine (peek_any b S (x :: r) _ h hn).mono ?_
    rintro e w1 ⟨rfl, m, hm⟩
    have hF0 : Fr S w w1 := by rw [hm]; exact Fr.drewN _ _
    have hs1 : w1.heap[b]? = some (.cells #[.slice (some ⟨g, 0, none⟩) (x :: r).length cap] 62 (0, 0)) := by rw [hm]; exact h1
    have ha1 : Arr w1 g cap (x :: r) := by rw [hm]; exact h2
    clear hm h1 h2
    obtain ⟨ys, hys⟩ : ∃ ys, ys = x :: r := ⟨_, rfl⟩
    rw [← hys] at hs1 ha1 hn
    have hhd : peekV (x :: r) = .tuple #[.int .i64 x.1, .int .i64 x.2, .int .i64 0] := rfl
    rw [hhd]
    have hH : IsH ys := by rw [hys]; exact h.isH
    have hpos : 0 < ys.length := by rw [hys]; simp
    have hpp : (popped ys).Perm r := by
      have := popped_perm hpos
      have e0 : nth ys 0 = x := by rw [hys]; rfl
      rw [e0, hys] at this
      exact (List.perm_cons x).1 (by rw [hys]; exact this)
    clear hhd hys
    have hin := h.inS
    have hlow := h.low
    clear h
    obtain ⟨o, ho⟩ : ∃ o, o = ys.length - 1 := ⟨_, rfl⟩
    have hco : (ys.length : Int) - 1 = (o : Int) := by omega
    have hol : o < ys.length := by omega
    have HO := Lib.hid ho
    have HCO := Lib.hid hco
    clear ho hco
    have hc : w1.cell? ⟨b, 0, none⟩ = some (.slice (some ⟨g, 0, none⟩) ys.length cap) := cell_of hs1 0
    have hf0 := frozen_of hs1 0
    have k0 := ha1.key 0 hpos
    have i0 := ha1.item 0 hpos
    rw [Nat.zero_mul] at k0 i0
    have k1 := ha1.key o hol
    have i1 := ha1.item o hol
    have hfr := fun j => ha1.free j
    go_upto_region 4 with fail
    rw [HCO.out]
    refine Mix.region [0, 0, 0, 0, 0, 0, 0, 0, 0, 0, 0, 0, 2] (fun _ => True) (by kernel_rfl) (by kernel_rfl) trivial ?_
    simp only [List.zip_cons_cons, List.zip_nil_right]
    iterate 12 (refine Mix.step0 fun K hK => ?_; go_simp; (try (go_bits; try go_simp)); first | ((with_reducible refine hK _ _ ?_); clear hK K) | ((try (simp only [IntWalk.iteOmega]; try go_simp)); (try go_bits); (with_reducible refine hK _ _ ?_); clear hK K))
    refine Mix.step2n (by first | rfl | simp [Region.wanted, yielded]) fun K hK => ?_
    go_wp2_with fail
    refine Mix.post_mk (C := (fun _ => True)) trivial (hK _ _ ?_)
    clear hK K
    refine Mix.done ?_
    generalize hW2 : World.drew _ = w2
    have ha2 : Arr w2 g cap (ys.set 0 (nth ys o)) := by rw [← hW2]; exact ha1.put 0 (nth ys o)
    have hF2 : Fr (· = g) w1 w2 := by
      rw [← hW2]
      exact (Fr.set2 _ _ _ _ _ _).to_drew
    have hs2 : w2.heap[b]? = some (.cells #[.slice (some ⟨g, 0, none⟩) ys.length cap] 62 (0, 0)) := by rw [hF2.block b (lt_of hs1) h3, hs1]
    have ha3 : Arr w2 g cap (popped ys) := by
      have h := ha2.shrink o (by simp; omega)
      rw [HO.out] at h
      exact h
    have hple : (popped ys).length = o := by rw [popped_length, HO.out]
    have hcapo : o ≤ cap := by have := ha1.le; omega
    clear hW2 k0 i0 k1 i1 hfr hc hf0
    have hc : w2.cell? ⟨b, 0, none⟩ = some (.slice (some ⟨g, 0, none⟩) ys.length cap) := cell_of hs2 0
    have hf0 := frozen_of hs2 0
    have HPL := Lib.hid hple
    clear hple
    go_wp2_with fail
    generalize hW3 : World.setCell _ _ _ = w3
    have hF3 : Fr (· = b) w2 w3 := by rw [← hW3]; exact Fr.set1 _ _ _ _
    have hs3 : w3.heap[b]? = some (.cells #[.slice (some ⟨g, 0, none⟩) (popped ys).length cap] 62 (0, 0)) := by
      rw [← hW3, heap_setCell_same _ _ _ _ _ _ hs2, HPL.out]; rfl
    have ha4 : Arr w3 g cap (popped ys) := ha3.frame hF3 (fun e => h3 e.symm)
    refine (down_any b g cap 0 (popped ys) _ ?_ ?_ hs3 h3 ha4 (down_start hH) (Nat.zero_le _)).mono ?_
    · have := HPL.out; omega
    · have := HPL.out; omega
    rintro e w4 ⟨rfl, hF4, zs, ha5, hh5, hp5⟩
    go_wp2_with fail
    go_ret3
    have hF : Fr S w w4 := ((hF0.trans hF2 (fun i _ e => by rw [e]; exact h4)).trans hF3 (fun i _ e => by rw [e]; exact hin)).trans hF4 (fun i _ e => by rw [e]; exact h4)
    have hs5 : w4.heap[b]? = some (.cells #[.slice (some ⟨g, 0, none⟩) zs.length cap] 62 (0, 0)) := by
      rw [hF4.block b (lt_of hs3) h3, hs3, hp5.length_eq]
    exact ⟨rfl, zs, ⟨hh5, hin, fun j hj => Nat.lt_of_lt_of_le (hlow j hj) hF.size, .inr ⟨g, cap, hs5, ha5, h3, h4⟩⟩, hp5.trans hpp, hF⟩
end Go.Proofs.Ytfafecgnjjkagaa
