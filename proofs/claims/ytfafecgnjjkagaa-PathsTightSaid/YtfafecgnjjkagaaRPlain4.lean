/-
  The two arcs of an edge: plain lemmas.
-/
import Derived.Test.YtfafecgnjjkagaaRPlain3
namespace Go.RestP
open Go Go.Mem Go.NetP

theorem flip_half (a : Nat) : Mem.flip a / 2 = a / 2 := by unfold Mem.flip; split <;> omega
theorem flip_odd (a : Nat) : oddB (Mem.flip a) = !oddB a := by
  unfold oddB Mem.flip
  rcases Nat.mod_two_eq_zero_or_one a with h | h
  · rw [if_pos h, h, show (a + 1) % 2 = 1 by omega]; rfl
  · rw [if_neg (by omega), h, show (a - 1) % 2 = 0 by omega]; rfl
theorem flip_has {l a : Nat} (h : hasB l a = true) : hasB l (Mem.flip a : Nat) = true := by
  rw [hasB_iff] at h ⊢
  unfold Mem.flip
  split <;> omega
theorem flip_flip (a : Nat) : Mem.flip (Mem.flip a) = a := by unfold Mem.flip; split <;> split <;> omega
theorem ends_flip (es : List Ed) (a : Nat) : endsE es (Mem.flip a) = ((endsE es a).2.1, (endsE es a).1, -(endsE es a).2.2) := by
  unfold endsE
  rw [flip_half, flip_odd]
  cases oddB a <;> simp
theorem room_both (es : List Ed) (fl : List Int) (a : Nat) : roomE es fl a + roomE es fl (Mem.flip a) = (edAt es (a / 2)).c := by
  unfold roomE
  rw [flip_half, flip_odd]
  cases oddB a <;> simp <;> omega
theorem push_back {fl : List Int} {a : Nat} (h : a / 2 < fl.length) (b : Int) : pushL (pushL fl a b) (Mem.flip a) b = fl := by
  have hg := push_get (fl := fl) (a := a) (b := b) h
  rw [if_pos rfl] at hg
  rw [pushL, flip_half, hg]
  unfold pushL
  rw [List.set_set, show fl.getD (a / 2) 0 + sgn a b + sgn (Mem.flip a) b = fl.getD (a / 2) 0 by unfold sgn; rw [flip_odd]; cases oddB a <;> simp <;> omega]
  rw [List.getD_eq_getElem?_getD, List.getElem?_eq_getElem h, Option.getD_some, List.set_getElem_self]
theorem room_push {es : List Ed} {fl : List Int} {a : Nat} (h : a / 2 < fl.length) (b : Int) : roomE es (pushL fl a b) a = roomE es fl a - b := by
  have hg := push_get (fl := fl) (a := a) (b := b) h
  rw [if_pos rfl] at hg
  unfold roomE
  rw [hg]
  unfold sgn
  cases oddB a <;> simp <;> omega
theorem room_flip {es : List Ed} {fl : List Int} {a : Nat} (h : a / 2 < fl.length) (b : Int) : roomE es (pushL fl a b) (Mem.flip a) = roomE es fl (Mem.flip a) + b := by
  have h1 := room_both es (pushL fl a b) a
  have h2 := room_both es fl a
  have h3 := room_push (es := es) h b
  omega
/-- What holds of an arc where the flow is within. -/
theorem ends_in {n : Int} {es : List Ed} {fl : List Int} {a : Nat} (hw : withinB n es fl = true) (ha : hasB es.length a = true) : endsV n es a = endsE es a := by
  rw [endsV, if_pos (by rw [ha, (within_cap hw).2.1]; rfl), Int.toNat_natCast]
theorem room_in {n : Int} {es : List Ed} {fl : List Int} {a : Nat} (hw : withinB n es fl = true) (ha : hasB es.length a = true) : roomV n es fl a = roomE es fl a := by
  rw [roomV, if_pos (by rw [ha, hw]; rfl), Int.toNat_natCast]
theorem cost_bound {n : Int} {es : List Ed} {fl : List Int} {a : Nat} (hw : withinB n es fl = true) (ha : hasB es.length a = true) : -1000 ≤ (endsE es a).2.2 ∧ (endsE es a).2.2 ≤ 1000 := by
  have hh := has_half ha
  have he := (edgeB_iff _ _).1 ((right_cap (within_cap hw).2.1).2.2.2.2 _ (List.getElem_mem hh))
  unfold endsE
  rw [edAt_of hh]
  split <;> simp only [] <;> omega
/-- A push back. -/
theorem back_ok {n : Int} {es : List Ed} {fl : List Int} {a : Nat} {b : Int} (hw : withinB n es fl = true) (ha : hasB es.length a = true) (h0 : 0 ≤ b) (h1 : b ≤ roomE es fl a) :
    pushE n es (pushL fl a b) (Mem.flip a : Nat) b = 0 ∧ pushV n es (pushL fl a b) (Mem.flip a : Nat) b = fl := by
  have hh : a / 2 < fl.length := by have := has_half ha; have := (within_cap hw).1; omega
  have hf := room_flip (es := es) hh b
  have hb := (room_bound hw (flip_has ha)).1
  have := pushE_ok (n := n) (es := es) (fl := pushL fl a b) (a := (Mem.flip a : Nat)) h0 (flip_has ha) (push_within hw ha h0 h1) (by rw [Int.toNat_natCast, hf]; omega)
  rw [Int.toNat_natCast, push_back hh] at this
  exact this
/-- A way of one arc. -/
theorem bottle_one {n : Int} {es : List Ed} {fl : List Int} {a : Nat} (hw : withinB n es fl = true) (ha : hasB es.length a = true) : bottleV n es fl [(a : Int)] = roomE es fl a := by
  have hr := (within_cap hw).2.1
  have hway : wayB n es [(a : Int)] = true := by simp [wayB, okW, stepB, hr, ha]
  rw [bottleV, if_pos (by rw [hway, hw]; rfl)]
  show leastS es fl [(a : Int)] 1 = _
  have h0 : arcAt [(a : Int)] 0 = a := by simp [arcAt]
  rw [leastS, need_zero, if_pos (by decide), leastS, h0, Int.ediv_one, Int.min_self]
theorem even_odd (i k A J : Nat) (hk : k < 2) (hA : A = 2 * i + k) (hJ : J = 2 * i + 1 - k) : A / 2 = i ∧ J = Mem.flip A := by
  unfold Mem.flip
  split <;> omega
theorem ends_even {n : Int} {es : List Ed} {fl : List Int} {i : Nat} (hw : withinB n es fl = true) (hi : i < es.length) : endsV n es (2 * (i : Int)) = (es[i].f, es[i].t, es[i].k) ∧ endsV n es (2 * (i : Int) + 1) = (es[i].t, es[i].f, -es[i].k) := by
  have h0 : hasB es.length ((2 * i : Nat) : Int) = true := by rw [hasB_iff]; omega
  have h1 := ends_in hw h0
  have h2 := ends_in hw (flip_has h0)
  have hf : Mem.flip (2 * i) = 2 * i + 1 := by unfold Mem.flip; split <;> omega
  have hE : endsE es (2 * i) = (es[i].f, es[i].t, es[i].k) := by
    unfold endsE
    rw [if_neg (by unfold oddB; simp), show 2 * i / 2 = i by omega, edAt_of hi]
  rw [ends_flip, hE, hf] at h2
  rw [hE] at h1
  exact ⟨by rw [← h1]; congr 1, by rw [show (2 * (i : Int) + 1) = ((2 * i + 1 : Nat) : Int) by omega, h2]⟩
end Go.RestP
