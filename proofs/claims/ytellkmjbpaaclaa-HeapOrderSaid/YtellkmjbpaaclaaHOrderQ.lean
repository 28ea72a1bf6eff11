/-
  What the law HeapOrder needs: two heaps and two rows of numbers, apart; the second order of things.
-/
import Derived.Test.YtellkmjbpaaclaaHSep
import Derived.Test.YtellkmjbpaaclaaRd
namespace Go.Proofs.Ytellkmjbpaaclaa
open Go Go.RowKit Go.Mem Go.HeapP

theorem Try.infoI64 : (Try.prog.info? 2).map (fun i => (i.zero, i.size, i.bytes)) = some (some (.int .i64 0), 1, 8) := by kernel_rfl
theorem Try.infoInt : (Try.prog.info? 3).map (fun i => (i.zero, i.size, i.bytes)) = some (some (.int .i64 0), 1, 8) := by kernel_rfl

theorem perm_nodup {α : Type} [DecidableEq α] : ∀ (l m : List α), l.Nodup → (∀ x ∈ l, x ∈ m) → m.length ≤ l.length → l.Perm m
  | [], m, _, _, h => by simp at h; subst h; exact List.Perm.refl _
  | a :: t, m, hn, hs, hl => by
    have ha := hs a List.mem_cons_self
    refine List.Perm.trans ?_ (List.perm_cons_erase ha).symm
    refine List.Perm.cons a (perm_nodup t (m.erase a) (List.nodup_cons.1 hn).2 (fun x hx => ?_) ?_)
    · have hne : x ≠ a := fun e => (List.nodup_cons.1 hn).1 (e ▸ hx)
      exact (List.mem_erase_of_ne hne).2 (hs x (List.mem_cons_of_mem _ hx))
    · rw [List.length_erase_of_mem ha]; simp at hl; omega

theorem nodup_map {α β : Type} (f : α → β) : ∀ (l : List α), l.Nodup → (∀ x ∈ l, ∀ y ∈ l, f x = f y → x = y) → (l.map f).Nodup
  | [], _, _ => List.nodup_nil
  | a :: t, hn, hi => by
    rw [List.map_cons, List.nodup_cons]
    refine ⟨fun hm => ?_, nodup_map f t (List.nodup_cons.1 hn).2 (fun x hx y hy => hi x (List.mem_cons_of_mem _ hx) y (List.mem_cons_of_mem _ hy))⟩
    obtain ⟨y, hy, he⟩ := List.mem_map.1 hm
    have := hi y (List.mem_cons_of_mem _ hy) a List.mem_cons_self he
    exact (List.nodup_cons.1 hn).1 (this ▸ hy)

/-- What is pushed at i. -/
def thing (z0 z1 : List Int) (len1 i : Nat) : T := (z0.getD i 0, z1.getD (i % len1) 0)
def things (z0 z1 : List Int) (len1 i : Nat) : List T := (List.range i).map (thing z0 z1 len1)
theorem things_succ (z0 z1 : List Int) (len1 i : Nat) : things z0 z1 len1 (i + 1) = things z0 z1 len1 i ++ [thing z0 z1 len1 i] := by simp [things, List.range_succ]
theorem things_length (z0 z1 : List Int) (len1 i : Nat) : (things z0 z1 len1 i).length = i := by simp [things]

/-- The place that is pushed second at i. -/
def rot (n d i : Nat) : Nat := n - 1 - (i + d) % n
theorem rot_lt (n d i : Nat) (h : 0 < n) : rot n d i < n := by unfold rot; omega
theorem rot_perm (n d : Nat) : ((List.range n).map (rot n d)).Perm (List.range n) := by
  refine perm_nodup _ _ (nodup_map _ _ List.nodup_range fun x hx y hy he => ?_) (fun x hx => ?_) (by simp)
  · rw [List.mem_range] at hx hy
    have h0 : 0 < n := by omega
    have h1 := Nat.mod_lt (x + d) h0
    have h2 := Nat.mod_lt (y + d) h0
    unfold rot at he
    have h3 : (x + d) % n = (y + d) % n := by omega
    have e1 := Nat.div_add_mod (x + d) n
    have e2 := Nat.div_add_mod (y + d) n
    rw [h3] at e1
    rcases Nat.lt_trichotomy ((x + d) / n) ((y + d) / n) with h | h | h
    · have := Nat.mul_le_mul_left n (show (x + d) / n + 1 ≤ (y + d) / n from h)
      rw [Nat.mul_add] at this; omega
    · rw [h] at e1; omega
    · have := Nat.mul_le_mul_left n (show (y + d) / n + 1 ≤ (x + d) / n from h)
      rw [Nat.mul_add] at this; omega
  · obtain ⟨y, hy, rfl⟩ := List.mem_map.1 hx
    rw [List.mem_range] at hy ⊢
    exact rot_lt _ _ _ (by omega)

def thingsR (z0 z1 : List Int) (len1 n d i : Nat) : List T := (List.range i).map (fun t => thing z0 z1 len1 (rot n d t))
theorem thingsR_succ (z0 z1 : List Int) (len1 n d i : Nat) : thingsR z0 z1 len1 n d (i + 1) = thingsR z0 z1 len1 n d i ++ [thing z0 z1 len1 (rot n d i)] := by simp [thingsR, List.range_succ]
theorem thingsR_perm (z0 z1 : List Int) (len1 n d : Nat) : (thingsR z0 z1 len1 n d n).Perm (things z0 z1 len1 n) := by
  have := (rot_perm n d).map (thing z0 z1 len1)
  rw [List.map_map] at this
  exact this
theorem thingsR_length (z0 z1 : List Int) (len1 n d i : Nat) : (thingsR z0 z1 len1 n d i).length = i := by simp [thingsR]

/-- Two heaps of the same things have the same first thing, and the same ones left. -/
theorem same_head {xs ys : List T} (hx : IsH xs) (hy : IsH ys) (hp : xs.Perm ys) : (xs = [] ∧ ys = []) ∨ ∃ m r q, xs = m :: r ∧ ys = m :: q ∧ r.Perm q := by
  match xs, hx, hp with
  | [], _, hp => exact .inl ⟨rfl, hp.symm.eq_nil⟩
  | m :: r, hx, hp =>
    obtain ⟨q, rfl, hq⟩ := head_of hy hp.symm (fun z hz => by have := least_mem hx z (List.mem_cons_of_mem _ hz); simpa [nth] using this)
    exact .inr ⟨m, r, q, rfl, rfl, hq.symm⟩
end Go.Proofs.Ytellkmjbpaaclaa
