/-
  The heap as a thing in memory: what each call does to it, and that it leaves all other things as they were.
-/
import Derived.Test.YtfafecgnjjkagaaHW3
import Derived.Test.YtfafecgnjjkagaaSep
namespace Go.Proofs.Ytfafecgnjjkagaa
open Go Go.RowKit Go.Mem Go.HeapP

def heapT (b : Nat) (xs : List T) : Thing where
  is w S := HRep w b S xs
  low h k hk := h.low k hk
  stay h hf hd := h.frame hf hd

section
variable {w0 w : World} {L : List Thing} {b : Nat} {xs : List T}
theorem sep_isH (h : Sep w0 w L) (i : Nat) (hi : L[i]? = some (heapT b xs)) : IsH xs := let ⟨_, h⟩ := h.at i hi; HRep.isH h
theorem new_sep (h : Sep w0 w L) :
    Calls Try.prog 21 #[] w fun e w' => e = .returned (.pointer (some ⟨w.heap.size, 0, none⟩)) ∧ Sep w0 w' (heapT w.heap.size [] :: L) :=
  (new_any w).mono fun e w' ⟨he, hr, hb⟩ => ⟨he, h.new (B := heapT w.heap.size []) (S := (· = w.heap.size)) hb hr (fun _ hk => Nat.le_of_eq (Eq.symm hk))⟩
theorem push_sep (h : Sep w0 w L) (n : Nat) (hi : L[n]? = some (heapT b xs)) (k i : Int) (hn : xs.length ≤ 99999) :
    Calls Try.prog 35 #[.pointer (some ⟨b, 0, none⟩), .int .i64 k, .int .i64 i] w fun e w' => e = .returned (.int .i64 0) ∧ ∃ xs', xs'.Perm ((k, i) :: xs) ∧ Sep w0 w' (L.set n (heapT b xs')) := by
  obtain ⟨S, hS, hu⟩ := h.use n hi
  refine (push_any b S xs k i w hS hn).mono ?_
  rintro e w' ⟨he, S', xs', hr, hp, ht⟩
  exact ⟨he, xs', hp, hu w' (heapT b xs') S' hr ⟨ht.fr, ht.new⟩⟩
theorem pop_sep (h : Sep w0 w L) (n : Nat) (hi : L[n]? = some (heapT b xs)) (hn : xs.length ≤ 100000) :
    Calls Try.prog 24 #[.pointer (some ⟨b, 0, none⟩)] w fun e w' => e = .returned (peekV xs) ∧ ∃ xs', xs'.Perm xs.tail ∧ Sep w0 w' (L.set n (heapT b xs')) := by
  obtain ⟨S, hS, hu⟩ := h.use n hi
  refine (pop_any b S xs w hS hn).mono ?_
  rintro e w' ⟨he, xs', hr, hp, hf⟩
  exact ⟨he, xs', hp, hu w' (heapT b xs') S hr (Turn.of hf)⟩
theorem peek_sep (h : Sep w0 w L) (n : Nat) (hi : L[n]? = some (heapT b xs)) (hn : xs.length ≤ 100000) :
    Calls Try.prog 36 #[.pointer (some ⟨b, 0, none⟩)] w fun e w' => e = .returned (peekV xs) ∧ Sep w0 w' L := by
  obtain ⟨S, hS⟩ := h.at n hi
  refine (peek_any b S xs w hS hn).mono ?_
  rintro e w' ⟨he, m, rfl⟩
  exact ⟨he, h.drewN m⟩
theorem len_sep (h : Sep w0 w L) (n : Nat) (hi : L[n]? = some (heapT b xs)) :
    Calls Try.prog 23 #[.pointer (some ⟨b, 0, none⟩)] w fun e w' => e = .returned (.int .i64 xs.length) ∧ w = w' :=
  let ⟨S, hS⟩ := h.at n hi
  len_any b S xs w hS
end
end Go.Proofs.Ytfafecgnjjkagaa
