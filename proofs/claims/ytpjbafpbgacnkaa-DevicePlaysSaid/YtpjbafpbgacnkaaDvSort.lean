/-
  slices.Sorted(maps.Keys(m)) at the device's map: off the shelf.
-/
import Derived.Test.YtpjbafpbgacnkaaDvT
import Derived.Test.YtpjbafpbgacnkaaRows
import Derived.Shelf.SlIterI.Nil
import Derived.Shelf.SlIterI.Sorted
import Derived.Shelf.SortM.Plain
import Derived.Shelf.SortM.SortNone
import Derived.Ground.GgzProg
import Derived.Ground.SlgmProg
set_option linter.unusedVariables false
set_option linter.unusedSimpArgs false
namespace Go.Proofs
open Go.RowKit Go.Maps Go.Sort Go.Shelf
shelf_lay_g SlLaysZI.n7 Ggz 7 at Try 39 as Try.keysA
shelf_lay_g SlLaysZI.n6 Ggz 6 at Try 38 as Try.sortedA
shelf_lay_g SlLaysM.n5 Slgm 5 at Try 41 as Try.sortA
theorem Try.sortsA (m : Nat) : AnyZI.SortsIn Try.prog Try.sortedA_ren Fence.wide m :=
  ⟨fun blk off cap ss W hH hblk hsz => callsIn_wide.2 (AnyM.slices_Sort_int Try.sortA blk off cap ss W hH hblk hsz),
   fun p cap W => callsIn_wide.2 (AnyM.slices_Sort_int_none Try.sortA p cap W)⟩
end Go.Proofs
namespace Go.Mem
open Go Go.RowKit Go.Maps Go.MapKept Go.ChangeMaps Go.WideElems
theorem ins1_perm {H : Type} (x : Lit × DataW H) : ∀ l : List (Lit × DataW H), (DataW.insert x l).Perm (x :: l)
  | [] => List.Perm.refl _
  | y :: r => by
    unfold DataW.insert
    split
    · exact List.Perm.refl _
    · exact ((ins1_perm x r).cons y).trans (List.Perm.swap x y r)
theorem ins_perm {H : Type} : ∀ l : List (Lit × DataW H), (l.foldr DataW.insert []).Perm l
  | [] => List.Perm.refl _
  | x :: l => (ins1_perm x _).trans ((ins_perm l).cons x)
/-- Whatever lies in a map: a value is there. -/
def anyR : Value → Option (DataW Unit × List MemPlace) := fun _ => some (.lit (.bool true), [])
theorem keys_own {α : Type} {kf : α → Int} {vf : α → Value} {P : Program} {w0 w : World} {L : List Thing} {xs : List α} {b : Nat} {k : TypeId} (h : Sep w0 w L) (i : Nat) (hi : L[i]? = some (dmapT .i64 kf vf b xs)) (hk : P.underlying k = some (.int .i64)) (hl : xs.length ≤ maxLen) :
    ∃ D : DataW Unit, w.ownsMap P k anyR b xs.length D ∧ (intKeys D).Perm (xs.map kf) ∧ Maps.size D = xs.length := by
  obtain ⟨S, _, es, clock, hb, hst, he, hwf⟩ := h.at i hi
  have hlen := ents_len he
  have hrd : ∀ x ∈ es.toList, rd P k anyR x = some (rg P k anyR x) := fun x hx => by
    obtain ⟨d, hd, e1, _⟩ := ents_key he x hx
    have := rd_mk (P := P) (k := k) (R := anyR) (born := x.born) (keyOf_int_mk (P := P) hk (hwf d hd)) (val := x.val) (yv := (.lit (.bool true), [])) rfl
    rw [← e1] at this
    exact this.trans (by rw [rg_of this])
  have hmap : (es.toList.map (rg P k anyR)).map (fun p => intOf p.1) = xs.map kf := by
    rw [List.map_map]
    have h2 : xs.map kf = (entsOf es).map fun q => (match q.1 with | .int _ a => a | _ => 0) := by
      rw [he]
      unfold pairsOf
      rw [List.map_map]
      rfl
    rw [h2]
    unfold entsOf
    rw [List.map_map]
    refine List.map_congr_left fun x hx => ?_
    obtain ⟨d, hd, e1, _⟩ := ents_key he x hx
    have h3 := rd_key (hrd x hx)
    rw [e1, keyOf_int_mk (P := P) hk (hwf d hd)] at h3
    show intOf (rg P k anyR x).1 = (match x.key with | .int _ a => a | _ => 0)
    rw [← Option.some.inj h3, e1]
    rfl
  refine ⟨_, ⟨es, clock, hb, ⟨by omega, hst, fun x hx => ⟨_, hrd x hx⟩⟩, by omega, rfl⟩, ?_, ?_⟩
  · show List.Perm (List.map (fun p : Lit × DataW Unit => intOf p.1) _) _
    rw [← hmap]
    exact (ins_perm _).map _
  · show List.length _ = _
    rw [(ins_perm _).length_eq, List.length_map, Array.length_toList]
    exact hlen
end Go.Mem
namespace Go.Proofs.Ytpjbafpbgacnkaa
open Go Go.RowKit Go.Mem Go.DevP Go.Maps Go.Sort Go.Shelf
theorem keys_dev (mb : Option Nat) (W : World) : Calls Try.prog 39 #[.map mb] W fun e w' => e = .returned (.func (.func 42) #[] #[.pointer (some ⟨W.heap.size, 0, none⟩)]) ∧ w' = W.alloc (.cells #[.map mb] 56) :=
  (callsIn_wide (n := 5)).1 (AnyZI.keys_in Try.keysA Fence.wide 5 trivial rfl mb W)
set_option maxHeartbeats 1000000 in
theorem sorted_dev {α : Type} {kf : α → Int} {vf : α → Value} {w0 w : World} {L : List Thing} {xs : List α} {b : Nat} (hs : Sep w0 w L) (i : Nat) (hi : L[i]? = some (dmapT .i64 kf vf b xs)) (hl : xs.length ≤ 1000000) :
    Calls Try.prog 38 #[.func (.func 42) #[] #[.pointer (some ⟨w.heap.size, 0, none⟩)]] (w.alloc (.cells #[.map (some b)] 56)) fun e w' => ∃ v, e = .returned v ∧ ∀ w0 L, Sep w0 w L → Sep w0 w' (L ++ [intsT .i64 3 v ((xs.map kf).mergeSort (fun x y => decide (x ≤ y)))]) := by
  obtain ⟨D0, hown, hp, hsz⟩ := keys_own hs i hi Try.underlying3 (by unfold maxLen; omega)
  have hbl := hown.lt
  have hseq : SeqGives Fence.wide 2 Try.prog 42 #[.pointer (some ⟨w.heap.size, 0, none⟩)] encZ (fun ss => ss.Perm (intKeys D0)) (Maps.size D0) (w.alloc (.cells #[.map (some b)] 56)) :=
    AnyZI.keys_gives (ρ := Try.keysA_ren) { Try.keysA with } Fence.wide _ trivial rfl (by omega) w.heap.size b xs.length D0 _ (by simp) (by simp) (by
      obtain ⟨es, clock, hb, Ft, hs, hD⟩ := hown
      exact ⟨es, clock, (Below.heap_alloc _ _ b hbl).trans hb, Ft, hs, hD⟩)
  have cS := AnyZI.sorted_in Try.sortedA Fence.wide 5 trivial trivial trivial trivial rfl (by omega) (Try.sortsA _) (enters_of Try.func41 (by kernel_rfl) rfl) 42 #[.pointer (some ⟨w.heap.size, 0, none⟩)] trivial (enters_of Try.func42 (by kernel_rfl) rfl) _ _ (by rw [hsz]; unfold maxLen; omega) (by rw [hsz]; omega) _ hseq
  change CallsIn _ _ Try.prog 38 _ _ _ at cS
  refine ((callsIn_wide (n := 5)).1 cS).mono ?_
  rintro e w' ⟨v, ss, rfl, hS, hrow, hnil, hb⟩
  refine ⟨v, rfl, fun w0 L hs => ?_⟩
  have hss : ss.mergeSort (fun x y => decide (x ≤ y)) = (xs.map kf).mergeSort (fun x y => decide (x ≤ y)) := mergeSort_of_perm_i (hS.trans hp)
  have hlen : ss.length = (ss.mergeSort (fun x y => decide (x ≤ y))).length := (List.length_mergeSort ss).symm
  have hrow2 := ownsRow_base_a hrow (Nat.zero_le _)
  rw [hlen, hss] at hrow2
  refine Sep.perm ?_ (List.perm_append_singleton _ L).symm
  refine (hs.alloc (.cells #[.map (some b)] 56)).new hb (B := intsT .i64 3 v ((xs.map kf).mergeSort (fun x y => decide (x ≤ y)))) (S := Blk v) ⟨rfl, hrow2⟩ ?_
  intro k hk
  exact (World.ownsRow.lt hrow k hk).1
end Go.Proofs.Ytpjbafpbgacnkaa
