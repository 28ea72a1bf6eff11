/-
  Package archive, walked: slices.Clone, own.
-/
import Derived.Test.YtfnkmkfkomhhnaaVPlain
import Derived.Test.YtfnkmkfkomhhnaaCW5
import Derived.Test.YtfnkmkfkomhhnaaMix2
namespace Go.Proofs.Ytfnkmkfkomhhnaa
open Go Go.RowKit Go.Mem Go.NetP Go.CertP Go.ArchP

theorem Try.infoU64v : (Try.prog.info? 27).map (fun i => (i.zero, i.size, i.bytes)) = some (some (.int .u64 0), 1, 8) := by kernel_rfl
theorem Try.infoEdv : (Try.prog.info? 70).map (fun i => (i.zero, i.size, i.bytes)) = some (some (.agg #[.int .i64 0, .int .i64 0, .int .i64 0, .int .i64 0]), 4, 32) := by kernel_rfl

set_option maxHeartbeats 1000000 in
theorem cloneU_any (v : Value) (fl : List Int) (w : World) (h : Rd .u64 w v fl) (hsm : fl.length ≤ 1000000) :
    Calls Try.prog 31 #[v] w fun en w' => ∃ u, en = .returned u ∧ Sep w w' [intsT .u64 27 u fl] := by
  obtain ⟨i0, hi0, hz0, hz1, hz2⟩ := info_parts Try.infoU64v
  obtain ⟨a, c, rfl⟩ := h.shape
  match a with
  | none =>
    have hf : fl = [] := by
      rcases Nat.eq_zero_or_pos fl.length with h0 | h0
      · exact List.eq_nil_of_length_eq_zero h0
      · obtain ⟨b, o, e, _⟩ := h.at 0 h0; cases e
    subst hf
    have hc : c = 0 := by
      obtain ⟨a', c', e, _, hn, _⟩ := h
      injection e with e1 e2 e3
      rw [e3]; exact hn e1.symm
    subst hc
    have hs := (Sep.start w).nilInts .u64 27
    have hnil := fun (W : World) => Lib.run_eql_slice_nil (P := Try.prog) W 31 27 none 0 0 0 0 Try.underlying31
    go_enter Try.func31, Try.ntmps31
    go_wp2_with fail
    go_ret
    exact ⟨_, rfl, hs⟩
  | some a =>
    have hs2 := (Sep.start w).litInts .u64 27 [] (by simp [maxLen])
    simp only [List.map_cons, List.map_nil, List.length_cons, List.length_nil, Nat.reduceAdd, World.size_alloc] at hs2
    have hnil := fun (W : World) => Lib.run_eql_slice_nil (P := Try.prog) W 31 27 (some a) fl.length c 0 0 Try.underlying31
    go_enter Try.func31, Try.ntmps31
    go_wp2_with (at_builtin; refine wpList_appRd rfl (.tmp 5) (.tmp 6) 31 rfl 27 i0 _ 8 Try.underlying31 hi0 hz0 hz1 hz2 rfl _ [] .u64 _ fl hs2 0 rfl (hs2.rd h) rfl rfl ?c3 ?c4 ?grow)
    case c3 => (try simp); (try simp only [maxLen]); (try omega)
    case c4 => (try simp); (try simp only [maxLen]); (try omega)
    case grow =>
      intro vo w4 hs3
      go_wp2_with fail
      go_ret
      exact ⟨_, rfl, by simpa using hs3⟩
set_option maxHeartbeats 1000000 in
theorem cloneE_any (v : Value) (xs : List Ed) (w : World) (h : RdG edR w v xs) (hsm : xs.length ≤ 1000000) :
    Calls Try.prog 32 #[v] w fun en w' => ∃ u, en = .returned u ∧ Sep w w' [recT edR 70 u xs] := by
  obtain ⟨i0, hi0, hz0, hz1, hz2⟩ := info_parts Try.infoEdv
  obtain ⟨a, c, rfl⟩ := h.shape
  rcases a with _ | a
  · have hx : xs = [] := by
      rcases Nat.eq_zero_or_pos xs.length with q | q
      · exact List.eq_nil_of_length_eq_zero q
      · obtain ⟨b, o, e, _⟩ := h.at 0 q; cases e
    have hc : c = 0 := by obtain ⟨_, _, e, _, hn, _⟩ := h; injection e with e1 e2 e3; subst e1; subst e3; exact hn rfl
    subst hx; subst hc
    have he := fun w : World => Lib.run_eql_slice_nil (P := Try.prog) w 32 70 none 0 0 0 0 Try.underlying32
    simp at he
    go_enter Try.func32, Try.ntmps32
    go_wp2_with fail
    go_ret
    exact ⟨_, rfl, (Sep.start w).nilRecs edR _⟩
  · have he := fun w : World => Lib.run_eql_slice_nil (P := Try.prog) w 32 70 (some a) xs.length c 0 0 Try.underlying32
    simp at he
    have hs2 := (Sep.start w).litRecs edR 70 [] (by simp [maxLen])
    simp only [List.length_nil, Rec.flat, List.flatMap_nil] at hs2
    go_enter Try.func32, Try.ntmps32
    go_wp2_with (at_builtin; refine wpList_appRdG edR rfl (.tmp 5) (.tmp 6) 32 rfl 70 i0 _ 32 Try.underlying32 hi0 hz0 hz1 hz2 rfl _ [] _ xs hs2 0 rfl (hs2.rdG h) rfl rfl ?c3 ?c4 ?grow)
    case c3 => (try simp); (try simp only [maxLen]); (try omega)
    case c4 => (try simp); (try simp only [maxLen]); (try omega)
    case grow =>
      intro v' w2 hs3
      (try simp only [List.set_cons_zero, List.nil_append] at hs3)
      clear he
      go_wp2_with fail
      go_ret
      exact ⟨_, rfl, hs3⟩
/-- A round with lists of its own. -/
abbrev ownT (r : Ro) : Thing := roT 27 70 2 r
set_option maxHeartbeats 4000000 in
theorem own_any (r : Ro) (w : World) (h : r.Ok w) (hsm : r.small) :
    Calls Try.prog 24 #[r.val] w fun en w' => ∃ r', r'.co = r.co ∧ en = .returned r'.val ∧ Sep w w' [ownT r'] := by
  obtain ⟨no, day, comp, ai, ci, ids, n, ae, ce, es, af, cf, fl, ap, cp, pot⟩ := r
  obtain ⟨h1, h2, h3, h4⟩ := h
  obtain ⟨m1, m2, m3, m4⟩ := hsm
  dsimp only [Ro.val] at *
  have hs := ((Sep.start w).newCells #[.int .u64 no, .int .i64 day, .bool comp, .slice ai ids.length ci, .int .i64 n, .slice ae es.length ce, .slice af fl.length cf, .slice ap pot.length cp] 39).newCells #[.int .u64 0, .int .i64 0, .bool false, .slice none 0 0, .int .i64 0, .slice none 0 0, .slice none 0 0, .slice none 0 0] 39
  simp only [World.size_alloc] at hs
  have n3 := cell_of (hs.cells 1 rfl) 3
  simp only [List.getElem?_toArray, List.getElem?_cons_zero, List.getElem?_cons_succ] at n3
  have n5 := cell_of (hs.cells 1 rfl) 5
  simp only [List.getElem?_toArray, List.getElem?_cons_zero, List.getElem?_cons_succ] at n5
  go_enter Try.func24, Try.ntmps24
  go_wp2_with fail
  replace hs := hs.drew
  have hCW := cell_of (hs.cells 1 rfl) 5
  simp only [List.getElem?_toArray, List.getElem?_cons_zero, List.getElem?_cons_succ] at hCW
  refine Mix.region2 11 [0, 0, 2, 1, 1, 1, 2, 1, 2, 0, 0, 2] (fun W : World => W.cell? ⟨w.heap.size, 5, none⟩ = some (.slice ae es.length ce)) (by kernel_rfl) (by kernel_rfl) hCW ?_
  simp only [List.zip_cons_cons, List.zip_nil_right, List.take_succ_cons, List.take_zero, List.drop_succ_cons, List.drop_zero]
  iterate 2 (refine Mix.step0 fun K hK => ?_; go_simp; (try (go_bits; try go_simp)); first | ((with_reducible refine hK _ _ ?_); clear hK K) | ((try (simp only [IntWalk.iteOmega]; try go_simp)); (try go_bits); (with_reducible refine hK _ _ ?_); clear hK K))
  refine Mix.step2n (by first | rfl | simp [Region.wanted, yielded]) fun K hK => ?_
  go_wp2_with fail
  refine (cloneU_any _ ids _ (hs.rd h1) m1).mono ?_
  rintro en w1 ⟨u, rfl, k1⟩
  obtain ⟨a1, c1, rfl⟩ := (k1.ints 0 rfl).shape
  replace hs := hs.join k1
  clear k1 n3 n5 hCW
  have hCW := cell_of (hs.cells 2 rfl) 5
  simp only [List.getElem?_toArray, List.getElem?_cons_zero, List.getElem?_cons_succ] at hCW
  go_wp2_with fail
  refine Mix.post_mk (C := (fun W : World => W.cell? ⟨w.heap.size, 5, none⟩ = some (.slice ae es.length ce))) (by first | exact hCW | exact HCW.out _) (hK _ _ ?_)
  clear hK K
  (refine Mix.step1 fun K hK => ?_; go_simp; (try (go_bits; try go_simp)); first | ((with_reducible refine hK _ _ ?_); clear hK K) | ((try (simp only [IntWalk.iteOmega]; try go_simp)); (try go_bits); (with_reducible refine hK _ _ ?_); clear hK K))
  (refine Mix.step1 fun K hK => ?_; go_simp; (try (go_bits; try go_simp)); first | ((with_reducible refine hK _ _ ?_); clear hK K) | ((try (simp only [IntWalk.iteOmega]; try go_simp)); (try go_bits); (with_reducible refine hK _ _ ?_); clear hK K))
  (refine Mix.step1 fun K hK => ?_; go_simp; refine ⟨fun W => ?_, hK _ _ ?_⟩; (intro hW1; (try intro hW2); (try intro hW3); (try intro hW4); (try intro hW5); (try intro hW6); (try intro hW7); (try intro hW8); go_simp); clear hK K)
  refine Mix.step2n (by first | rfl | simp [Region.wanted, yielded]) fun K hK => ?_
  go_wp2_with fail
  refine (cloneE_any _ es _ (hs.rdG h2) m2).mono ?_
  rintro en w2 ⟨u, rfl, k1⟩
  obtain ⟨a2, c2, rfl⟩ := (k1.recs 0 rfl).shape
  replace hs := hs.join k1
  clear k1 hCW
  have hCW := cell_of (hs.cells 3 rfl) 5
  simp only [List.getElem?_toArray, List.getElem?_cons_zero, List.getElem?_cons_succ] at hCW
  have n3 := cell_of (hs.cells 3 rfl) 3
  simp only [List.getElem?_toArray, List.getElem?_cons_zero, List.getElem?_cons_succ] at n3
  have qf := fun j => frozen_of (hs.cells 3 rfl) j
  go_wp2_with fail
  refine Mix.post_mk (C := (fun W : World => W.cell? ⟨w.heap.size, 5, none⟩ = some (.slice ae es.length ce))) (by first | exact hCW | exact HCW.out _) (hK _ _ ?_)
  clear hK K
  (refine Mix.step1 fun K hK => ?_; go_simp; (try (go_bits; try go_simp)); first | ((with_reducible refine hK _ _ ?_); clear hK K) | ((try (simp only [IntWalk.iteOmega]; try go_simp)); (try go_bits); (with_reducible refine hK _ _ ?_); clear hK K))
  refine Mix.step2n (by first | rfl | simp [Region.wanted, yielded]) fun K hK => ?_
  go_wp2_with fail
  replace hs := hs.setC 3 rfl 3 (.slice a1 ids.length c1) #[.int .u64 no, .int .i64 day, .bool comp, .slice a1 ids.length c1, .int .i64 n, .slice ae es.length ce, .slice af fl.length cf, .slice ap pot.length cp] rfl
  clear hCW n3 qf
  have hCW := cell_of (hs.cells 3 rfl) 5
  simp only [List.getElem?_toArray, List.getElem?_cons_zero, List.getElem?_cons_succ] at hCW
  have qf := fun j => frozen_of (hs.cells 3 rfl) j
  go_wp2_with fail
  refine Mix.post_mk (C := (fun W : World => W.cell? ⟨w.heap.size, 5, none⟩ = some (.slice ae es.length ce))) (by first | exact hCW | exact HCW.out _) (hK _ _ ?_)
  clear hK K
  iterate 2 (refine Mix.step0 fun K hK => ?_; go_simp; (try (go_bits; try go_simp)); first | ((with_reducible refine hK _ _ ?_); clear hK K) | ((try (simp only [IntWalk.iteOmega]; try go_simp)); (try go_bits); (with_reducible refine hK _ _ ?_); clear hK K))
  refine Mix.done ?_
  refine Mix.step2n (by first | rfl | simp [Region.wanted, yielded]) fun K hK => ?_
  go_wp2_with fail
  replace hs := hs.setC 3 rfl 5 (.slice a2 es.length c2) #[.int .u64 no, .int .i64 day, .bool comp, .slice a1 ids.length c1, .int .i64 n, .slice a2 es.length c2, .slice af fl.length cf, .slice ap pot.length cp] rfl
  clear hCW qf
  refine Mix.post_mk (C := (fun _ => True)) trivial (hK _ _ ?_)
  clear hK K
  refine Mix.done ?_
  have n6 := cell_of (hs.cells 3 rfl) 6
  simp only [List.getElem?_toArray, List.getElem?_cons_zero, List.getElem?_cons_succ] at n6
  have n7 := cell_of (hs.cells 3 rfl) 7
  simp only [List.getElem?_toArray, List.getElem?_cons_zero, List.getElem?_cons_succ] at n7
  go_wp2_with fail
  replace hs := hs.drew
  have hCW := cell_of (hs.cells 3 rfl) 7
  simp only [List.getElem?_toArray, List.getElem?_cons_zero, List.getElem?_cons_succ] at hCW
  refine Mix.region2 10 [0, 0, 0, 2, 1, 1, 1, 2, 0, 0, 2] (fun W : World => W.cell? ⟨w.heap.size, 7, none⟩ = some (.slice ap pot.length cp)) (by kernel_rfl) (by kernel_rfl) hCW ?_
  simp only [List.zip_cons_cons, List.zip_nil_right, List.take_succ_cons, List.take_zero, List.drop_succ_cons, List.drop_zero]
  iterate 3 (refine Mix.step0 fun K hK => ?_; go_simp; (try (go_bits; try go_simp)); first | ((with_reducible refine hK _ _ ?_); clear hK K) | ((try (simp only [IntWalk.iteOmega]; try go_simp)); (try go_bits); (with_reducible refine hK _ _ ?_); clear hK K))
  refine Mix.step2n (by first | rfl | simp [Region.wanted, yielded]) fun K hK => ?_
  go_wp2_with fail
  refine (clone_any _ fl _ (hs.rd h3) m3).mono ?_
  rintro en w3 ⟨u, rfl, k1⟩
  obtain ⟨a3, c3, rfl⟩ := (k1.ints 0 rfl).shape
  replace hs := hs.join k1
  clear k1 n6 n7 hCW
  have hCW := cell_of (hs.cells 4 rfl) 7
  simp only [List.getElem?_toArray, List.getElem?_cons_zero, List.getElem?_cons_succ] at hCW
  go_wp2_with fail
  refine Mix.post_mk (C := (fun W : World => W.cell? ⟨w.heap.size, 7, none⟩ = some (.slice ap pot.length cp))) (by first | exact hCW | exact HCW.out _) (hK _ _ ?_)
  clear hK K
  (refine Mix.step1 fun K hK => ?_; go_simp; (try (go_bits; try go_simp)); first | ((with_reducible refine hK _ _ ?_); clear hK K) | ((try (simp only [IntWalk.iteOmega]; try go_simp)); (try go_bits); (with_reducible refine hK _ _ ?_); clear hK K))
  (refine Mix.step1 fun K hK => ?_; go_simp; (try (go_bits; try go_simp)); first | ((with_reducible refine hK _ _ ?_); clear hK K) | ((try (simp only [IntWalk.iteOmega]; try go_simp)); (try go_bits); (with_reducible refine hK _ _ ?_); clear hK K))
  (refine Mix.step1 fun K hK => ?_; go_simp; refine ⟨fun W => ?_, hK _ _ ?_⟩; (intro hW1; (try intro hW2); (try intro hW3); (try intro hW4); (try intro hW5); (try intro hW6); (try intro hW7); (try intro hW8); go_simp); clear hK K)
  refine Mix.step2n (by first | rfl | simp [Region.wanted, yielded]) fun K hK => ?_
  go_wp2_with fail
  refine (clone_any _ pot _ (hs.rd h4) m4).mono ?_
  rintro en w4 ⟨u, rfl, k1⟩
  obtain ⟨a4, c4, rfl⟩ := (k1.ints 0 rfl).shape
  replace hs := hs.join k1
  clear k1 hCW
  have hCW := cell_of (hs.cells 5 rfl) 7
  simp only [List.getElem?_toArray, List.getElem?_cons_zero, List.getElem?_cons_succ] at hCW
  have n6 := cell_of (hs.cells 5 rfl) 6
  simp only [List.getElem?_toArray, List.getElem?_cons_zero, List.getElem?_cons_succ] at n6
  have qf := fun j => frozen_of (hs.cells 5 rfl) j
  go_wp2_with fail
  refine Mix.post_mk (C := (fun W : World => W.cell? ⟨w.heap.size, 7, none⟩ = some (.slice ap pot.length cp))) (by first | exact hCW | exact HCW.out _) (hK _ _ ?_)
  clear hK K
  iterate 2 (refine Mix.step0 fun K hK => ?_; go_simp; (try (go_bits; try go_simp)); first | ((with_reducible refine hK _ _ ?_); clear hK K) | ((try (simp only [IntWalk.iteOmega]; try go_simp)); (try go_bits); (with_reducible refine hK _ _ ?_); clear hK K))
  refine Mix.done ?_
  refine Mix.step2n (by first | rfl | simp [Region.wanted, yielded]) fun K hK => ?_
  go_wp2_with fail
  replace hs := (hs.setC 5 rfl 6 (.slice a3 fl.length c3) #[.int .u64 no, .int .i64 day, .bool comp, .slice a1 ids.length c1, .int .i64 n, .slice a2 es.length c2, .slice a3 fl.length c3, .slice ap pot.length cp] rfl).setC 5 rfl 7 (.slice a4 pot.length c4) #[.int .u64 no, .int .i64 day, .bool comp, .slice a1 ids.length c1, .int .i64 n, .slice a2 es.length c2, .slice a3 fl.length c3, .slice a4 pot.length c4] rfl
  clear hCW qf n6
  refine Mix.post_mk (C := (fun _ => True)) trivial (hK _ _ ?_)
  clear hK K
  refine Mix.done ?_
  have n0 := cell_of (hs.cells 5 rfl) 0
  simp only [List.getElem?_toArray, List.getElem?_cons_zero, List.getElem?_cons_succ] at n0
  have n1 := cell_of (hs.cells 5 rfl) 1
  simp only [List.getElem?_toArray, List.getElem?_cons_zero, List.getElem?_cons_succ] at n1
  have n2 := cell_of (hs.cells 5 rfl) 2
  simp only [List.getElem?_toArray, List.getElem?_cons_zero, List.getElem?_cons_succ] at n2
  have n3 := cell_of (hs.cells 5 rfl) 3
  simp only [List.getElem?_toArray, List.getElem?_cons_zero, List.getElem?_cons_succ] at n3
  have n4 := cell_of (hs.cells 5 rfl) 4
  simp only [List.getElem?_toArray, List.getElem?_cons_zero, List.getElem?_cons_succ] at n4
  have n5 := cell_of (hs.cells 5 rfl) 5
  simp only [List.getElem?_toArray, List.getElem?_cons_zero, List.getElem?_cons_succ] at n5
  have n6 := cell_of (hs.cells 5 rfl) 6
  simp only [List.getElem?_toArray, List.getElem?_cons_zero, List.getElem?_cons_succ] at n6
  have n7 := cell_of (hs.cells 5 rfl) 7
  simp only [List.getElem?_toArray, List.getElem?_cons_zero, List.getElem?_cons_succ] at n7
  have z0 := cell_of (hs.cells 4 rfl) 0
  simp only [List.getElem?_toArray, List.getElem?_cons_zero, List.getElem?_cons_succ] at z0
  have z1 := cell_of (hs.cells 4 rfl) 1
  simp only [List.getElem?_toArray, List.getElem?_cons_zero, List.getElem?_cons_succ] at z1
  have z2 := cell_of (hs.cells 4 rfl) 2
  simp only [List.getElem?_toArray, List.getElem?_cons_zero, List.getElem?_cons_succ] at z2
  have z3 := cell_of (hs.cells 4 rfl) 3
  simp only [List.getElem?_toArray, List.getElem?_cons_zero, List.getElem?_cons_succ] at z3
  have z4 := cell_of (hs.cells 4 rfl) 4
  simp only [List.getElem?_toArray, List.getElem?_cons_zero, List.getElem?_cons_succ] at z4
  have z5 := cell_of (hs.cells 4 rfl) 5
  simp only [List.getElem?_toArray, List.getElem?_cons_zero, List.getElem?_cons_succ] at z5
  have z6 := cell_of (hs.cells 4 rfl) 6
  simp only [List.getElem?_toArray, List.getElem?_cons_zero, List.getElem?_cons_succ] at z6
  have z7 := cell_of (hs.cells 4 rfl) 7
  simp only [List.getElem?_toArray, List.getElem?_cons_zero, List.getElem?_cons_succ] at z7
  have qf := fun j => frozen_of (hs.cells 4 rfl) j
  go_wp2_with fail
  replace hs := ((((((((hs.setC 4 rfl 0 (.int .u64 no) #[.int .u64 no, .int .i64 0, .bool false, .slice none 0 0, .int .i64 0, .slice none 0 0, .slice none 0 0, .slice none 0 0] rfl).setC 4 rfl 1 (.int .i64 day) #[.int .u64 no, .int .i64 day, .bool false, .slice none 0 0, .int .i64 0, .slice none 0 0, .slice none 0 0, .slice none 0 0] rfl).setC 4 rfl 2 (.bool comp) #[.int .u64 no, .int .i64 day, .bool comp, .slice none 0 0, .int .i64 0, .slice none 0 0, .slice none 0 0, .slice none 0 0] rfl).setC 4 rfl 3 (.slice a1 ids.length c1) #[.int .u64 no, .int .i64 day, .bool comp, .slice a1 ids.length c1, .int .i64 0, .slice none 0 0, .slice none 0 0, .slice none 0 0] rfl).setC 4 rfl 4 (.int .i64 n) #[.int .u64 no, .int .i64 day, .bool comp, .slice a1 ids.length c1, .int .i64 n, .slice none 0 0, .slice none 0 0, .slice none 0 0] rfl).setC 4 rfl 5 (.slice a2 es.length c2) #[.int .u64 no, .int .i64 day, .bool comp, .slice a1 ids.length c1, .int .i64 n, .slice a2 es.length c2, .slice none 0 0, .slice none 0 0] rfl).setC 4 rfl 6 (.slice a3 fl.length c3) #[.int .u64 no, .int .i64 day, .bool comp, .slice a1 ids.length c1, .int .i64 n, .slice a2 es.length c2, .slice a3 fl.length c3, .slice none 0 0] rfl).setC 4 rfl 7 (.slice a4 pot.length c4) #[.int .u64 no, .int .i64 day, .bool comp, .slice a1 ids.length c1, .int .i64 n, .slice a2 es.length c2, .slice a3 fl.length c3, .slice a4 pot.length c4] rfl)
  clear n0 n1 n2 n3 n4 n5 n6 n7 z0 z1 z2 z3 z4 z5 z6 z7 qf
  have q0 := cell_of (hs.cells 4 rfl) 0
  simp only [List.getElem?_toArray, List.getElem?_cons_zero, List.getElem?_cons_succ] at q0
  have q1 := cell_of (hs.cells 4 rfl) 1
  simp only [List.getElem?_toArray, List.getElem?_cons_zero, List.getElem?_cons_succ] at q1
  have q2 := cell_of (hs.cells 4 rfl) 2
  simp only [List.getElem?_toArray, List.getElem?_cons_zero, List.getElem?_cons_succ] at q2
  have q3 := cell_of (hs.cells 4 rfl) 3
  simp only [List.getElem?_toArray, List.getElem?_cons_zero, List.getElem?_cons_succ] at q3
  have q4 := cell_of (hs.cells 4 rfl) 4
  simp only [List.getElem?_toArray, List.getElem?_cons_zero, List.getElem?_cons_succ] at q4
  have q5 := cell_of (hs.cells 4 rfl) 5
  simp only [List.getElem?_toArray, List.getElem?_cons_zero, List.getElem?_cons_succ] at q5
  have q6 := cell_of (hs.cells 4 rfl) 6
  simp only [List.getElem?_toArray, List.getElem?_cons_zero, List.getElem?_cons_succ] at q6
  have q7 := cell_of (hs.cells 4 rfl) 7
  simp only [List.getElem?_toArray, List.getElem?_cons_zero, List.getElem?_cons_succ] at q7
  refine bodyPost_ret (v := .agg #[.int .u64 no, .int .i64 day, .bool comp, .slice a1 ids.length c1, .int .i64 n, .slice a2 es.length c2, .slice a3 fl.length c3, .slice a4 pot.length c4]) (by simp [results, Try.results24, go_sem, q0, q1, q2, q3, q4, q5, q6, q7]) rfl ⟨⟨no, day, comp, a1, c1, ids, n, a2, c2, es, a3, c3, fl, a4, c4, pot⟩, rfl, rfl, ?_⟩
  exact Sep.roNew (r := ⟨no, day, comp, a1, c1, ids, n, a2, c2, es, a3, c3, fl, a4, c4, pot⟩) (hs.takeN 4)
end Go.Proofs.Ytfnkmkfkomhhnaa
