/-
  Package accounts, walked: what is asked of all balances.
-/
import Derived.Test.YtlpfojpfepfdgaaAW4
import Derived.Deep.RegionLaw
namespace Go.Proofs.Ytlpfojpfepfdgaa
open Go Go.RowKit Go.Mem Go.MoneyP Go.AcctP

section
variable {P : Program} {w0 w : World} {L : List Thing}
/-- 's = append(s, x)' of integers, as one step of a region that draws. -/
theorem step_appIntB {ops : Array Oper} {o : Oper} {a : Act} {K : Act → World → Prop} {Q : Exit → Act → World → Prop} {E : Prop} (hgd : o.guard = none) (s x : Operand) (t : TypeId)
    (ho : o.op = .call { callee := .builtin .append, args := #[s, x], argTypes := #[t, t] })
    (e : TypeId) (i : TypeInfo) (z : Value) (bytes : Nat) (ht : P.underlying t = some (.slice e)) (hi : P.info? e = some i) (hz : i.zero = some z)
    (hsize : i.size = 1) (hby : i.bytes = bytes) (hzs : z.cells.size = 1)
    (v : Value) (zs : List Int) (k : IntKind) (q : Int) (hsep : Sep w0 w L) (j : Nat) (hj : L[j]? = some (intsT k e v zs)) (B : Nat) (hB : w.heap[B]? = some (.cells #[.int k q] e (0, 0)))
    (hs : a.eval s = v) (hx : a.eval x = .slice (some ⟨B, 0, none⟩) 1 1)
    (h63 : zs.length + 1 ≤ maxLen) (hbytes : (zs.length + 1) * bytes ≤ 140737488355328)
    (h : ∀ v' w', Sep w0 w' (L.set j (intsT k e v' (zs ++ [q]))) → K (a.put o.dst v') w') :
    if Region.wanted o (yielded ops a.tmps) = true then Oper.wp P o a w K Q else E := by
  have hw : Region.wanted o (yielded ops a.tmps) = true := by simp [Region.wanted, hgd]
  rw [if_pos hw]
  have hown := hsep.ints j hj
  unfold IOwn at hown
  obtain ⟨v', w', hr, hA⟩ := run_append (P := P) (w := w) t o.type e i z 1 bytes ht hi hz hsize hby hzs (by omega) v zs.length _ hown ⟨B, 0, none⟩ 1 1 [.int k q] rfl
    (fun j u hj => by
      have hadd : (⟨B, 0, none⟩ : Addr).add j = ⟨B, j, none⟩ := by unfold Addr.add; split <;> simp_all
      rw [hadd, cell_of hB]
      simpa using hj) (by simp [Value.oneCell']) h63 hbytes
  unfold Oper.wp execOp
  simp only [ho, resolve, invoke, builtin, Sem.run_bind, Sem.run_pure, Result.andThen_ok, List.map_toArray, List.map_cons, List.map_nil, hs, hx, hr]
  exact h v' w' (hsep.appInts j hj rfl hA)
end
set_option maxHeartbeats 2000000 in
theorem fund3_any (A X b : Nat) (v : Value) (xs : List Ac) (x : Int) (w : World) (hA : w.cell? ⟨A, 0, none⟩ = some (.pointer (some ⟨b, 0, none⟩))) (hX : w.cell? ⟨X, 0, none⟩ = some (.int .i64 x)) (hb : w.cell? ⟨b, 0, none⟩ = some v) (h : RdG acR w v xs) (hsm : xs.length ≤ 1000) :
    Calls Try.prog 34 #[.pointer (some ⟨A, 0, none⟩), .pointer (some ⟨X, 0, none⟩)] w fun en w' => en = .returned (.bool (sumE (bals xs ++ [x]) == 0)) ∧ Below w.heap.size w w' := by
  obtain ⟨i0, hi0, hz0, hz1, hz2⟩ := info_parts Try.infoI64
  have lA := World.block_lt_of_cell? w _ hA
  have lX := World.block_lt_of_cell? w _ hX
  have lb := World.block_lt_of_cell? w _ hb
  have HB := Lib.hid (fun (W : World) (k : Below w.heap.size w W) => (k.cell (p := ⟨b, 0, none⟩) lb).trans hb)
  have HA := Lib.hid (fun (W : World) (k : Below w.heap.size w W) => (k.cell (p := ⟨A, 0, none⟩) lA).trans hA)
  have HX := Lib.hid (fun (W : World) (k : Below w.heap.size w W) => (k.cell (p := ⟨X, 0, none⟩) lX).trans hX)
  have HR := Lib.hid (fun (W : World) (k : Below w.heap.size w W) => h.below k)
  have hbl := bals_length xs
  have HL := Lib.hid hbl
  clear hb h hbl
  go_enter Try.func34, Try.ntmps34
  go_wp2_with fail
  refine wp_cutM [none, none, none, some 3, some 4, some 5, some 6, some 7, some 8, some 9, some 10, some 11, some 12, some 13, none, none] (fun (f : Nat → Value) (wr : World) => (fun (vc : Value) => vc = .int .i64 (sumE (bals xs ++ [x])) ∧ Below w.heap.size w wr) (f 4)) ?first1 ?rest1
  case' first1 => intro JC KC hJC hKC
  case' rest1 =>
    intro f wr l hl hrel
    (try simp only [mask] at hl)
    generalize f 4 = u4 at hl hrel
    subst hl
    (try dsimp only at hrel)
  case first1 =>
    go_region_law (first
      | (refine step_appIntB rfl (.tmp 7) (.tmp 9) 35 rfl 2 i0 _ 8 Try.underlying35 hi0 hz0 hz1 hz2 rfl u (bals xs) .i64 x (k3.alloc (.cells #[.int .i64 x] 2)) 0 rfl w3.heap.size (heap_alloc_new w3 _) rfl rfl (by rw [HL.out]; simp only [maxLen]; omega) (by rw [HL.out]; omega) ?_; intro u4 w4 k4; have hf := kb.trans (k4.below.mono kz))
      | (refine step_appIntB rfl (.tmp 7) (.tmp 9) 35 rfl 2 i0 _ 8 Try.underlying35 hi0 hz0 hz1 hz2 rfl u (bals xs) .i64 x k3 0 rfl w.heap.size ((k3.below.block _ (by simp)).trans (heap_alloc_new w.drew _)) rfl rfl (by rw [HL.out]; simp only [maxLen]; omega) (by rw [HL.out]; omega) ?_; intro u4 w4 k4; have hf := kb.trans (k4.below.mono kz))
      | (go_simp; go_at_call 30; refine (balances_any b v xs _ (HB.out _ (by first | exact (Below.refl _ _).drew | exact ((Below.refl _ _).drew).alloc (Nat.le_refl _) _)) (HR.out _ (by first | exact (Below.refl _ _).drew | exact ((Below.refl _ _).drew).alloc (Nat.le_refl _) _)) (by omega)).mono ?_; rintro en w3 ⟨u, rfl, k3⟩;
          first
            | (have kb : Below w.heap.size w w.drew := (Below.refl _ _).drew; have kz : w.heap.size ≤ w.drew.heap.size := Nat.le_refl _; have qX := HX.out w3 (kb.trans (k3.below.mono kz)))
            | (have kb : Below w.heap.size w (w.drew.alloc (.cells #[.int .i64 x] 2)) := ((Below.refl _ _).drew).alloc (Nat.le_refl _) _; have kz : w.heap.size ≤ (w.drew.alloc (.cells #[.int .i64 x] 2)).heap.size := by simp))
      | (go_simp; go_at_call 29; refine (sum_any _ (bals xs ++ [x]) _ (k4.rdInts 0 rfl)).mono ?_; rintro en w5 ⟨rfl, rfl⟩))
    all_goals
      go_wp2_with fail
      refine Meet.intro (by kernel_rfl) (hJC _ _ ?_)
      (try dsimp only [nthV])
      exact ⟨rfl, hf⟩
  case rest1 =>
    obtain ⟨rfl, hf⟩ := hrel
    go_wp2_with fail
    go_ret
    exact ⟨rfl, hf⟩
end Go.Proofs.Ytlpfojpfepfdgaa
