/-
  Package paths: goes, walked.
-/
import Derived.Test.YtfafecgnjjkagaaPW4
namespace Go.PathP
open Go Go.Mem
/-- The arcs of a node that are to come. -/
theorem drop_at {O : List Ar} {i : Nat} (hi : i < O.length) : O.drop i = O[i] :: O.drop (i + 1) := List.drop_eq_getElem_cons hi
/-- A node at hand, its label, and how many things there are at most. -/
structure AtN (A : List Ar) (src : Nat → Prop) (n : Nat) (O : List Ar) (u : Nat) (X : Nat → Nat) (c y : Int) (q : Nat) (i : Nat) (D H : List Int) (Q : List Th) : Prop where
  dj : DJ A src n maxL (O.drop i) D H Q X c
  d : g D u = c
  h : g H u = y
  len : Q.length ≤ q + i
theorem AtN.bound {A : List Ar} {src : Nat → Prop} {n : Nat} {O : List Ar} {u : Nat} {X : Nat → Nat} {c y : Int} {q i : Nat} {D H : List Int} {Q : List Th} (h : AtN A src n O u X c y q i D H Q) (hu : u < n) (h0 : 0 ≤ c) (hn : n ≤ 40) : c ≤ 87960942262080 ∧ 0 ≤ y ∧ y ≤ 39 := by
  rcases h.dj.real.pos h.dj.net hu with p | ⟨p1, p2, p3, p4⟩
  · have := h.d; omega
  · have e1 := h.d
    have e2 := h.h
    have : g H u * maxL ≤ 40 * maxL := Int.mul_le_mul_of_nonneg_right (by omega) (by unfold maxL; omega)
    unfold maxL at *
    omega
/-- One arc more. -/
theorem AtN.step {A : List Ar} {src : Nat → Prop} {n : Nat} {O : List Ar} {u : Nat} {X : Nat → Nat} {c y : Int} {q i : Nat} {D H : List Int} {Q : List Th} (h : AtN A src n O u X c y q i D H Q) (h0 : 0 ≤ c) (hi : i < O.length) (hO : ∀ a ∈ O, a ∈ A ∧ a.u = u) :
    (bet (g D) (g H) O[i].v (c + O[i].len) (y + 1) = false → AtN A src n O u X c y q (i + 1) D H Q) ∧
    (bet (g D) (g H) O[i].v (c + O[i].len) (y + 1) = true → AtN A src n O u X c y q (i + 1) (D.set O[i].v (c + O[i].len)) (H.set O[i].v (y + 1)) ((c + O[i].len, (O[i].v : Int)) :: Q)) := by
  obtain ⟨ha, hu⟩ := hO _ (List.getElem_mem hi)
  have hd := h.dj
  rw [drop_at hi] at hd
  have hs := hd.step h.d (by rw [h.d]; exact h0) ha hu _ rfl
  unfold goStep at hs
  dsimp only at hs
  rw [h.d, h.h] at hs
  constructor
  · intro hb
    rw [if_neg (by rw [hb]; simp)] at hs
    exact ⟨hs.1, hs.2.1, hs.2.2, by have := h.len; omega⟩
  · intro hb
    rw [if_pos hb] at hs
    exact ⟨hs.1, hs.2.1, hs.2.2, by have := h.len; rw [List.length_cons]; omega⟩
theorem AtN.perm {A : List Ar} {src : Nat → Prop} {n : Nat} {O : List Ar} {u : Nat} {X : Nat → Nat} {c y : Int} {q i : Nat} {D H : List Int} {Q Q' : List Th} (h : AtN A src n O u X c y q i D H Q) (p : Q.Perm Q') : AtN A src n O u X c y q i D H Q' :=
  ⟨h.dj.perm p, h.d, h.h, by rw [← p.length_eq]; exact h.len⟩
end Go.PathP
namespace Go.Proofs.Ytfafecgnjjkagaa
open Go Go.RowKit Go.Mem Go.NetP Go.RestP Go.CertP Go.PathP
set_option maxRecDepth 100000 in
set_option maxHeartbeats 4000000 in
theorem goes_any (F : Fi) (b u : Nat) (A : List Ar) (src : Nat → Prop) (D H B : List Int) (Q : List Th) (X : Nat → Nat) (c y : Int) (w0 w : World) (hn : F.n ≤ 40) (hl : F.rows.length = F.n) (hu : u < F.n) (hO : ∀ a ∈ (F.rows[u]'(by omega)).2, a ∈ A ∧ a.u = u)
    (hat : AtN A src F.n (F.rows[u]'(by omega)).2 u X c y Q.length 0 D H Q) (h0 : 0 ≤ c) (hsm : Q.length + (F.rows[u]'(by omega)).2.length ≤ 99999) (hs : Sep w0 w (heapT b Q :: fiL F D H B)) :
    Calls Try.prog 25 #[.pointer (some ⟨F.bf, 0, none⟩), .pointer (some ⟨b, 0, none⟩), .int .i64 u] w fun e w' =>
      (∃ v, e = .returned v) ∧ ∃ D' H' Q', DJ A src F.n maxL [] D' H' Q' X c ∧ Q'.length ≤ Q.length + (F.rows[u]'(by omega)).2.length ∧ Sep w0 w' (heapT b Q' :: fiL F D' H' B) := by
  have hur : u < F.rows.length := by omega
  obtain ⟨O, hOd⟩ : ∃ O, O = F.rows[u].2 := ⟨_, rfl⟩
  rw [← hOd] at hO hat hsm
  have HR := Lib.hid (fun (A1 A2 A3 A4 A5 A6 : Thing) => (show (A1 :: A2 :: A3 :: A4 :: A5 :: A6 :: (rowsL F.rows ++ F.ex))[6 + u]? = some (recT arR 45 F.rows[u].1 O) from by rw [hOd]; exact rows_at hur A1 A2 A3 A4 A5 A6))
  rw [← hOd]
  have hbd := hat.bound hu h0 hn
  obtain ⟨hc1, hy0, hy1⟩ := hbd
  have HO := Lib.hid hO
  have HAT := Lib.hid hat
  unfold fiL at hs
  obtain ⟨av, cv, hrv⟩ := (hs.rdRecs (6 + u) (HR.out _ _ _ _ _ _)).shape
  have hg5 := cell_of (hs.cells 5 rfl) u
  have hg1 : (F.rows.map (·.1)).toArray[u]? = some (.slice av O.length cv) := by
    rw [List.getElem?_toArray, List.getElem?_map, List.getElem?_eq_getElem hur]
    simp [hrv]
  rw [hg1] at hg5
  have f0 := cell_of (hs.cells 1 rfl) 0
  simp only [Fi.cells, List.getElem?_toArray, List.getElem?_cons_zero, List.getElem?_cons_succ] at f0
  rw [hrv] at HR
  have hun : (u : Int) < F.n := by omega
  clear hrv hg1 hOd hO hat
  have hle := (hs.rdRecs (6 + u) (HR.out _ _ _ _ _ _)).le'
  go_enter Try.func25, Try.ntmps25
  go_wp2_with fail
  clear hg5 f0
  refine wp_loopM [none, none, none, none, none, none, none, some 7, some 8, none, none, none, none, none, none, none, none, some 17, some 18, some 19, some 20, some 21, some 22, some 23, some 24, some 25, some 26, some 27, some 28, some 29, some 30, some 31, some 32, some 33, some 34, some 35, some 36, some 37, some 38, some 39, some 40, some 41, some 42, some 43, some 44, some 45, some 46, some 47, some 48, some 49, some 50, some 51, some 52, some 53, some 54, some 55, some 56, some 57, some 58, some 59, some 60, some 61, some 62, some 63, some 64, some 65, some 66, some 67, some 68, some 69, some 70, some 71, some 72] (fun (r : Nat) (f : Nat → Value) (wr : World) => (fun (v : Value) => ∃ (i : Nat) (D H : List Int) (Q' : List Th), v = .int .i64 i ∧ i ≤ O.length ∧ r = O.length - i ∧ AtN A src F.n O u X c y Q.length i D H Q' ∧ Sep w0 wr (heapT b Q' :: fiL F D H B)) (f 17)) (O.length) (by kernel_rfl) ?atStart1 ?round1
  case' atStart1 => (try dsimp only [nthV])
  case' round1 =>
    intro gk f wr l hl hrel J1 K1 hJ1 hK1
    (try simp only [mask] at hl)
    generalize f 17 = u17 at hl hrel
    subst hl
    (try dsimp only at hrel)
  case atStart1 => exact ⟨0, D, H, Q, rfl, Nat.zero_le _, rfl, HAT.out, hs⟩
  case round1 =>
    clear hs
    obtain ⟨i, D, H, Q', rfl, hi, rfl, hat, hs⟩ := hrel
    have HA := Lib.hid hat
    clear hat
    by_cases hlt : i < O.length
    · unfold fiL at hs
      obtain ⟨b1, o1, e1, hb1, hc⟩ := (hs.rdRecs (6 + u) (HR.out _ _ _ _ _ _)).at i hlt
      subst e1
      have HST := Lib.hid (HA.out.step h0 hlt HO.out)
      have haA := (HO.out _ (List.getElem_mem hlt)).1
      have hnv := HA.out.dj.net.v _ haA
      have hl0 := HA.out.dj.net.l0 _ haA
      have hl1 := HA.out.dj.net.l1 _ haA
      obtain ⟨a, ha⟩ : ∃ a, a = O[i] := ⟨_, rfl⟩
      rw [← ha] at hc HST hnv hl0 hl1
      clear ha haA
      obtain ⟨ak, au, av', al⟩ := a
      have x0 := hc 0 (by decide)
      have x1 := hc 1 (by decide)
      have x2 := hc 2 (by decide)
      have x3 := hc 3 (by decide)
      simp only [arR, Nat.add_zero, List.getElem?_cons_zero, List.getElem?_cons_succ] at x0 x1 x2 x3
      dsimp only at HST hnv hl0 hl1
      clear hc
      unfold maxL at hl1
      have hlD := HA.out.dj.lD
      have hlH := HA.out.dj.lH
      have HLD := Lib.hid hlD
      have HLH := Lib.hid hlH
      have hDu := HA.out.d
      have hHu := HA.out.h
      have hs1 := hs.alloc (.cells #[.int .i64 ak, .int .i64 au, .int .i64 av', .int .i64 al] 45)
      have hnb := heap_alloc_new wr (.cells #[.int .i64 ak, .int .i64 au, .int .i64 av', .int .i64 al] 45)
      obtain ⟨BX, hBX⟩ : ∃ BX, BX = wr.heap.size := ⟨_, rfl⟩
      have hgdL : F.gd < BX := by rw [hBX]; exact (hs.ints 2 rfl).low F.gd rfl
      have hghL : F.gh < BX := by rw [hBX]; exact (hs.ints 3 rfl).low F.gh rfl
      go_wp2_with fail
      rw [← hBX] at hnb ⊢
      clear hs hBX x0 x1 x2 x3
      have hs := hs1
      generalize World.alloc wr _ = W1 at hs hnb ⊢
      clear hs1
      have bx2 := cell_of hnb 2
      have bx3 := cell_of hnb 3
      have f1 := cell_of (hs.cells 1 rfl) 1
      have f2 := cell_of (hs.cells 1 rfl) 2
      simp only [Fi.cells, List.getElem?_toArray, List.getElem?_cons_zero, List.getElem?_cons_succ] at f1 f2 bx2 bx3
      obtain ⟨g', cg', eg, _, hcR, df⟩ := (hs.ints 2 rfl).get u (by rw [HLD.out]; exact hu)
      injection eg with eg q1 q2
      injection eg with eg
      injection eg with eg
      subst eg
      have du := hcR u (by rw [HLD.out]; exact hu)
      clear q1 q2 hcR
      obtain ⟨g', cg', eg, _, hcR, hf⟩ := (hs.ints 3 rfl).get u (by rw [HLH.out]; exact hu)
      injection eg with eg q1 q2
      injection eg with eg
      injection eg with eg
      subst eg
      have hu' := hcR u (by rw [HLH.out]; exact hu)
      clear q1 q2 hcR
      rw [show D.getD u 0 = c from hDu] at du
      rw [show H.getD u 0 = y from hHu] at hu'
      have HNB := Lib.hid (show BX < W1.heap.size ∧ W1.heap[BX]? = some (.cells #[.int .i64 ak, .int .i64 au, .int .i64 av', .int .i64 al] 45 (0, 0)) from ⟨lt_of hnb, hnb⟩)
      have HLO := Lib.hid (show F.gd < BX ∧ F.gh < BX from ⟨hgdL, hghL⟩)
      clear hDu hHu hlD hlH hnb hgdL hghL
      refine Mix.region [0, 0, 0, 0, 0, 0, 0, 0, 0, 0, 0] (fun _ => True) (by kernel_rfl) (by kernel_rfl) trivial ?_
      simp only [List.zip_cons_cons, List.zip_nil_right]
      iterate 11 (refine Mix.step0 fun K hK => ?_; go_simp; (try (go_bits; try go_simp)); first | ((with_reducible refine hK _ _ ?_); clear hK K) | ((try (simp only [IntWalk.iteOmega]; try go_simp)); (try go_bits); (with_reducible refine hK _ _ ?_); clear hK K))
      refine Mix.done ?_
      have HBT := Lib.hid (better_any F.bf F.gd F.gh F.n (.slice (some ⟨F.go, 0, none⟩) F.n F.n) (.slice (some ⟨F.gb, 0, none⟩) F.n F.n) D H av' (c + al) (y + 1) W1.drew.drew (hs.drew.drew.cells 1 rfl) (hs.drew.drew.rdInts 2 rfl) (hs.drew.drew.rdInts 3 rfl) hnv)
      cases hb : bet (g D) (g H) av' (c + al) (y + 1)
      · have HN := Lib.hid (HST.out.1 hb)
        rw [hb] at HBT
        clear hb HST
        go_wp2_with fail
        refine Mix.region [0, 0, 0, 0, 0, 0, 0, 0, 0, 0, 0, 0, 2] (fun _ => True) (by kernel_rfl) (by kernel_rfl) trivial ?_
        simp only [List.zip_cons_cons, List.zip_nil_right]
        iterate 12 (refine Mix.step0 fun K hK => ?_; go_simp; (try (go_bits; try go_simp)); first | ((with_reducible refine hK _ _ ?_); clear hK K) | ((try (simp only [IntWalk.iteOmega]; try go_simp)); (try go_bits); (with_reducible refine hK _ _ ?_); clear hK K))
        refine Mix.step2n (by first | rfl | simp [Region.wanted, yielded]) fun K hK => ?_
        go_wp2_with fail
        refine HBT.out.mono ?_
        rintro en w2 ⟨rfl, rfl⟩
        go_wp2_with fail
        refine Mix.post_mk (C := (fun _ => True)) trivial (hK _ _ ?_)
        clear hK K
        refine Mix.done ?_
        go_wp2_with fail
        refine Round.intro (O.length - (i + 1)) ?measure2 (by kernel_rfl) (hJ1 _ _ _ ?rel2)
        case' rel2 => (try dsimp only [nthV])
        case measure2 => omega
        case rel2 => exact ⟨i + 1, _, _, _, by go_num, hlt, rfl, HN.out, hs.drew.drew⟩
      · have HN := Lib.hid (HST.out.2 hb)
        rw [hb] at HBT
        clear hb HST
        go_wp2_with fail
        refine Mix.region [0, 0, 0, 0, 0, 0, 0, 0, 0, 0, 0, 0, 2] (fun _ => True) (by kernel_rfl) (by kernel_rfl) trivial ?_
        simp only [List.zip_cons_cons, List.zip_nil_right]
        iterate 12 (refine Mix.step0 fun K hK => ?_; go_simp; (try (go_bits; try go_simp)); first | ((with_reducible refine hK _ _ ?_); clear hK K) | ((try (simp only [IntWalk.iteOmega]; try go_simp)); (try go_bits); (with_reducible refine hK _ _ ?_); clear hK K))
        refine Mix.step2n (by first | rfl | simp [Region.wanted, yielded]) fun K hK => ?_
        go_wp2_with fail
        refine HBT.out.mono ?_
        rintro en w2 ⟨rfl, rfl⟩
        go_wp2_with fail
        refine Mix.post_mk (C := (fun _ => True)) trivial (hK _ _ ?_)
        clear hK K
        refine Mix.done ?_
        go_wp2_with fail
        obtain ⟨g', cg', eg, _, hcR, df2⟩ := (hs.ints 2 rfl).get av' (by rw [HLD.out]; exact hnv)
        injection eg with eg q1 q2
        injection eg with eg
        injection eg with eg
        subst eg
        have dv := hcR av' (by rw [HLD.out]; exact hnv)
        clear q1 q2 hcR
        obtain ⟨g', cg', eg, _, hcR, hf2⟩ := (hs.ints 3 rfl).get av' (by rw [HLH.out]; exact hnv)
        injection eg with eg q1 q2
        injection eg with eg
        injection eg with eg
        subst eg
        have hv' := hcR av' (by rw [HLH.out]; exact hnv)
        clear q1 q2 hcR
        clear df2 hf2
        have hCB : (fun W : World => W.cell? ⟨BX, 2, none⟩ = some (.int .i64 av')) W1.drew.drew.drew := bx2
        refine Mix.region [0, 0, 0, 0, 0, 0, 0, 0, 0, 0, 1, 1, 0, 0, 0, 0, 0, 0, 0, 0, 1, 0, 2, 0, 2] (fun W : World => W.cell? ⟨BX, 2, none⟩ = some (.int .i64 av')) (by kernel_rfl) (by kernel_rfl) hCB ?_
        simp only [List.zip_cons_cons, List.zip_nil_right]
        iterate 10 (refine Mix.step0 fun K hK => ?_; go_simp; (try (go_bits; try go_simp)); first | ((with_reducible refine hK _ _ ?_); clear hK K) | ((try (simp only [IntWalk.iteOmega]; try go_simp)); (try go_bits); (with_reducible refine hK _ _ ?_); clear hK K))
        (refine Mix.step1 fun K hK => ?_; go_simp; (try (go_bits; try go_simp)); first | ((with_reducible refine hK _ _ ?_); clear hK K) | ((try (simp only [IntWalk.iteOmega]; try go_simp)); (try go_bits); (with_reducible refine hK _ _ ?_); clear hK K))
        (refine Mix.step1 fun K hK => ?_; go_simp; refine ⟨fun W => ?_, hK _ _ ?_⟩; (intro hW1; (try intro hW2); (try intro hW3); (try intro hW4); (try intro hW5); (try intro hW6); (try intro hW7); (try intro hW8); go_simp); clear hK K)
        iterate 8 (refine Mix.step0 fun K hK => ?_; go_simp; (try (go_bits; try go_simp)); first | ((with_reducible refine hK _ _ ?_); clear hK K) | ((try (simp only [IntWalk.iteOmega]; try go_simp)); (try go_bits); (with_reducible refine hK _ _ ?_); clear hK K))
        (refine Mix.step1 fun K hK => ?_; go_simp; (try (go_bits; try go_simp)); first | ((with_reducible refine hK _ _ ?_); clear hK K) | ((try (simp only [IntWalk.iteOmega]; try go_simp)); (try go_bits); (with_reducible refine hK _ _ ?_); clear hK K))
        iterate 1 (refine Mix.step0 fun K hK => ?_; go_simp; (try (go_bits; try go_simp)); first | ((with_reducible refine hK _ _ ?_); clear hK K) | ((try (simp only [IntWalk.iteOmega]; try go_simp)); (try go_bits); (with_reducible refine hK _ _ ?_); clear hK K))
        refine Mix.step2n (by first | rfl | simp [Region.wanted, yielded]) fun K hK => ?_
        go_wp2_with fail
        have hs2p := hs.setInts (j := av') 2 rfl (c + al)
        have hs2 := hs2p.drew.drew.drew
        simp only [List.set_cons_zero, List.set_cons_succ] at hs2 hs2p
        have hFr := (Fr.set1 W1 F.gd av' (.int .i64 (c + al)))
        have hCB := (hFr.cell (b := BX) (o := 2) HNB.out.1 (by have := HLO.out; omega)).trans bx2
        have hB2 : (W1.setCell ⟨F.gd, av', none⟩ (.int .i64 (c + al))).heap[BX]? = some (.cells #[.int .i64 ak, .int .i64 au, .int .i64 av', .int .i64 al] 45 (0, 0)) := (hFr.block BX HNB.out.1 (by have := HLO.out; omega)).trans HNB.out.2
        clear hFr du hu' df hf dv hv' f1 f2 bx3
        obtain ⟨g', cg', eg, _, hcR, hf⟩ := (hs2.ints 3 rfl).get av' (by rw [HLH.out]; exact hnv)
        injection eg with eg q1 q2
        injection eg with eg
        injection eg with eg
        subst eg
        have hv' := hcR av' (by rw [HLH.out]; exact hnv)
        clear q1 q2 hcR
        refine Mix.post_mk (C := (fun W : World => W.cell? ⟨BX, 2, none⟩ = some (.int .i64 av'))) (by first | exact hCB | exact HCW.out _) (hK _ _ ?_)
        clear hK K
        iterate 1 (refine Mix.step0 fun K hK => ?_; go_simp; (try (go_bits; try go_simp)); first | ((with_reducible refine hK _ _ ?_); clear hK K) | ((try (simp only [IntWalk.iteOmega]; try go_simp)); (try go_bits); (with_reducible refine hK _ _ ?_); clear hK K))
        refine Mix.step2n (by first | rfl | simp [Region.wanted, yielded]) fun K hK => ?_
        go_wp2_with fail
        have hs3 := (hs2p.setInts (j := av') 3 rfl (y + 1)).drew.drew.drew
        simp only [List.set_cons_zero, List.set_cons_succ] at hs3
        have hCB := ((Fr.set1 (W1.setCell ⟨F.gd, av', none⟩ (.int .i64 (c + al))) F.gh av' (.int .i64 (y + 1))).cell (b := BX) (o := 2) (lt_of hB2) (by have := HLO.out; omega)).trans hCB
        clear hs hs2 hs2p hB2 hf hv' bx2
        refine Mix.post_mk (C := (fun W : World => W.cell? ⟨BX, 2, none⟩ = some (.int .i64 av'))) (by first | exact hCB | exact HCW.out _) (hK _ _ ?_)
        clear hK K
        refine Mix.done ?_
        have hcb : (((W1.setCell ⟨F.gd, av', none⟩ (.int .i64 (c + al))).setCell ⟨F.gh, av', none⟩ (.int .i64 (y + 1))).drew.drew.drew).cell? ⟨BX, 2, none⟩ = some (.int .i64 av') := hCB
        clear hCB
        generalize World.drew (World.drew (World.drew _)) = W3 at hs3 hcb ⊢
        go_wp2_with fail
        refine (push_sep hs3 0 rfl (c + al) av' (by have := HA.out.len; omega)).mono ?_
        rintro en w2 ⟨rfl, Q2, hp, hs4⟩
        simp only [List.set_cons_zero] at hs4
        have HN2 := Lib.hid (HN.out.perm hp.symm)
        clear HN hs3 hp hcb
        go_wp2_with fail
        refine Round.intro (O.length - (i + 1)) ?measure3 (by kernel_rfl) (hJ1 _ _ _ ?rel3)
        case' rel3 => (try dsimp only [nthV])
        case measure3 => omega
        case rel3 => exact ⟨i + 1, _, _, _, by go_num, hlt, rfl, HN2.out, hs4⟩
    · obtain rfl : i = O.length := by omega
      have hd := HA.out.dj
      rw [List.drop_length] at hd
      have HD := Lib.hid hd
      clear hd
      go_wp2_with fail
      exact bodyPost_end (results_none rfl _ _ _) rfl ⟨⟨_, rfl⟩, D, H, Q', HD.out, HA.out.len, hs⟩
end Go.Proofs.Ytfafecgnjjkagaa
