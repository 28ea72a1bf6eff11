/-
  Package paths: begin, walked.
-/
import Derived.Test.YtfafecgnjjkagaaPW3
import Derived.Test.YtfafecgnjjkagaaLoop
namespace Go.PathP
open Go Go.Mem
/-- May a way begin there? -/
def nodeI (n : Nat) (x : Int) : Bool := decide (0 ≤ x) && decide (x < n)
theorem nodeI_iff {n : Nat} {x : Int} : nodeI n x = true ↔ 0 ≤ x ∧ x < n := by simp [nodeI]
def fromB (n : Nat) (zs : List Int) : Bool := zs.all (nodeI n) && decide (zs ≠ [])
def fromN (zs : List Int) : List Nat := zs.map Int.toNat
/-- Behind some of the nodes from which the ways lead. -/
structure BGX (n : Nat) (zs : List Int) (k : Nat) (D : List Int) (Q : List Th) : Prop where
  bg : BG n (fromN (zs.take k)) (D, Q)
  ok : (zs.take k).all (nodeI n) = true
  len : Q.length ≤ k
theorem BG.perm {N : Nat} {pre : List Nat} {D : List Int} {Q Q' : List Th} (h : BG N pre (D, Q)) (p : Q.Perm Q') : BG N pre (D, Q') :=
  ⟨h.lD, fun v hv => by have := h.val v hv; dsimp only at this ⊢; rw [← p.count_eq]; exact this, fun q hq => h.ent q (p.mem_iff.2 hq)⟩
theorem BGX.perm {n k : Nat} {zs D : List Int} {Q Q' : List Th} (h : BGX n zs k D Q) (p : Q.Perm Q') : BGX n zs k D Q' := ⟨h.bg.perm p, h.ok, by rw [← p.length_eq]; exact h.len⟩
theorem BGX.start (n : Nat) (zs : List Int) : BGX n zs 0 (List.replicate n (-1)) [] := ⟨BG.start n, rfl, Nat.le_refl _⟩
theorem BGX.step {n k : Nat} {zs D : List Int} {Q : List Th} (h : BGX n zs k D Q) (hk : k < zs.length) (hv : nodeI n (zs.getD k 0) = true) :
    (g D (zs.getD k 0).toNat = 0 → BGX n zs (k + 1) D Q) ∧ (g D (zs.getD k 0).toNat ≠ 0 → BGX n zs (k + 1) (D.set (zs.getD k 0).toNat 0) ((0, zs.getD k 0) :: Q)) := by
  have hx : zs[k] = zs.getD k 0 := by simp [hk]
  have hn := nodeI_iff.1 hv
  have e1 : zs.take (k + 1) = zs.take k ++ [zs.getD k 0] := by rw [List.take_succ_eq_append_getElem hk, hx]
  have e2 : fromN (zs.take (k + 1)) = fromN (zs.take k) ++ [(zs.getD k 0).toNat] := by unfold fromN; rw [e1, List.map_append]; rfl
  have ho : (zs.take (k + 1)).all (nodeI n) = true := by rw [e1, List.all_append, h.ok]; simp only [List.all_cons, List.all_nil, Bool.and_true, Bool.true_and]; exact hv
  have hs := h.bg.step (v := (zs.getD k 0).toNat) (by omega)
  rw [← e2] at hs
  unfold begStep at hs
  dsimp only at hs
  constructor
  · intro q
    rw [if_pos q] at hs
    exact ⟨hs, ho, by have := h.len; omega⟩
  · intro q
    rw [if_neg q, Int.toNat_of_nonneg hn.1] at hs
    exact ⟨hs, ho, by have := h.len; rw [List.length_cons]; omega⟩
end Go.PathP
namespace Go.Proofs.Ytfafecgnjjkagaa
open Go Go.RowKit Go.Mem Go.NetP Go.RestP Go.CertP Go.PathP
set_option maxRecDepth 100000 in
set_option maxHeartbeats 4000000 in
theorem begin_any (F : Fi) (b : Nat) (H B zs : List Int) (vf : Value) (w0 w : World) (hs : Sep w0 w (heapT b [] :: fiL F (List.replicate F.n (-1)) H B)) (hr : Rd .i64 w0 vf zs) (hsm : zs.length ≤ 1000) (hn : F.n ≤ 1000) :
    Calls Try.prog 22 #[.pointer (some ⟨F.bf, 0, none⟩), .pointer (some ⟨b, 0, none⟩), vf] w fun e w' =>
      (e = .returned (.bool false) ∧ fromB F.n zs = false ∧ ∃ D Q, Sep w0 w' (heapT b Q :: fiL F D H B)) ∨ (e = .returned (.bool true) ∧ fromB F.n zs = true ∧ ∃ D Q, BGX F.n zs zs.length D Q ∧ Sep w0 w' (heapT b Q :: fiL F D H B)) := by
  obtain ⟨af, cf, rfl⟩ := hr.shape
  unfold fiL at hs
  go_enter Try.func22, Try.ntmps22
  go_wp2_with fail
  refine wp_loopM [none, none, none, none, none, none, some 6, none, some 8, none, none, some 11, some 12, some 13, some 14, some 15, some 16, some 17, some 18, some 19, some 20, some 21, some 22, some 23, some 24, some 25, some 26, some 27, some 28, some 29, some 30, some 31, some 32, some 33, some 34, some 35, some 36, some 37, some 38, some 39, some 40, some 41, some 42, some 43, none, none, none] (fun (r : Nat) (f : Nat → Value) (wr : World) => (fun (v : Value) => ∃ (k : Nat) (D : List Int) (Q : List Th), v = .int .i64 k ∧ k ≤ zs.length ∧ r = zs.length - k ∧ BGX F.n zs k D Q ∧ Sep w0 wr (heapT b Q :: fiL F D H B)) (f 11)) (zs.length) (by kernel_rfl) ?atStart1 ?round1
  case' atStart1 => (try dsimp only [nthV])
  case' round1 =>
    intro gk f wr l hl hrel J1 K1 hJ1 hK1
    (try simp only [mask] at hl)
    generalize f 11 = u11 at hl hrel
    subst hl
    (try dsimp only at hrel)
  case atStart1 => exact ⟨0, _, _, rfl, Nat.zero_le _, rfl, BGX.start _ _, hs⟩
  case round1 =>
    clear hs
    obtain ⟨k, D, Q, rfl, hk, rfl, hbg, hs⟩ := hrel
    have HBG := Lib.hid hbg
    clear hbg
    unfold fiL at hs
    by_cases hlt : k < zs.length
    · obtain ⟨b1, o1, e1, hb1, x0⟩ := (hs.rd hr).at k hlt
      subst e1
      have HST := Lib.hid (HBG.out.step hlt)
      have HNO := Lib.hid (fun (q : nodeI F.n (zs.getD k 0) = false) => (show fromB F.n zs = false by
        unfold fromB
        rw [show zs.all (nodeI F.n) = false by
          rw [Bool.eq_false_iff]; intro q2
          have := List.all_eq_true.1 q2 _ (List.getElem_mem hlt)
          rw [show zs[k] = zs.getD k 0 by simp [hlt]] at this
          rw [q] at this; cases this]
        rfl))
      obtain ⟨X, hX⟩ : ∃ X, X = zs.getD k 0 := ⟨_, rfl⟩
      rw [← hX] at x0 HST HNO
      clear hX
      have f1 := cell_of (hs.cells 1 rfl) 1
      simp only [Fi.cells, List.getElem?_toArray, List.getElem?_cons_zero, List.getElem?_cons_succ] at f1
      by_cases h1 : X < 0
      · have d1 : decide (X < 0) = true := decide_eq_true h1
        have HF := Lib.hid (HNO.out (by simp [nodeI]; omega))
        clear h1
        go_wp2_with fail
        go_ret
        exact .inl ⟨rfl, HF.out, _, _, hs⟩
      have d1 : decide (X < 0) = false := decide_eq_false h1
      by_cases h2 : (F.n : Int) ≤ X
      · have d2 : decide ((F.n : Int) ≤ X) = true := decide_eq_true h2
        have HF := Lib.hid (HNO.out (by simp [nodeI]; omega))
        clear h1 h2
        go_wp2_with fail
        go_ret
        exact .inl ⟨rfl, HF.out, _, _, hs⟩
      have d2 : decide ((F.n : Int) ≤ X) = false := decide_eq_false h2
      obtain ⟨V, rfl⟩ : ∃ V : Nat, X = V := ⟨X.toNat, by omega⟩
      have hV : V < F.n := by omega
      have HSV := Lib.hid (HST.out (nodeI_iff.2 ⟨by omega, by omega⟩))
      rw [Int.toNat_natCast] at HSV
      have hlD := HBG.out.bg.lD
      dsimp only at hlD
      have HLD := Lib.hid hlD
      obtain ⟨g', cg', eg, _, hcR, yf⟩ := (hs.ints 2 rfl).get V (by rw [hlD]; exact hV)
      injection eg with eg q1 q2
      injection eg with eg
      injection eg with eg
      subst eg
      have y0 := hcR V (by rw [hlD]; exact hV)
      clear q1 q2 hcR
      obtain ⟨Y, hY⟩ : ∃ Y, Y = D.getD V 0 := ⟨_, rfl⟩
      rw [show g D V = Y from hY.symm] at HSV
      rw [← hY] at y0
      clear hY h1 h2 hlD HST HNO
      by_cases h0 : Y = 0
      · have HN := Lib.hid (HSV.out.1 h0)
        have d3 : (Y != 0) = false := by simpa using h0
        clear h0
        go_wp2_with fail
        refine Round.intro (zs.length - (k + 1)) ?measure2 (by kernel_rfl) (hJ1 _ _ _ ?rel2)
        case' rel2 => (try dsimp only [nthV])
        case measure2 => omega
        case rel2 => exact ⟨k + 1, _, _, by go_num, hlt, rfl, HN.out, hs⟩
      · have HN := Lib.hid (HSV.out.2 h0)
        have d3 : (Y != 0) = true := by simpa using h0
        clear h0
        have hs2 := hs.setInts (j := V) 2 rfl 0
        simp only [List.set_cons_zero, List.set_cons_succ] at hs2
        go_wp2_with fail
        refine (push_sep hs2 0 rfl 0 V (by have := HBG.out.len; omega)).mono ?_
        rintro en w2 ⟨rfl, Q', hp, hs3⟩
        simp only [List.set_cons_zero] at hs3
        have HN2 := Lib.hid (HN.out.perm hp.symm)
        clear hs hs2 HN hp y0 yf f1
        go_wp2_with fail
        refine Round.intro (zs.length - (k + 1)) ?measure3 (by kernel_rfl) (hJ1 _ _ _ ?rel3)
        case' rel3 => (try dsimp only [nthV])
        case measure3 => omega
        case rel3 => exact ⟨k + 1, _, _, by go_num, hlt, rfl, HN2.out, hs3⟩
    · obtain rfl : k = zs.length := by omega
      have HOK := HBG.out.ok
      rw [List.take_length] at HOK
      have HO := Lib.hid HOK
      clear HOK
      by_cases h0 : 0 < zs.length
      · have HD := Lib.hid (show decide (0 < zs.length) = true from decide_eq_true h0)
        have HF := Lib.hid (show fromB F.n zs = true by unfold fromB; rw [HO.out]; simp; intro q; rw [q] at h0; simp at h0)
        clear h0
        go_wp2_with fail
        go_ret
        exact .inr ⟨(show Ending.returned (.bool (decide (0 < zs.length))) = _ by rw [HD.out]), HF.out, D, Q, HBG.out, hs⟩
      · have HD := Lib.hid (show decide (0 < zs.length) = false from decide_eq_false h0)
        have HF := Lib.hid (show fromB F.n zs = false by
          have : zs = [] := List.eq_nil_of_length_eq_zero (by omega)
          unfold fromB; rw [this]; rfl)
        clear h0
        go_wp2_with fail
        go_ret
        exact .inl ⟨(show Ending.returned (.bool (decide (0 < zs.length))) = _ by rw [HD.out]), HF.out, _, _, hs⟩
end Go.Proofs.Ytfafecgnjjkagaa
