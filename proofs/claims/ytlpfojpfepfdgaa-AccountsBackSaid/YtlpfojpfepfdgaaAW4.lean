/-
  Package accounts, walked: turn.
-/
import Derived.Test.YtlpfojpfepfdgaaAW3
import Derived.Laws.EntriesVeiled
namespace Go.Proofs.Ytlpfojpfepfdgaa
open Go Go.RowKit Go.Mem Go.MoneyP Go.AcctP

/-- What is asked ahead of a call. -/
structure Ask where
  e : Int
  fn : Nat
  caps : Array Value
def askR : Rec Ask where
  m := 2
  cells q := [.int .i64 q.e, .func (.func q.fn) #[] q.caps]
  len _ := rfl
  one e u hu := by simp only [List.mem_cons, List.not_mem_nil, or_false] at hu; rcases hu with rfl | rfl <;> rfl
  pos := by decide
/-- What turn answers. -/
def turnE (l : Nat) (k : Int) (qs : List Ask) (B : Ask → Bool) : Int := if bankB l k = false then 10 else match qs.find? (fun q => !B q) with | some q => q.e | none => 0
def pickL (E : Int) (A C : List Thing) : List Thing := if E = 0 then A else C
theorem pick_yes (A C : List Thing) : pickL 0 A C = A := rfl
theorem pick_no {E : Int} (h : E ≠ 0) (A C : List Thing) : pickL E A C = C := by unfold pickL; rw [if_neg h]
theorem turn_no {l : Nat} {k : Int} (qs : List Ask) (B : Ask → Bool) (h : bankB l k = false) : turnE l k qs B = 10 := by simp [turnE, h]
theorem turn_stop {l : Nat} {k : Int} {qs : List Ask} {B : Ask → Bool} (h : bankB l k = true) {j : Nat} (hj : j < qs.length) (h0 : ∀ q ∈ qs.take j, B q = true) (h1 : B qs[j] = false) : turnE l k qs B = qs[j].e := by
  have : qs.find? (fun q => !B q) = some qs[j] := by
    rw [List.find?_eq_some_iff_getElem]
    refine ⟨by simp [h1], j, hj, rfl, fun m hm => ?_⟩
    have := h0 qs[m] (List.mem_take_iff_getElem.2 ⟨m, by omega, rfl⟩)
    simp [this]
  simp [turnE, h, this]
theorem turn_all {l : Nat} {k : Int} {qs : List Ask} {B : Ask → Bool} (h : bankB l k = true) (h0 : ∀ q ∈ qs, B q = true) : turnE l k qs B = 0 := by
  have : qs.find? (fun q => !B q) = none := by
    rw [List.find?_eq_none]
    intro q hq
    simp [h0 q hq]
  simp [turnE, h, this]
set_option maxHeartbeats 2000000 in
theorem turn_any {w0 w : World} {L : List Thing} (hs : Sep w0 w L) (i b : Nat) (xs ys : List Ac) (hi : L[i]? = some (accT b xs)) (hsm : xs.length ≤ 1000000) (k : Int) (fd : Nat) (dc : Array Value) (av : Value) (qs : List Ask) (B : Ask → Bool)
    (hq : ∀ W, Sep w0 W L → RdG askR W av qs) (hqe : ∀ q ∈ qs, q.e ≠ 0)
    (hqs : qs.length ≤ 2) (hen : ∀ q ∈ qs, ∀ W, (callFunc q.fn q.caps).run Try.prog W = .ok (.enter q.fn q.caps) W) (hed : ∀ W args, (callFunc fd args).run Try.prog W = .ok (.enter fd args) W)
    (hso : ∀ q ∈ qs, bankB xs.length k = true → ∀ W, Sep w0 W L → Calls Try.prog q.fn q.caps W fun en W' => en = .returned (.bool (B q)) ∧ Below W.heap.size W W')
    (hdo : bankB xs.length k = true → (∀ q ∈ qs, B q = true) → ∀ W g c, Sep w0 W L → W.heap[b]? = some (.cells #[.slice (some ⟨g, 0, none⟩) xs.length c] 57 (0, 0)) → Calls Try.prog fd (#[.pointer (some ⟨g, k.toNat * 2, none⟩)] ++ dc) W fun en W' => (∃ u, en = .returned u) ∧ Sep w0 W' (L.set i (accT b ys))) :
    Calls Try.prog 31 #[.pointer (some ⟨b, 0, none⟩), .int .i64 k, .func (.func fd) #[] dc, av] w fun en w' => en = .returned (.int .i64 (turnE xs.length k qs B)) ∧ Sep w0 w' (pickL (turnE xs.length k qs B) (L.set i (accT b ys)) L) := by
  obtain ⟨a2, c2, rfl⟩ := (hq w hs).shape
  have HQ := Lib.hid hq
  have HQE := Lib.hid hqe
  have HSO := Lib.hid hso
  have HDO := Lib.hid hdo
  have HEN := Lib.hid hen
  obtain ⟨v, hb, ho, _⟩ := hs.objUse i hi
  obtain ⟨a, c, rfl⟩ := ho.shape
  have hcb := cell_of hb 0
  simp only [List.getElem?_toArray, List.getElem?_cons_zero] at hcb
  clear hq hqe hso hdo hb ho hen
  by_cases h0 : k < 0
  · have H := Lib.hid (turn_no qs B ((bankB_no xs.length k).2 (.inl h0)))
    go_enter Try.func31, Try.ntmps31
    go_wp2_with fail
    go_ret
    exact ⟨by rw [H.out]; rfl, by rw [H.out, pick_no (by decide)]; exact hs⟩
  · by_cases h1 : (xs.length : Int) ≤ k
    · have H := Lib.hid (turn_no qs B ((bankB_no xs.length k).2 (.inr h1)))
      have d1 : decide ((xs.length : Int) ≤ k) = true := by simpa using h1
      have d0 : decide (k < 0) = false := by simpa using h0
      go_enter Try.func31, Try.ntmps31
      go_wp2_with fail
      go_ret
      exact ⟨by rw [H.out]; rfl, by rw [H.out, pick_no (by decide)]; exact hs⟩
    · obtain ⟨m, rfl⟩ : ∃ m : Nat, k = m := ⟨k.toNat, by omega⟩
      have hm : m < xs.length := by omega
      have H := Lib.hid ((bankB_iff xs.length m).2 ⟨by omega, by omega⟩)
      have d1 : decide ((xs.length : Int) ≤ m) = false := by simpa using h1
      have d2 : decide (xs.length ≤ m) = false := by simpa using h1
      clear h0 h1
      go_enter Try.func31, Try.ntmps31
      go_wp2_with fail
      clear hcb
      refine wp_loopM [none, none, none, none, none, none, none, none, some 8, none, some 10, none, none, none, none, none, none, none, none, none, none, none, none, none, none, none, some 26, some 27, some 28, some 29, some 30, some 31, some 32, some 33, some 34, some 35, some 36, none, none, none, none, none, none, none, none] (fun (r : Nat) (f : Nat → Value) (wr : World) => (fun (v : Value) => ∃ (j : Nat), v = .int .i64 j ∧ j ≤ qs.length ∧ r = qs.length - j ∧ Hid (∀ q ∈ qs.take j, B q = true) ∧ Sep w0 wr L) (f 26)) (qs.length) (by kernel_rfl) ?atStart1 ?round1
      case' atStart1 => (try dsimp only [nthV])
      case' round1 =>
        intro gk f wr l hl hrel J1 K1 hJ1 hK1
        (try simp only [mask] at hl)
        generalize f 26 = u26 at hl hrel
        subst hl
        (try dsimp only at hrel)
      case atStart1 => exact ⟨0, rfl, Nat.zero_le _, rfl, Lib.hid (by simp), hs⟩
      case round1 =>
        clear hs
        obtain ⟨j, rfl, hj, rfl, HALL, hs⟩ := hrel
        by_cases hlt : j < qs.length
        · obtain ⟨b1, o1, e1, hb1, hc1⟩ := (HQ.out _ hs).at j hlt
          subst e1
          have x0 := hc1 0 (by decide)
          have x1 := hc1 1 (by decide)
          simp only [askR, Nat.add_zero, List.getElem?_toArray, List.getElem?_cons_zero, List.getElem?_cons_succ] at x0 x1
          have HB := Lib.hid (HSO.out qs[j] (List.getElem_mem hlt) H.out)
          obtain ⟨q, hqq⟩ : ∃ q, q = qs[j] := ⟨_, rfl⟩
          rw [← hqq] at x0 x1 HB
          have HQQ := Lib.hid hqq
          clear hc1 hqq
          replace hs := hs.newCells #[.int .i64 q.e, .func (.func q.fn) #[] q.caps] 65
          have hen := HEN.out q (by rw [HQQ.out]; exact List.getElem_mem hlt)
          cases hB : B q
          · have HE := Lib.hid (turn_stop H.out hlt HALL.out (by rw [← HQQ.out]; exact hB))
            rw [hB] at HB
            clear hB
            go_wp2_with fail
            refine (HB.out _ (hs.tail)).mono ?_
            rintro en w3 ⟨rfl, hb3⟩
            have y0 := cell_of (hs.cells 0 rfl) 0
            have y1 : w3.cell? ⟨wr.heap.size, 0, none⟩ = some (.int .i64 q.e) := (hb3.cell (p := ⟨wr.heap.size, 0, none⟩) (lt_of (hs.cells 0 rfl))).trans y0
            clear y0
            go_wp2_with fail
            go_ret
            exact ⟨by rw [HE.out, HQQ.out]; rfl, by rw [HE.out, pick_no (HQE.out _ (List.getElem_mem hlt))]; exact (hs.belowStep hb3).tail⟩
          · have HE := Lib.hid (show ∀ q' ∈ qs.take (j + 1), B q' = true from fun q' hq' => by
              rw [List.take_succ_eq_append_getElem hlt] at hq'
              rcases List.mem_append.1 hq' with h1 | h1
              · exact HALL.out q' h1
              · simp only [List.mem_singleton] at h1; subst h1; rw [← HQQ.out]; exact hB)
            rw [hB] at HB
            clear hB
            go_wp2_with fail
            refine (HB.out _ (hs.tail)).mono ?_
            rintro en w3 ⟨rfl, hb3⟩
            go_wp2_with fail
            refine Round.intro (qs.length - (j + 1)) ?measure2 (by kernel_rfl) (hJ1 _ _ _ ?rel2)
            case' rel2 => (try dsimp only [nthV])
            case measure2 => omega
            case rel2 => exact ⟨j + 1, by go_num, hlt, rfl, HE, (hs.belowStep hb3).tail⟩
        · obtain rfl : j = qs.length := by omega
          have HE := Lib.hid (turn_all (B := B) H.out (by have := HALL.out; rwa [List.take_length] at this))
          obtain ⟨v, hb, ho, _⟩ := hs.objUse i hi
          obtain ⟨g, cg, rfl, hg, _⟩ := ho.get m hm
          have hcb := cell_of hb 0
          simp only [List.getElem?_toArray, List.getElem?_cons_zero] at hcb
          have HD := Lib.hid (HDO.out H.out (by have := HALL.out; rwa [List.take_length] at this) _ g cg hs hb)
          clear hb ho
          go_wp2_with fail
          refine HD.out.mono ?_
          rintro en w3 ⟨⟨u, rfl⟩, hs3⟩
          go_wp2_with fail
          go_ret
          exact ⟨by rw [HE.out]; rfl, by rw [HE.out, pick_yes]; exact hs3⟩
end Go.Proofs.Ytlpfojpfepfdgaa
