/-
  Do: writes.
-/
import Derived.Test.YtpjbafpbgacnkaaDvDo1
set_option linter.unusedVariables false
set_option linter.unusedSimpArgs false
namespace Go.Mem
open Go Go.RowKit
theorem Sep.shortInts {k : IntKind} {E : TypeId} {g n cap : Nat} {zs : List Int} {w0 w : World} {L : List Thing} (h : Sep w0 w L) (i : Nat) (hi : L[i]? = some (intsT k E (.slice (some ⟨g, 0, none⟩) n cap) zs)) (m : Nat) (hm : m ≤ zs.length) :
    Sep w0 w (L.set i (intsT k E (.slice (some ⟨g, 0, none⟩) m cap) (zs.take m))) := by
  refine h.swap i hi fun S hS => ⟨S, ⟨by rw [hS.1]; rfl, ?_⟩, fun _ h => h⟩
  have ho := hS.2
  unfold IOwn at ho ⊢
  rcases ho.2 with ⟨e, _⟩ | ⟨g', cap', cur, e, h1, h2, h3, h4, h5, h6⟩
  · cases e
  · injection e with e1 e2 e3
    injection e1 with e1
    injection e1 with e1
    subst e1; subst e2; subst e3
    have hl : (zs.take m).length = m := by rw [List.length_take]; omega
    refine ⟨by simp, .inr ⟨g, cap, cur, by rw [hl], h1, h2, by rw [hl]; omega, h4, h5, ?_⟩⟩
    have := congrArg (List.take m) h6
    rw [List.take_take, Nat.mul_one, Nat.min_eq_left hm] at this
    rw [hl, Nat.mul_one, this, List.map_take]
theorem IOwn.capO {k : IntKind} {E : TypeId} {w : World} {v : Value} {zs : List Int} (h : IOwn k E w v zs) : ∀ a n c, v = .slice a n c → n ≤ c := by
  intro a n c e
  rcases h.2 with ⟨rfl, h0⟩ | ⟨g, cap, cur, rfl, hb, hgg, hnc, hcm, rest⟩
  · injection e with _ e1 e2; omega
  · injection e with _ e1 e2; omega
end Go.Mem
namespace Go.DevP
def stW (c e : Int) (sh : Bool) : List Int := if sh = true then (filled c e).take 511 else filled c e
end Go.DevP
namespace Go.Proofs.Ytpjbafpbgacnkaa
open Go Go.RowKit Go.Mem Go.DevP
attribute [local go_sem] Oper.semAt_some
section
variable {w0 w : World} {b rb : Nat} {d : Dv} {k n c e : Int} {sh : Bool} {pa : Option Addr} {pn pc : Nat}
set_option maxRecDepth 100000 in
set_option maxHeartbeats 2000000 in
theorem do_write (hs0 : Sep w0 w [devT b d, refT rb d]) (hg : d.Good) (hbig : d.Big 1000000) :
    Calls Try.prog 11 #[.pointer (some ⟨b, 0, none⟩), .pointer (some ⟨rb, 0, none⟩), stV 1 k n c e sh (.slice pa pn pc)] w fun en w' => DoP w0 w' b rb (d.writeD k (stW c e sh)) en := by
  obtain ⟨i0, hi0, hz0, hz1, hz2⟩ := info_parts Try.infoU8v
  have hs := hs0.newCells #[.int .i64 1, .int .i64 k, .int .i64 n, .int .u8 c, .int .u8 e, .bool sh, .slice pa pn pc] 35
  obtain ⟨B1, hB1⟩ : ∃ B1, B1 = w.heap.size := ⟨_, rfl⟩
  rw [← hB1] at hs
  have t0 := cell_of (hs.cells 0 rfl) 0
  have t1 := cell_of (hs.cells 0 rfl) 1
  have t2 := cell_of (hs.cells 0 rfl) 2
  have t3 := cell_of (hs.cells 0 rfl) 3
  have t4 := cell_of (hs.cells 0 rfl) 4
  have t5 := cell_of (hs.cells 0 rfl) 5
  have t6 := cell_of (hs.cells 0 rfl) 6
  simp only [List.getElem?_toArray, List.getElem?_cons_zero, List.getElem?_cons_succ] at t0 t1 t2 t3 t4 t5 t6
  clear hs0
  have HG := Lib.hid hg
  have HBIG := Lib.hid hbig
  clear hg hbig
  go_enter Try.func11, Try.ntmps11
  go_wp2_with fail
  rw [← hB1]
  clear hB1
  refine (filled_any c e _).mono ?_
  rintro en w1 ⟨a, fn, rfl, hf⟩
  replace hs := hs.join hf
  simp only [List.cons_append, List.nil_append] at hs
  clear hf t0 t1 t2 t3 t4 t5 t6
  obtain ⟨g, cg, eg, _⟩ := (hs.ints 0 rfl).get 0 (by rw [filled_len]; omega)
  injection eg with e1 e2 e3
  injection e1 with e1
  subst e1
  subst e3
  clear e2
  have t5 := cell_of (hs.cells 1 rfl) 5
  simp only [List.getElem?_toArray, List.getElem?_cons_zero, List.getElem?_cons_succ] at t5
  cases sh
  · obtain ⟨zs, hzs⟩ : ∃ zs, zs = stW c e false := ⟨_, rfl⟩
    have hzl : zs.length = 512 := by rw [hzs]; exact filled_len _ _
    rw [show filled c e = zs from hzs.symm] at hs
    have HZS := Lib.hid hzs
    have hp1 : 0 < zs.length := by omega
    have hp2 : zs.length ≤ 512 := by omega
    clear hzs hzl
    have hsl := hs.litInts .u8 5 [] (by decide)
    simp only [List.map_nil, List.length_nil] at hsl
    clear hs
    go_wp2_with (at_builtin; go_loud (refine wpList_appRd rfl (.tmp 33) (.tmp 34) 41 rfl 5 i0 _ 1 Try.underlying41 hi0 hz0 hz1 hz2 rfl _ [] .u8 _ zs hsl 0 rfl (hsl.rdInts 1 rfl) rfl rfl ?c1 ?c2 ?grow1))
    case c1 => (simp only [List.length_nil]; unfold maxLen; omega)
    case c2 => (simp only [List.length_nil]; omega)
    case grow1 =>
      intro v' w3 hs
      clear t5
      (try simp only [List.nil_append, List.set_cons_zero] at hs)
      obtain ⟨g', oc, eg', _, hcR, hfz⟩ := (hs.ints 0 rfl).get 0 (by omega)
      subst eg'
      have t1 := cell_of (hs.cells 2 rfl) 1
      simp only [List.getElem?_toArray, List.getElem?_cons_zero, List.getElem?_cons_succ] at t1
      have HW := Lib.hid (write_any hs (i := 3) rfl HG.out k (j := 0) (by decide) rfl (by omega) HBIG.out)
      clear hs hsl hcR hfz
      go_wp2_with fail
      refine HW.out.mono ?_
      rintro en w4 ⟨rfl, hs4⟩
      (try simp only [List.set_cons_succ, List.set_cons_zero] at hs4)
      obtain ⟨g2, oc2, eg2, _, hcR, hfz⟩ := (hs4.ints 0 rfl).get 0 (by omega)
      injection eg2 with eg2
      injection eg2 with eg2
      injection eg2 with eg2
      subst eg2
      have o0 := hcR 0 (by omega)
      have HSX := Lib.hid (fun X => hs4.setInts (k := .u8) (j := 0) 0 rfl X)
      have t9 : ∀ X : Int, (w4.setCell ⟨g', 0, none⟩ (.int .u8 X)).cell? ⟨B1, 1, none⟩ = some (.int .i64 k) := fun X => cell_of ((hs4.setInts (k := .u8) (j := 0) 0 rfl X).cells 2 rfl) 1
      obtain ⟨x0, hx0⟩ : ∃ x0, x0 = zs.getD 0 0 := ⟨_, rfl⟩
      rw [← hx0] at o0
      clear hs4 hcR HW hx0
      obtain ⟨E, hE⟩ : ∃ E, E = d.writeE k zs.length := ⟨_, rfl⟩
      have HE := Lib.hid hE
      rw [← hE]
      clear hE t1
      go_wp2_with fail
      refine (rwrite_any (HSX.out _) (i := 4) rfl HG.out k (j := 1) (by decide) rfl HBIG.out).mono ?_
      rintro en w5 ⟨rfl, hs6⟩
      (try simp only [List.set_cons_succ, List.set_cons_zero] at hs6)
      rw [← HE.out]
      have HS := Lib.hid hs6.tail.tail.tail
      clear hs6 HSX t9
      go_wp2_with fail
      go_ret
      exact ⟨rfl, by rw [← HZS.out]; exact HS.out⟩
  · have hfn : (511 : Int) ≤ fn := by
      have := (hs.ints 0 rfl).capO _ _ _ rfl
      omega
    have hsh := hs.shortInts 0 rfl 511 (by rw [filled_len]; omega)
    simp only [List.set_cons_zero] at hsh
    clear hs
    have hs := hsh
    clear hsh
    obtain ⟨zs, hzs⟩ : ∃ zs, zs = stW c e true := ⟨_, rfl⟩
    have hzl : zs.length = 511 := by rw [hzs]; unfold stW; rw [if_pos rfl, List.length_take, filled_len]; rfl
    rw [show (filled c e).take 511 = zs from hzs.symm] at hs
    have HZS := Lib.hid hzs
    have hp1 : 0 < zs.length := by omega
    have hp2 : zs.length ≤ 512 := by omega
    clear hzs hzl
    have hsl := hs.litInts .u8 5 [] (by decide)
    simp only [List.map_nil, List.length_nil] at hsl
    clear hs
    go_wp2_with (at_builtin; go_loud (refine wpList_appRd rfl (.tmp 33) (.tmp 34) 41 rfl 5 i0 _ 1 Try.underlying41 hi0 hz0 hz1 hz2 rfl _ [] .u8 _ zs hsl 0 rfl (hsl.rdInts 1 rfl) rfl rfl ?c3 ?c4 ?grow2))
    case c3 => (simp only [List.length_nil]; unfold maxLen; omega)
    case c4 => (simp only [List.length_nil]; omega)
    case grow2 =>
      intro v' w3 hs
      clear t5
      (try simp only [List.nil_append, List.set_cons_zero] at hs)
      obtain ⟨g', oc, eg', _, hcR, hfz⟩ := (hs.ints 0 rfl).get 0 (by omega)
      subst eg'
      have t1 := cell_of (hs.cells 2 rfl) 1
      simp only [List.getElem?_toArray, List.getElem?_cons_zero, List.getElem?_cons_succ] at t1
      have HW := Lib.hid (write_any hs (i := 3) rfl HG.out k (j := 0) (by decide) rfl (by omega) HBIG.out)
      clear hs hsl hcR hfz
      go_wp2_with fail
      refine HW.out.mono ?_
      rintro en w4 ⟨rfl, hs4⟩
      (try simp only [List.set_cons_succ, List.set_cons_zero] at hs4)
      obtain ⟨g2, oc2, eg2, _, hcR, hfz⟩ := (hs4.ints 0 rfl).get 0 (by omega)
      injection eg2 with eg2
      injection eg2 with eg2
      injection eg2 with eg2
      subst eg2
      have o0 := hcR 0 (by omega)
      have HSX := Lib.hid (fun X => hs4.setInts (k := .u8) (j := 0) 0 rfl X)
      have t9 : ∀ X : Int, (w4.setCell ⟨g', 0, none⟩ (.int .u8 X)).cell? ⟨B1, 1, none⟩ = some (.int .i64 k) := fun X => cell_of ((hs4.setInts (k := .u8) (j := 0) 0 rfl X).cells 2 rfl) 1
      obtain ⟨x0, hx0⟩ : ∃ x0, x0 = zs.getD 0 0 := ⟨_, rfl⟩
      rw [← hx0] at o0
      clear hs4 hcR HW hx0
      obtain ⟨E, hE⟩ : ∃ E, E = d.writeE k zs.length := ⟨_, rfl⟩
      have HE := Lib.hid hE
      rw [← hE]
      clear hE t1
      go_wp2_with fail
      refine (rwrite_any (HSX.out _) (i := 4) rfl HG.out k (j := 1) (by decide) rfl HBIG.out).mono ?_
      rintro en w5 ⟨rfl, hs6⟩
      (try simp only [List.set_cons_succ, List.set_cons_zero] at hs6)
      rw [← HE.out]
      have HS := Lib.hid hs6.tail.tail.tail
      clear hs6 HSX t9
      go_wp2_with fail
      go_ret
      exact ⟨rfl, by rw [← HZS.out]; exact HS.out⟩
end
end Go.Proofs.Ytpjbafpbgacnkaa
