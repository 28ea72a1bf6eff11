/-
  What the anchor does: stands, works.
-/
import Derived.Test.YtpjbafpbgacnkaaDvW7
import Derived.Test.YtpjbafpbgacnkaaDvW5
import Derived.Test.YtpjbafpbgacnkaaDvW4
set_option linter.unusedVariables false
set_option linter.unusedSimpArgs false
namespace Go.Mem
open Go Go.RowKit
theorem wpList_makeIntsG {P : Program} {w0 w : World} {L : List Thing} {ops : Array Oper} {rest : List Oper} {o : Oper} {a : Act} {Q : Exit → Act → World → Prop} (hgd : Region.wanted o (yielded ops a.tmps) = true) (x y : Operand) (t : TypeId)
    (ho : o.op = .makeSlice t x y) (e : TypeId) (i : TypeInfo) (k : IntKind) (bytes : Nat) (ht : P.underlying t = some (.slice e)) (hi : P.info? e = some i) (hz : i.zero = some (.int k 0))
    (hsize : i.size = 1) (hby : i.bytes = bytes) (n : Nat) (kl kc : IntKind) (hx : a.eval x = .int kl n) (hy : a.eval y = .int kc n) (hsep : Sep w0 w L)
    (h63 : n ≤ maxLen) (hbytes : bytes * n ≤ 281474976710656)
    (h : ∀ w' g, Sep w0 w' (intsT k e (.slice (some ⟨g, 0, none⟩) n n) (List.replicate n 0) :: L) → wpList P ops Q rest (a.put o.dst (.slice (some ⟨g, 0, none⟩) n n)) w') :
    wpList P ops Q (o :: rest) a w := by
  refine wpList_step fun K hK => ?_
  rw [if_pos hgd]
  have hb : (i.bytes : Int) * (n : Int) ≤ 281474976710656 := by
    rw [hby]
    have : ((bytes * n : Nat) : Int) ≤ 281474976710656 := by omega
    rwa [Int.natCast_mul] at this
  have h63' := h63
  simp only [maxLen] at h63'
  have hr := run_make (P := P) w t e i (.int k 0) ht hi hz kl kc (n : Int) (n : Int) (by omega) (Int.le_refl _) hb (by omega)
  simp only [Int.toNat_natCast, hsize, madeCells_int] at hr
  have hs := hsep.litInts k e (List.replicate n 0) (by simpa using h63)
  simp only [List.length_replicate] at hs
  unfold Oper.wp execOp
  simp only [ho, hx, hy, Sem.run_bind, Sem.run_pure, Result.andThen_ok, hr]
  exact hK _ _ (h _ _ hs)
end Go.Mem
namespace Go.DevP
open Go Go.Mem
def Dv.standsB (d : Dv) (k : Int) (want : List Int) : Bool := decide (d.readE k = 0) && ((strOfNums (d.readB k)).toList == (strOfNums want).toList)
theorem Dv.readB_len {d : Dv} (hg : d.Good) {k : Int} (h : d.readE k = 0) : (d.readB k).length = 512 := by
  unfold Dv.readE at h
  unfold Dv.readB
  split at h
  · cases h
  · next ho =>
    rw [if_neg ho]
    split at h
    · next hh =>
      rw [if_pos hh]
      have hm : d.B.getD k.toNat default ∈ d.B := by
        have : k.toNat < d.B.length := by simp [hasB] at hh; omega
        rw [List.getD_eq_getElem?_getD, List.getElem?_eq_getElem this]; exact List.getElem_mem this
      exact Blk.stands_len (hg.sure _ hm) (hg.loose _ hm)
    · cases h
theorem stands_yes {d : Dv} {k : Int} {want : List Int} (h1 : d.readE k = 0) (h2 : d.readB k = want) : d.standsB k want = true := by
  unfold Dv.standsB; rw [h1, h2]; simp
def wA : List Int := filled 65 65
def wB : List Int := filled 66 66
def wC : List Int := filled 67 67
theorem wA_len : wA.length = 512 := filled_len _ _
theorem wB_len : wB.length = 512 := filled_len _ _
theorem wC_len : wC.length = 512 := filled_len _ _
/-- Two blocks. -/
def Dv.two (s : List Int) (l : List (List Int)) (t : List Int) (m : List (List Int)) (left : Int) (off : Bool) : Dv := ⟨[⟨s, l⟩, ⟨t, m⟩], left, off⟩
theorem new_two : Dv.new 2 = Dv.two zeros [] zeros [] (-1) false := rfl
theorem two_good {s : List Int} {l : List (List Int)} {t : List Int} {m : List (List Int)} {left : Int} {off : Bool} (h1 : s.length = 512) (h2 : t.length = 512) (h3 : ∀ x ∈ l, x.length = 512) (h4 : ∀ x ∈ m, x.length = 512) (hl : -1 ≤ left ∧ left ≤ 9223372036854775807) : (Dv.two s l t m left off).Good := by
  refine ⟨by simp [Dv.two], by simp [Dv.two], hl, fun b hb => ?_, fun b hb x hx => ?_⟩
  · simp only [Dv.two, List.mem_cons, List.not_mem_nil, or_false] at hb
    rcases hb with rfl | rfl
    · exact h1
    · exact h2
  · simp only [Dv.two, List.mem_cons, List.not_mem_nil, or_false] at hb
    rcases hb with rfl | rfl
    · exact h3 x hx
    · exact h4 x hx
theorem two_big {s : List Int} {l : List (List Int)} {t : List Int} {m : List (List Int)} {left : Int} {off : Bool} (h3 : l.length ≤ 5) (h4 : m.length ≤ 5) : ∀ B ∈ (Dv.two s l t m left off).B, B.loose.length ≤ 1000000 := by
  intro b hb
  simp only [Dv.two, List.mem_cons, List.not_mem_nil, or_false] at hb
  rcases hb with rfl | rfl
  · exact Nat.le_trans h3 (by decide)
  · exact Nat.le_trans h4 (by decide)
section
variable {s : List Int} {l : List (List Int)} {t : List Int} {m : List (List Int)} {x : List Int}
theorem two_w0 (hx : x.length = 512) : (Dv.two s l t m (-1) false).writeE 0 x.length = 0 ∧ (Dv.two s l t m (-1) false).writeD 0 x = Dv.two s (l ++ [x]) t m (-1) false := by
  unfold Dv.two Dv.writeE Dv.writeD Dv.mayW; rw [hx]; exact ⟨rfl, rfl⟩
theorem two_w1 (hx : x.length = 512) : (Dv.two s l t m (-1) false).writeE 1 x.length = 0 ∧ (Dv.two s l t m (-1) false).writeD 1 x = Dv.two s l t (m ++ [x]) (-1) false := by
  unfold Dv.two Dv.writeE Dv.writeD Dv.mayW; rw [hx]; exact ⟨rfl, rfl⟩
theorem two_wl (hx : x.length = 512) : (Dv.two s l t m 1 false).writeE 0 x.length = 0 ∧ (Dv.two s l t m 1 false).writeD 0 x = Dv.two s (l ++ [x]) t m 0 false := by
  unfold Dv.two Dv.writeE Dv.writeD Dv.mayW; rw [hx]; exact ⟨rfl, rfl⟩
theorem two_wo (_ : x.length = 512) : (Dv.two s l t m 0 true).writeE 0 x.length = 8 ∧ (Dv.two s l t m 0 true).writeD 0 x = Dv.two s l t m 0 true := ⟨rfl, rfl⟩
theorem two_fl (x : List Int) : (Dv.two s [x] t [] (-1) false).flushE = 0 ∧ (Dv.two s [x] t [] (-1) false).flushD = Dv.two x [] t [] (-1) false := ⟨rfl, rfl⟩
theorem two_fo : (Dv.two s l t m 0 false).flushE = 8 ∧ (Dv.two s l t m 0 false).flushD = Dv.two s l t m 0 true := ⟨rfl, rfl⟩
theorem two_off {left : Int} : onE (Dv.two s l t m left false).off = 0 ∧ (Dv.two s l t m left false).offD = Dv.two s l t m left true := ⟨rfl, rfl⟩
theorem two_arm : onE (Dv.two s l t m (-1) false).off = 0 ∧ (Dv.two s l t m (-1) false).armD 1 = Dv.two s l t m 1 false := ⟨rfl, rfl⟩
theorem two_on1 (x y z : List Int) : (Dv.two s [x, y] t [z] (-1) true).comesE = 0 ∧ (Dv.two s [x, y] t [z] (-1) true).comesD [1, 0] = Dv.two x [] t [] (-1) false := ⟨rfl, rfl⟩
theorem two_on2 (x : List Int) : (Dv.two s [x] t [] 0 true).comesE = 0 ∧ (Dv.two s [x] t [] 0 true).comesD [] = Dv.two s [] t [] (-1) false := ⟨rfl, rfl⟩
theorem two_ro {left : Int} : (Dv.two s l t m left true).readE 0 = 8 := rfl
theorem two_s0 {left : Int} : (Dv.two s [] t m left false).standsB 0 s = true := stands_yes rfl rfl
theorem two_s1 {left : Int} : (Dv.two s l t [] left false).standsB 1 t = true := stands_yes rfl rfl
theorem two_s2 {left : Int} (x y : List Int) : (Dv.two s [x, y] t m left false).standsB 0 y = true := stands_yes rfl rfl
end
end Go.DevP
namespace Go.Proofs.Ytpjbafpbgacnkaa
open Go Go.RowKit Go.Mem Go.DevP
attribute [local go_sem] Oper.semAt_some
section
variable {w0 w : World} {L : List Thing} {i b : Nat} {d : Dv}
theorem stands_any (hs : Sep w0 w L) (hi : L[i]? = some (devT b d)) (hg : d.Good) (k : Int) {j : Nat} {v : Value} {want : List Int} (hj : L[j]? = some (intsT .u8 5 v want)) (h0 : 0 < want.length) :
    Calls Try.prog 19 #[.pointer (some ⟨b, 0, none⟩), .int .i64 k, v] w fun en w' => en = .returned (.bool (d.standsB k want)) ∧ Sep w0 w' L := by
  have HG := Lib.hid hg
  have HR := Lib.hid (read_any hs hi hg k)
  have HJ := Lib.hid hj
  have H0 := Lib.hid h0
  clear hs hi hg hj h0
  by_cases he : d.readE k = 0
  · have HB := Lib.hid (show 0 < (d.readB k).length by rw [Dv.readB_len HG.out he]; decide)
    have HS := Lib.hid (show d.standsB k want = ((strOfNums (d.readB k)).toList == (strOfNums want).toList) by simp [Dv.standsB, he])
    rw [he] at HR
    obtain ⟨x, hx⟩ : ∃ x, x = d.readB k := ⟨_, rfl⟩
    rw [← hx] at HR HB HS
    clear hx he
    go_enter Try.func19, Try.ntmps19
    go_wp2_with fail
    refine HR.out.mono ?_
    rintro en w1 ⟨r, rfl, hs⟩
    have hc1 := conv_rd (hs.rdInts (k := .u8) (E := 5) (v := r) (zs := x) 0 rfl) HB.out
    have hc2 := conv_rd (hs.rdInts (k := .u8) (E := 5) (v := v) (zs := want) (j + 1) HJ.out) H0.out
    have HSS := Lib.hid hs.tail
    obtain ⟨s1, hs1⟩ : ∃ s1, s1 = strOfNums x := ⟨_, rfl⟩
    obtain ⟨s2, hs2⟩ : ∃ s2, s2 = strOfNums want := ⟨_, rfl⟩
    rw [← hs1] at hc1 HS
    rw [← hs2] at hc2 HS
    clear hs hs1 hs2
    go_wp2_with fail
    go_ret
    exact ⟨by rw [HS.out]; rfl, HSS.out⟩
  · have HS := Lib.hid (show d.standsB k want = false by simp [Dv.standsB, he])
    have hf : (d.readE k == 0) = false := by simp [he]
    clear he
    obtain ⟨e, hee⟩ : ∃ e, e = d.readE k := ⟨_, rfl⟩
    rw [← hee] at HR hf
    clear hee
    go_enter Try.func19, Try.ntmps19
    go_wp2_with fail
    refine HR.out.mono ?_
    rintro en w1 ⟨r, rfl, hs⟩
    have HSS := Lib.hid hs.tail
    clear hs
    go_wp2_with fail
    go_ret
    exact ⟨by rw [HS.out]; rfl, HSS.out⟩
end
set_option maxRecDepth 100000 in
theorem works_any (w : World) : Calls Try.prog 8 #[] w fun en w' => en = .returned (.bool true) ∧ Below w.heap.size w w' := by
  obtain ⟨i0, hi0, hz0, hz1, hz2⟩ := info_parts Try.infoU8v
  go_enter Try.func8, Try.ntmps8
  go_wp2_with fail
  refine (new_any 2 _).mono ?_
  rintro en w1 (⟨h, -⟩ | ⟨N, b, hN, h1, h2, rfl, hs⟩)
  · omega
  obtain rfl : N = 2 := by omega
  rw [new_two] at hs
  clear hN h1 h2
  go_wp2_with fail
  refine (size_any hs (i := 0) rfl).mono ?_
  rintro en w2 ⟨rfl, rfl⟩
  rw [show ((Dv.two zeros [] zeros [] (-1) false).B.length : Int) = 2 from rfl]
  go_wp2_with fail
  refine (power_any hs (i := 0) rfl).mono ?_
  rintro en w2 ⟨rfl, rfl⟩
  rw [show (!(Dv.two zeros [] zeros [] (-1) false).off) = true from rfl]
  go_wp2_with fail
  go_wp2_with fail
  refine (full_any 65 _).mono ?_
  rintro en1 w1 ⟨fa, fn, rfl, hf⟩
  rw [show filled 65 65 = wA from rfl] at hf
  replace hs := hs.join hf
  simp only [List.cons_append, List.nil_append] at hs
  clear hf
  go_wp2_with fail
  refine (write_any hs (i := 1) rfl (two_good (by simp only [zeros_len, wA_len, wB_len, wC_len]) (by simp only [zeros_len, wA_len, wB_len, wC_len]) (by simp [wA_len, wB_len, wC_len]) (by simp [wA_len, wB_len, wC_len]) (by decide)) 0 (j := 0) (by decide) rfl (by rw [wA_len]; omega) (two_big (by decide) (by decide))).mono ?_
  rintro en2 w2 ⟨rfl, hs2⟩
  rw [(two_w0 wA_len).2] at hs2
  rw [(two_w0 wA_len).1]
  clear hs
  have hs := hs2.tail
  clear hs2
  (try simp only [List.set_cons_succ, List.set_cons_zero, List.tail_cons, List.nil_append, List.cons_append] at hs)
  go_wp2_with fail
  refine (flush_any hs (i := 0) rfl (two_good (by simp only [zeros_len, wA_len, wB_len, wC_len]) (by simp only [zeros_len, wA_len, wB_len, wC_len]) (by simp [wA_len, wB_len, wC_len]) (by simp [wA_len, wB_len, wC_len]) (by decide))).mono ?_
  rintro en2 w2 ⟨rfl, hs2⟩
  rw [(two_fl wA).2] at hs2
  rw [(two_fl wA).1]
  clear hs
  have hs := hs2
  clear hs2
  (try simp only [List.set_cons_succ, List.set_cons_zero] at hs)
  go_wp2_with fail
  go_wp2_with fail
  refine (full_any 66 _).mono ?_
  rintro en1 w1 ⟨fa, fn, rfl, hf⟩
  rw [show filled 66 66 = wB from rfl] at hf
  replace hs := hs.join hf
  simp only [List.cons_append, List.nil_append] at hs
  clear hf
  go_wp2_with fail
  refine (write_any hs (i := 1) rfl (two_good (by simp only [zeros_len, wA_len, wB_len, wC_len]) (by simp only [zeros_len, wA_len, wB_len, wC_len]) (by simp [wA_len, wB_len, wC_len]) (by simp [wA_len, wB_len, wC_len]) (by decide)) 0 (j := 0) (by decide) rfl (by rw [wB_len]; omega) (two_big (by decide) (by decide))).mono ?_
  rintro en2 w2 ⟨rfl, hs2⟩
  rw [(two_w0 wB_len).2] at hs2
  rw [(two_w0 wB_len).1]
  clear hs
  have hs := hs2.tail
  clear hs2
  (try simp only [List.set_cons_succ, List.set_cons_zero, List.tail_cons, List.nil_append, List.cons_append] at hs)
  go_wp2_with fail
  go_wp2_with fail
  refine (full_any 67 _).mono ?_
  rintro en1 w1 ⟨fa, fn, rfl, hf⟩
  rw [show filled 67 67 = wC from rfl] at hf
  replace hs := hs.join hf
  simp only [List.cons_append, List.nil_append] at hs
  clear hf
  go_wp2_with fail
  refine (write_any hs (i := 1) rfl (two_good (by simp only [zeros_len, wA_len, wB_len, wC_len]) (by simp only [zeros_len, wA_len, wB_len, wC_len]) (by simp [wA_len, wB_len, wC_len]) (by simp [wA_len, wB_len, wC_len]) (by decide)) 0 (j := 0) (by decide) rfl (by rw [wC_len]; omega) (two_big (by decide) (by decide))).mono ?_
  rintro en2 w2 ⟨rfl, hs2⟩
  rw [(two_w0 wC_len).2] at hs2
  rw [(two_w0 wC_len).1]
  clear hs
  have hs := hs2.tail
  clear hs2
  (try simp only [List.set_cons_succ, List.set_cons_zero, List.tail_cons, List.nil_append, List.cons_append] at hs)
  go_wp2_with fail
  go_wp2_with fail
  refine (full_any 65 _).mono ?_
  rintro en1 w1 ⟨fa, fn, rfl, hf⟩
  rw [show filled 65 65 = wA from rfl] at hf
  replace hs := hs.join hf
  simp only [List.cons_append, List.nil_append] at hs
  clear hf
  go_wp2_with fail
  refine (write_any hs (i := 1) rfl (two_good (by simp only [zeros_len, wA_len, wB_len, wC_len]) (by simp only [zeros_len, wA_len, wB_len, wC_len]) (by simp [wA_len, wB_len, wC_len]) (by simp [wA_len, wB_len, wC_len]) (by decide)) 1 (j := 0) (by decide) rfl (by rw [wA_len]; omega) (two_big (by decide) (by decide))).mono ?_
  rintro en2 w2 ⟨rfl, hs2⟩
  rw [(two_w1 wA_len).2] at hs2
  rw [(two_w1 wA_len).1]
  clear hs
  have hs := hs2.tail
  clear hs2
  (try simp only [List.set_cons_succ, List.set_cons_zero, List.tail_cons, List.nil_append, List.cons_append] at hs)
  go_wp2_with fail
  go_wp2_with fail
  refine (full_any 67 _).mono ?_
  rintro en1 w1 ⟨fa, fn, rfl, hf⟩
  rw [show filled 67 67 = wC from rfl] at hf
  replace hs := hs.join hf
  simp only [List.cons_append, List.nil_append] at hs
  clear hf
  go_wp2_with fail
  refine (stands_any hs (i := 1) rfl (two_good (by simp only [zeros_len, wA_len, wB_len, wC_len]) (by simp only [zeros_len, wA_len, wB_len, wC_len]) (by simp [wA_len, wB_len, wC_len]) (by simp [wA_len, wB_len, wC_len]) (by decide)) 0 (j := 0) rfl (by rw [wC_len]; decide)).mono ?_
  rintro en2 w2 ⟨rfl, hs2⟩
  rw [two_s2 wB wC]
  clear hs
  have hs := hs2.tail
  clear hs2
  (try simp only [List.tail_cons] at hs)
  go_wp2_with fail
  refine (off_any hs (i := 0) rfl).mono ?_
  rintro en2 w2 ⟨rfl, hs2⟩
  rw [(two_off).2] at hs2
  rw [(two_off).1]
  clear hs
  have hs := hs2
  clear hs2
  (try simp only [List.set_cons_succ, List.set_cons_zero] at hs)
  go_wp2_with fail
  refine (read_any hs (i := 0) rfl (two_good (by simp only [zeros_len, wA_len, wB_len, wC_len]) (by simp only [zeros_len, wA_len, wB_len, wC_len]) (by simp [wA_len, wB_len, wC_len]) (by simp [wA_len, wB_len, wC_len]) (by decide)) 0).mono ?_
  rintro en2 w2 ⟨r, rfl, hs2⟩
  rw [two_ro]
  clear hs
  have hs := hs2.tail
  clear hs2
  (try simp only [List.tail_cons] at hs)
  go_wp2_with fail
  have hl := hs.litInts .i64 3 [1, 0] (by decide)
  simp only [List.map_cons, List.map_nil, List.length_cons, List.length_nil] at hl
  refine (comes_any hl (i := 1) rfl (two_good (by simp only [zeros_len, wA_len, wB_len, wC_len]) (by simp only [zeros_len, wA_len, wB_len, wC_len]) (by simp [wA_len, wB_len, wC_len]) (by simp [wA_len, wB_len, wC_len]) (by decide)) (two_big (by decide) (by decide)) [1, 0] _ 2 2 (by decide) (fun W R' h hm => h.rdMem (hm _ (mem_erase (j := 0) rfl (by decide))))).mono ?_
  rintro en2 w3 ⟨rfl, hs2⟩
  rw [(two_on1 wB wC wA).1]
  rw [(two_on1 wB wC wA).2] at hs2
  clear hs hl
  have hs := hs2.tail
  clear hs2
  (try simp only [List.set_cons_succ, List.set_cons_zero, List.tail_cons] at hs)
  go_wp2_with fail
  go_wp2_with fail
  refine (full_any 66 _).mono ?_
  rintro en1 w1 ⟨fa, fn, rfl, hf⟩
  rw [show filled 66 66 = wB from rfl] at hf
  replace hs := hs.join hf
  simp only [List.cons_append, List.nil_append] at hs
  clear hf
  go_wp2_with fail
  refine (stands_any hs (i := 1) rfl (two_good (by simp only [zeros_len, wA_len, wB_len, wC_len]) (by simp only [zeros_len, wA_len, wB_len, wC_len]) (by simp [wA_len, wB_len, wC_len]) (by simp [wA_len, wB_len, wC_len]) (by decide)) 0 (j := 0) rfl (by rw [wB_len]; decide)).mono ?_
  rintro en2 w2 ⟨rfl, hs2⟩
  rw [two_s0]
  clear hs
  have hs := hs2.tail
  clear hs2
  (try simp only [List.tail_cons] at hs)
  go_wp2_with (at_make; go_loud (refine wpList_makeIntsG (by rfl) _ _ 41 rfl 5 i0 .u8 1 Try.underlying41 hi0 hz0 hz1 hz2 512 .i64 .i64 rfl rfl hs ?m1 ?m2 ?m3))
  case m1 => (try simp); (try simp only [maxLen]); (try omega)
  case m2 => (try simp); (try simp only [maxLen]); (try omega)
  case m3 =>
    intro w9 g hs2
    clear hs
    have hs : Sep w w9 (intsT .u8 5 (.slice (some ⟨g, 0, none⟩) 512 512) zeros :: [devT b (Dv.two wB [] zeros [] (-1) false)]) := hs2
    clear hs2
    go_wp2_with fail
    refine (stands_any hs (i := 1) rfl (two_good (by simp only [zeros_len, wA_len, wB_len, wC_len]) (by simp only [zeros_len, wA_len, wB_len, wC_len]) (by simp [wA_len, wB_len, wC_len]) (by simp [wA_len, wB_len, wC_len]) (by decide)) 1 (j := 0) rfl (by rw [zeros_len]; decide)).mono ?_
    rintro en2 w2 ⟨rfl, hs2⟩
    rw [two_s1]
    clear hs
    have hs := hs2.tail
    clear hs2
    (try simp only [List.tail_cons] at hs)
    go_wp2_with fail
    refine (arm_any hs (i := 0) rfl 1).mono ?_
    rintro en2 w2 ⟨rfl, hs2⟩
    rw [(two_arm).2] at hs2
    rw [(two_arm).1]
    clear hs
    have hs := hs2
    clear hs2
    (try simp only [List.set_cons_succ, List.set_cons_zero] at hs)
    go_wp2_with fail
    go_wp2_with fail
    refine (full_any 65 _).mono ?_
    rintro en1 w1 ⟨fa, fn, rfl, hf⟩
    rw [show filled 65 65 = wA from rfl] at hf
    replace hs := hs.join hf
    simp only [List.cons_append, List.nil_append] at hs
    clear hf
    go_wp2_with fail
    refine (write_any hs (i := 1) rfl (two_good (by simp only [zeros_len, wA_len, wB_len, wC_len]) (by simp only [zeros_len, wA_len, wB_len, wC_len]) (by simp [wA_len, wB_len, wC_len]) (by simp [wA_len, wB_len, wC_len]) (by decide)) 0 (j := 0) (by decide) rfl (by rw [wA_len]; omega) (two_big (by decide) (by decide))).mono ?_
    rintro en2 w2 ⟨rfl, hs2⟩
    rw [(two_wl wA_len).2] at hs2
    rw [(two_wl wA_len).1]
    clear hs
    have hs := hs2.tail
    clear hs2
    (try simp only [List.set_cons_succ, List.set_cons_zero, List.tail_cons, List.nil_append, List.cons_append] at hs)
    go_wp2_with fail
    refine (flush_any hs (i := 0) rfl (two_good (by simp only [zeros_len, wA_len, wB_len, wC_len]) (by simp only [zeros_len, wA_len, wB_len, wC_len]) (by simp [wA_len, wB_len, wC_len]) (by simp [wA_len, wB_len, wC_len]) (by decide))).mono ?_
    rintro en2 w2 ⟨rfl, hs2⟩
    rw [(two_fo).2] at hs2
    rw [(two_fo).1]
    clear hs
    have hs := hs2
    clear hs2
    (try simp only [List.set_cons_succ, List.set_cons_zero] at hs)
    go_wp2_with fail
    go_wp2_with fail
    refine (full_any 67 _).mono ?_
    rintro en1 w1 ⟨fa, fn, rfl, hf⟩
    rw [show filled 67 67 = wC from rfl] at hf
    replace hs := hs.join hf
    simp only [List.cons_append, List.nil_append] at hs
    clear hf
    go_wp2_with fail
    refine (write_any hs (i := 1) rfl (two_good (by simp only [zeros_len, wA_len, wB_len, wC_len]) (by simp only [zeros_len, wA_len, wB_len, wC_len]) (by simp [wA_len, wB_len, wC_len]) (by simp [wA_len, wB_len, wC_len]) (by decide)) 0 (j := 0) (by decide) rfl (by rw [wC_len]; omega) (two_big (by decide) (by decide))).mono ?_
    rintro en2 w2 ⟨rfl, hs2⟩
    rw [(two_wo wC_len).2] at hs2
    rw [(two_wo wC_len).1]
    clear hs
    have hs := hs2.tail
    clear hs2
    (try simp only [List.set_cons_succ, List.set_cons_zero, List.tail_cons, List.nil_append, List.cons_append] at hs)
    go_wp2_with fail
    refine (comes_any hs (i := 0) rfl (two_good (by simp only [zeros_len, wA_len, wB_len, wC_len]) (by simp only [zeros_len, wA_len, wB_len, wC_len]) (by simp [wA_len, wB_len, wC_len]) (by simp [wA_len, wB_len, wC_len]) (by decide)) (two_big (by decide) (by decide)) [] none 0 0 (by decide) (fun W R' h _ => Rd.nil _ _)).mono ?_
    rintro en2 w2 ⟨rfl, hs2⟩
    rw [(two_on2 wA).2] at hs2
    rw [(two_on2 wA).1]
    clear hs
    have hs := hs2
    clear hs2
    (try simp only [List.set_cons_succ, List.set_cons_zero] at hs)
    go_wp2_with fail
    go_wp2_with fail
    refine (full_any 66 _).mono ?_
    rintro en1 w1 ⟨fa, fn, rfl, hf⟩
    rw [show filled 66 66 = wB from rfl] at hf
    replace hs := hs.join hf
    simp only [List.cons_append, List.nil_append] at hs
    clear hf
    go_wp2_with fail
    refine (stands_any hs (i := 1) rfl (two_good (by simp only [zeros_len, wA_len, wB_len, wC_len]) (by simp only [zeros_len, wA_len, wB_len, wC_len]) (by simp [wA_len, wB_len, wC_len]) (by simp [wA_len, wB_len, wC_len]) (by decide)) 0 (j := 0) rfl (by rw [wB_len]; decide)).mono ?_
    rintro en2 w2 ⟨rfl, hs2⟩
    rw [two_s0]
    clear hs
    have hs := hs2.tail
    clear hs2
    (try simp only [List.tail_cons] at hs)
    go_wp2_with fail
    go_ret
    exact ⟨rfl, hs.below⟩
end Go.Proofs.Ytpjbafpbgacnkaa
