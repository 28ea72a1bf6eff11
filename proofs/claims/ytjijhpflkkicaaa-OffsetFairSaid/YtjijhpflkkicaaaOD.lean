/-
 Ways of dues, rings: Find, ring, Least. Plain, walked.
-/
import Derived.Test.YtjijhpflkkicaaaOC
import Derived.Laws.EntriesVeiled
import Derived.Test.YtjijhpflkkicaaaMap
set_option linter.unusedVariables false
set_option linter.unusedSimpArgs false
namespace Go.OffP
open Go Go.Mem Go.MoneyP Go.BuildP
def fK (l : List Du) (k : Nat) : Int := (l.getD k default).f
/-- An open due from one bank to another. -/
structure EdgeD (l : List Du) (k : Nat) (a b : Int) : Prop where
 lt : k < l.length
 opn : (l[k]).h = false
 fr : (l[k]).f = a
 to : (l[k]).t = b
theorem EdgeD.fK {l : List Du} {k : Nat} {a b : Int} (h : EdgeD l k a b) : fK l k = a := by
 unfold OffP.fK
 rw [List.getD_eq_getElem?_getD, List.getElem?_eq_getElem h.lt]
 exact h.fr
/-- A way of open dues. -/
def Way (l : List Du) : Int → List Nat → Int → Prop
 | a, [], b => a = b
 | a, k :: ks, b => ∃ c, EdgeD l k a c ∧ Way l c ks b
theorem Way.cat {l : List Du} : ∀ {a : Int} {p : List Nat} {b : Int} {q : List Nat} {c : Int}, Way l a p b → Way l b q c → Way l a (p ++ q) c
 | _, [], _, _, _, h, k => by cases h; exact k
 | _, _ :: _, _, _, _, ⟨m, e, h⟩, k => ⟨m, e, h.cat k⟩
theorem Way.one {l : List Du} {a : Int} {k : Nat} {b : Int} (h : EdgeD l k a b) : Way l a [k] b := ⟨b, h, rfl⟩
theorem Way.from {l : List Du} : ∀ {p : List Nat} {a b : Int} (i : Nat) (hi : i < p.length), Way l a p b → Way l (OffP.fK l p[i]) (p.drop i) b
 | _ :: _, _, _, 0, _, ⟨m, e, h⟩ => ⟨m, by rw [List.getElem_cons_zero, e.fK]; exact e, h⟩
 | _ :: _, _, _, i + 1, hi, ⟨m, e, h⟩ => by
  rw [List.getElem_cons_succ, List.drop_succ_cons]
  exact Way.from i (by simpa using hi) h
theorem Way.mem {l : List Du} : ∀ {p : List Nat} {a b : Int}, Way l a p b → ∀ k ∈ p, ∃ c d, EdgeD l k c d
 | [], _, _, _, k, hk => by simp at hk
 | _ :: _, _, _, ⟨m, e, h⟩, k, hk => by
  rcases List.mem_cons.1 hk with rfl | hk
  ·exact ⟨_, _, e⟩
  ·exact h.mem k hk
theorem Way.last {l : List Du} : ∀ {p : List Nat} {a b : Int}, Way l a p b → ∀ (hp : p ≠ []), ∃ c, EdgeD l (p.getLast hp) c b
 | [k], _, _, ⟨m, e, h⟩, _ => by cases h; exact ⟨_, e⟩
 | _ :: k :: ks, _, _, ⟨m, _, h⟩, hp => by
  obtain ⟨c, hc⟩ := h.last (p := k :: ks) (by simp)
  exact ⟨c, by rw [List.getLast_cons (by simp)]; exact hc⟩
/-- A ring. -/
structure RingD (l : List Du) (p : List Nat) : Prop where
 ne : p ≠ []
 way : ∃ a, Way l a p a
 nd : (p.map (fK l)).Nodup
/-- No way goes round through these banks. -/
def NoRing (l : List Du) (D : List Bool) : Prop := ∀ (a : Int) (p : List Nat), 0 ≤ a → a < 16 → D.getD a.toNat false = true → p ≠ [] → ¬ Way l a p a
theorem NoRing.start (l : List Du) : NoRing l (List.replicate 16 false) := by
 intro a p h0 h1 h2
 rw [List.getD_eq_getElem?_getD, List.getElem?_replicate] at h2
 split at h2 <;> simp at h2
/-- One more bank is done. -/
theorem NoRing.more {l : List Du} {D : List Bool} {b : Nat} (h : NoRing l D) (hl : ∀ d ∈ l, MayD d) (hD : D.length = 16) (hb : b < 16) (hs : ∀ (k : Nat) (c : Int), EdgeD l k b c → D.getD c.toNat false = true) : NoRing l (D.set b true) := by
 intro a p h0 h1 h2 hp hw
 by_cases hab : a.toNat = b
 ·obtain rfl : a = (b : Int) := by omega
  cases p with
  | nil => exact hp rfl
  | cons k ks =>
   obtain ⟨c, e, hw⟩ := hw
   have hm := hl _ (List.getElem_mem e.lt)
   have ht := e.to
   exact h c (ks ++ [k]) (by rw [← ht]; exact hm.t0) (by rw [← ht]; exact hm.t1) (hs k c e) (by simp) (hw.cat (Way.one e))
 ·refine h a p h0 h1 ?_ hp hw
  rw [List.getD_eq_getElem?_getD, List.getElem?_set, if_neg (fun e => hab e.symm), ← List.getD_eq_getElem?_getD] at h2
  exact h2
/-- No way goes round. -/
def Acyc (l : List Du) : Prop := ∀ (a : Int) (p : List Nat), p ≠ [] → ¬ Way l a p a
theorem NoRing.all {l : List Du} {D : List Bool} (h : NoRing l D) (hl : ∀ d ∈ l, MayD d) (hD : ∀ b, b < 16 → D.getD b false = true) : Acyc l := by
 intro a p hp hw
 obtain ⟨k, ks, rfl⟩ : ∃ k ks, p = k :: ks := by
  cases p with
  | nil => exact absurd rfl hp
  | cons k ks => exact ⟨k, ks, rfl⟩
 have h2 := hw
 obtain ⟨c, e, _⟩ := h2
 have hm := hl _ (List.getElem_mem e.lt)
 have hf := e.fr
 exact h a (k :: ks) (by rw [← hf]; exact hm.f0) (by rw [← hf]; exact hm.f1) (hD _ (by have := hm.f0; have := hm.f1; omega)) hp hw
theorem Acyc.noRing {l : List Du} (h : Acyc l) (p : List Nat) : ¬ RingD l p := fun hp => by
 obtain ⟨a, hw⟩ := hp.way
 exact h a p hp.ne hw
theorem nodup_lt : ∀ (n : Nat) (P : List Int), P.Nodup → (∀ w ∈ P, 0 ≤ w ∧ w < n) → P.length ≤ n
 | 0, [], _, _ => Nat.le_refl _
 | 0, w :: P, _, h => by have := h w (by simp); omega
 | n + 1, P, hd, h => by
  by_cases hm : (n : Int) ∈ P
  ·have h1 := nodup_lt n (P.erase (n : Int)) (hd.erase _) fun w hw => by
    have h2 := h w (List.mem_of_mem_erase hw)
    have h3 : w ≠ n := fun e => by subst e; exact (List.Nodup.not_mem_erase hd) hw
    omega
   rw [List.length_erase_of_mem hm] at h1
   omega
  ·have := nodup_lt n P hd fun w hw => by
    have h2 := h w hw
    have h3 : w ≠ n := fun e => hm (e ▸ hw)
    omega
   omega
/-- A way on which no bank comes twice, with its end. -/
structure GoD (l : List Du) (p : List Nat) (b : Nat) : Prop where
 b16 : b < 16
 way : ∃ a, Way l a p b
 nd : (p.map (fK l) ++ [(b : Int)]).Nodup
theorem GoD.start (l : List Du) {b : Nat} (hb : b < 16) : GoD l [] b := ⟨hb, ⟨b, rfl⟩, by simp⟩
theorem GoD.len {l : List Du} {p : List Nat} {b : Nat} (h : GoD l p b) (hl : ∀ d ∈ l, MayD d) : p.length < 16 := by
 have h1 := nodup_lt 16 _ h.nd fun w hw => by
  rcases List.mem_append.1 hw with hw | hw
  ·obtain ⟨k, hk, rfl⟩ := List.mem_map.1 hw
   obtain ⟨a, hw⟩ := h.way
   obtain ⟨c, d, e⟩ := hw.mem k hk
   have hm := hl _ (List.getElem_mem e.lt)
   rw [e.fK, ← e.fr]
   exact ⟨hm.f0, hm.f1⟩
  ·rw [List.mem_singleton.1 hw]; have := h.b16; omega
 rw [List.length_append, List.length_map, List.length_singleton] at h1
 omega
theorem GoD.mem {l : List Du} {p : List Nat} {b : Nat} (h : GoD l p b) : ∀ k ∈ p, k < l.length := fun k hk => by
 obtain ⟨a, hw⟩ := h.way
 obtain ⟨c, d, e⟩ := hw.mem k hk
 exact e.lt
/-- On to the next bank .. -/
theorem GoD.next {l : List Du} {p : List Nat} {b c k : Nat} (h : GoD l p b) (e : EdgeD l k b c) (hc : c < 16) (hn : ∀ j ∈ p ++ [k], fK l j ≠ c) : GoD l (p ++ [k]) c := by
 obtain ⟨a, hw⟩ := h.way
 refine ⟨hc, ⟨a, hw.cat (Way.one e)⟩, ?_⟩
 rw [List.map_append, List.map_singleton, e.fK, List.nodup_append]
 refine ⟨h.nd, by simp, fun x hx y hy => ?_⟩
 rw [List.mem_singleton] at hy
 subst hy
 rcases List.mem_append.1 hx with hx | hx
 ·obtain ⟨j, hj, rfl⟩ := List.mem_map.1 hx
  exact hn j (List.mem_append_left _ hj)
 ·rw [List.mem_singleton.1 hx]
  have := hn k (by simp)
  rw [e.fK] at this
  exact this
/-- .. or round. -/
theorem GoD.ring {l : List Du} {p : List Nat} {b k : Nat} {c : Int} (h : GoD l p b) (e : EdgeD l k b c) (i : Nat) (hi : i < (p ++ [k]).length) (hc : fK l (p ++ [k])[i] = c) : RingD l ((p ++ [k]).drop i) := by
 obtain ⟨a, hw⟩ := h.way
 refine ⟨fun e => ?_, ⟨c, ?_⟩, ?_⟩
 ·have := congrArg List.length e
  rw [List.length_drop, List.length_nil] at this
  omega
 ·have := Way.from i hi (hw.cat (Way.one e))
  rw [hc] at this
  exact this
 ·rw [List.map_drop]
  refine List.Nodup.sublist (List.drop_sublist _ _) ?_
  rw [List.map_append, List.map_singleton, e.fK]
  exact h.nd
theorem RingD.mem {l : List Du} {p : List Nat} (h : RingD l p) : ∀ k ∈ p, k < l.length := fun k hk => by
 obtain ⟨a, hw⟩ := h.way
 obtain ⟨c, d, e⟩ := hw.mem k hk
 exact e.lt
theorem RingD.len {l : List Du} {p : List Nat} (h : RingD l p) (hl : ∀ d ∈ l, MayD d) : p.length ≤ 16 := by
 have h1 := nodup_lt 16 _ h.nd fun w hw => by
  obtain ⟨k, hk, rfl⟩ := List.mem_map.1 hw
  obtain ⟨a, hw⟩ := h.way
  obtain ⟨c, d, e⟩ := hw.mem k hk
  have hm := hl _ (List.getElem_mem e.lt)
  rw [e.fK, ← e.fr]
  exact ⟨hm.f0, hm.f1⟩
 rwa [List.length_map] at h1
end Go.OffP
namespace Go.Mem
open Go Go.RowKit
theorem Sep.shortInts {k : IntKind} {E : TypeId} {g n cap : Nat} {zs : List Int} {w0 w : World} {L : List Thing} (h : Sep w0 w L) (i : Nat) (hi : L[i]? = some (intsT k E (.slice (some ⟨g, 0, none⟩) n cap) zs)) (m : Nat) (hm : m ≤ zs.length) :
  Sep w0 w (L.set i (intsT k E (.slice (some ⟨g, 0, none⟩) m cap) (zs.take m))) := by
 refine h.swap i hi fun S hS => ⟨S, ⟨by rw [hS.1]; rfl, ?_⟩, fun _ h => h⟩
 have ho := hS.2
 unfold IOwn at ho ⊢
 rcases ho.2 with ⟨e, _⟩ | ⟨g', cap', cur, e, h1, h2, h3, h4, h5, h6⟩
 ·cases e
 ·injection e with e1 e2 e3
  injection e1 with e1
  injection e1 with e1
  subst e1; subst e2; subst e3
  have hl : (zs.take m).length = m := by rw [List.length_take]; omega
  refine ⟨by simp, .inr ⟨g, cap, cur, by rw [hl], h1, h2, by rw [hl]; omega, h4, h5, ?_⟩⟩
  have := congrArg (List.take m) h6
  rw [List.take_take, Nat.mul_one, Nat.min_eq_left hm] at this
  rw [hl, Nat.mul_one, this, List.map_take]
end Go.Mem
namespace Go.Proofs.Ytjijhpflkkicaaa
open Go Go.RowKit Go.Mem Go.MoneyP Go.NetP Go.BuildP Go.OffP Go.Shelf
theorem Try.infoInto : (Try.prog.info? 3).map (fun i => (i.zero, i.size, i.bytes)) = some (some (.int .i64 0), 1, 8) := by kernel_rfl
set_option maxHeartbeats 1000000 in
set_option maxRecDepth 100000 in
theorem iclone_any (v : Value) (fl : List Int) (w : World) (h : Rd .i64 w v fl) (hsm : fl.length ≤ 1000000) :
  Calls Try.prog 45 #[v] w fun en w' => ∃ u, en = .returned u ∧ Sep w w' [intsT .i64 3 u fl] := by
 obtain ⟨i0, hi0, hz0, hz1, hz2⟩ := info_parts Try.infoInto
 obtain ⟨a, c, rfl⟩ := h.shape
 match a with
 | none =>
  have hf : fl = [] := by
   rcases Nat.eq_zero_or_pos fl.length with h0 | h0
   ·exact List.eq_nil_of_length_eq_zero h0
   ·obtain ⟨b, o, e, _⟩ := h.at 0 h0; cases e
  subst hf
  have hc : c = 0 := by
   obtain ⟨a', c', e, _, hn, _⟩ := h
   injection e with e1 e2 e3
   rw [e3]; exact hn e1.symm
  subst hc
  have hs := (Sep.start w).nilInts .i64 3
  have hnil := fun (W : World) => Lib.run_eql_slice_nil (P := Try.prog) W 60 3 none 0 0 0 0 Try.underlying60
  go_enter Try.func45, Try.ntmps45
  go_wp2_with fail
  go_ret
  exact ⟨_, rfl, hs⟩
 | some a =>
  have hs2 := (Sep.start w).litInts .i64 3 [] (by simp [maxLen])
  simp only [List.map_cons, List.map_nil, List.length_cons, List.length_nil, Nat.reduceAdd, World.size_alloc] at hs2
  have hnil := fun (W : World) => Lib.run_eql_slice_nil (P := Try.prog) W 60 3 (some a) fl.length c 0 0 Try.underlying60
  go_enter Try.func45, Try.ntmps45
  go_wp2_with (at_builtin; refine wpList_appRd rfl (.tmp 5) (.tmp 6) 60 rfl 3 i0 _ 8 Try.underlying60 hi0 hz0 hz1 hz2 rfl _ [] .i64 _ fl hs2 0 rfl (hs2.rd h) rfl rfl ?c3 ?c4 ?grow)
  case c3 => (try simp); (try simp only [maxLen]); (try omega)
  case c4 => (try simp); (try simp only [maxLen]); (try omega)
  case grow =>
   intro vo w4 hs3
   (try simp only [List.set_cons_zero, List.nil_append] at hs3)
   clear hnil hs2
   go_wp2_with fail
   go_ret
   exact ⟨_, rfl, hs3⟩
end Go.Proofs.Ytjijhpflkkicaaa
namespace Go.Mem
open Go Go.RowKit
theorem IOwn.icap {k : IntKind} {E : TypeId} {w : World} {a : Option Addr} {n c : Nat} {zs : List Int} (h : IOwn k E w (.slice a n c) zs) : n ≤ c := by
 unfold IOwn at h
 rcases h.2 with ⟨e, _⟩ | ⟨g, cap, cur, e, _, _, h1, _⟩
 ·injection e with e1 e2 e3
  omega
 ·injection e with e1 e2 e3
  omega
theorem Rd.dropN {k : IntKind} {w : World} {b o n c : Nat} {zs : List Int} (h : Rd k w (.slice (some ⟨b, o, none⟩) n c) zs) (j c' m : Nat) (hj : j < zs.length) (hm : m = zs.length - j) : Rd k w (.slice (some ⟨b, o + j, none⟩) m c') (zs.drop j) := by
 obtain ⟨a0, c0, e, hl, _, hc⟩ := h
 injection e with e1 e2 e3
 obtain ⟨b', o', e4, hb, hcell⟩ := hc (by omega)
 rw [e4] at e1
 injection e1 with e1
 injection e1 with e5 e6
 subst e5
 subst e6
 refine ⟨some ⟨b, o + j, none⟩, c', by rw [List.length_drop, hm], by rw [List.length_drop]; omega, (fun q => by cases q), fun hq => ⟨b, o + j, rfl, hb, fun i hi => ?_⟩⟩
 rw [List.length_drop] at hi
 rw [Nat.add_assoc, hcell (j + i) (by omega)]
 congr 2
 rw [List.getD_eq_getElem?_getD, List.getD_eq_getElem?_getD, List.getElem?_drop]
end Go.Mem
namespace Go.Proofs.Ytjijhpflkkicaaa
open Go Go.RowKit Go.Mem Go.MoneyP Go.NetP Go.BuildP Go.OffP Go.Shelf
theorem ent_find1 : Enters Try.prog 44 := enters_of Try.func44 (by kernel_rfl) rfl
def ptr (b : Nat) : Value := .pointer (some ⟨b, 0, none⟩)
def fromV (BL BD BW BF : Nat) : Value := .func (.func 44) #[] #[.pointer (some ⟨BL, 0, none⟩), .pointer (some ⟨BD, 0, none⟩), .pointer (some ⟨BW, 0, none⟩), .pointer (some ⟨BF, 0, none⟩)]
def wayI (p : List Nat) : List Int := List.map (fun k : Nat => (k : Int)) p
theorem wayI_len (p : List Nat) : (wayI p).length = p.length := by simp [wayI]
theorem wayI_snoc (p : List Nat) (k : Nat) : wayI (p ++ [k]) = wayI p ++ [(k : Int)] := by simp [wayI]
theorem wayI_at {p : List Nat} {j : Nat} (h : j < p.length) : (wayI p).getD j 0 = (p[j] : Int) := by
 unfold wayI
 rw [List.getD_eq_getElem?_getD, List.getElem?_map, List.getElem?_eq_getElem h]; rfl
theorem godMemS {l : List Du} {p : List Nat} {b i : Nat} (h : GoD l p b) (hi : i < l.length) : ∀ k ∈ p ++ [i], k < l.length := fun k hk => by
 rcases List.mem_append.1 hk with q | q
 ·exact h.mem k q
 ·rw [List.mem_singleton.1 q]; exact hi
def doneV (D : List Bool) : Array Value := (D.map Value.bool).toArray
/-- More banks are done. -/
def MoreD (D D' : List Bool) : Prop := D'.length = D.length ∧ ∀ b, D.getD b false = true → D'.getD b false = true
theorem MoreD.refl (D : List Bool) : MoreD D D := ⟨rfl, fun _ h => h⟩
theorem MoreD.trans {D E F : List Bool} (h : MoreD D E) (k : MoreD E F) : MoreD D F := ⟨k.1.trans h.1, fun b hb => k.2 b (h.2 b hb)⟩
theorem MoreD.set (D : List Bool) (b : Nat) : MoreD D (D.set b true) := ⟨by simp, fun c hc => by
 rw [List.getD_eq_getElem?_getD, List.getElem?_set]
 rw [List.getD_eq_getElem?_getD] at hc
 split
 ·split
  ·rfl
  ·next h => subst_vars; rw [List.getElem?_eq_none (by omega)] at hc; simp at hc
 ·exact hc⟩
theorem doneV_at {D : List Bool} {j : Nat} (h : j < D.length) : (doneV D)[j]? = some (.bool (D.getD j false)) := by
 unfold doneV
 rw [List.getElem?_toArray, List.getElem?_map, List.getElem?_eq_getElem h, List.getD_eq_getElem?_getD, List.getElem?_eq_getElem h]; rfl
theorem doneV_set (D : List Bool) (j : Nat) (x : Bool) : doneV (D.set j x) = (doneV D).setIfInBounds j (.bool x) := by
 unfold doneV
 rw [List.map_set]; simp
/-- One due more is looked at. -/
structure LookD (l : List Du) (D E : List Bool) (b i : Nat) : Prop where
 more : MoreD D E
 ring : NoRing l E
 len : E.length = 16
 all : ∀ (k : Nat) (c : Int), k < i → EdgeD l k b c → E.getD c.toNat false = true
theorem LookD.skip {l : List Du} {D E : List Bool} {b i : Nat} (h : LookD l D E b i) (hn : ∀ c, EdgeD l i b c → E.getD c.toNat false = true) : LookD l D E b (i + 1) :=
 ⟨h.more, h.ring, h.len, fun k c hk e => by
  by_cases q : k = i
  ·subst q; exact hn c e
  ·exact h.all k c (by omega) e⟩
/-- What lies about the search: the way, the banks done, the dues, the search itself. -/
def dfsL (BL BD BW BF : Nat) (vl v : Value) (p : List Nat) (D : List Bool) : List Thing :=
 [cellsT BW #[v] 60, intsT .i64 3 v (wayI p), cellsT BD (doneV D) 85, cellsT BL #[vl] 22, cellsT BF #[fromV BL BD BW BF] 86]
/-- What the search from a bank answers. -/
def FromD (BL BD BW BF : Nat) (vl : Value) (l : List Du) (p : List Nat) (D : List Bool) (b : Nat) (w0 : World) (en : Ending) (w' : World) : Prop :=
 (∃ (a : Addr) (n c : Nat) (q : List Nat), en = .returned (.slice (some a) n c) ∧ RingD l q ∧ Sep w0 w' [intsT .i64 3 (.slice (some a) n c) (wayI q)]) ∨
 (∃ (v : Value) (D' : List Bool), en = .returned (.slice none 0 0) ∧ MoreD D D' ∧ D'.getD b false = true ∧ NoRing l D' ∧ Sep w0 w' (dfsL BL BD BW BF vl v p D'))
set_option maxRecDepth 100000 in
set_option maxHeartbeats 4000000 in
theorem from_any (BL BD BW BF : Nat) (l : List Du) (vl : Value) (hl : ∀ d ∈ l, MayD d) (hlen : l.length ≤ 64) : ∀ (n : Nat) (w0 w : World) (v : Value) (p : List Nat) (D : List Bool) (b : Nat), 16 - p.length ≤ n → GoD l p b → NoRing l D → D.length = 16 → RdG duR w0 vl l → Sep w0 w (dfsL BL BD BW BF vl v p D) →
  Calls Try.prog 44 #[.int .i64 b, .pointer (some ⟨BL, 0, none⟩), .pointer (some ⟨BD, 0, none⟩), .pointer (some ⟨BW, 0, none⟩), .pointer (some ⟨BF, 0, none⟩)] w fun en w' => FromD BL BD BW BF vl l p D b w0 en w' := by
 intro n
 induction n with
 | zero => 
  intro w0 w v p D b hn hg _ _ _ _
  have := hg.len hl
  omega
 | succ n ih =>
  intro w0 w v p D b hn hg hnr hD hrd hs
  obtain ⟨i0, hi0, hz0, hz1, hz2⟩ := info_parts Try.infoInto
  obtain ⟨al, cl, rfl⟩ := hrd.shape
  have hb16 := hg.b16
  have hp16 := hg.len hl
  have HG := Lib.hid hg
  have HL := Lib.hid hl
  have HN := Lib.hid hn
  have HNR := Lib.hid hnr
  have HD := Lib.hid hD
  have HIH := Lib.hid ih
  have HRD := Lib.hid hrd
  clear ih hg hl hn hnr hrd hD
  unfold dfsL at hs
  have c0 := cell_of (hs.cells 3 rfl) 0
  simp only [List.getElem?_toArray, List.getElem?_cons_zero] at c0
  go_enter Try.func44, Try.ntmps44
  go_wp2_with fail
  go_step3
  go_wp2_with fail
  go_step3
  go_wp2_with fail
  clear c0
  refine wp_loopM [none, none, none, none, none, none, some 6, some 7, some 8, some 9, some 10, some 11, none, none, some 14, some 15, some 16, some 17, some 18, some 19, some 20, some 21, some 22, some 23, some 24, some 25, some 26, some 27, some 28, some 29, some 30, some 31, some 32, some 33, some 34, some 35, some 36, some 37, some 38, some 39, some 40, some 41, some 42, some 43, some 44, some 45, some 46, some 47, some 48, some 49, some 50, some 51, some 52, some 53, some 54, some 55, some 56, some 57, some 58, some 59, some 60, some 61, some 62, some 63, some 64, some 65, some 66, some 67, some 68, some 69, none, none] (fun (r : Nat) (f : Nat → Value) (wr : World) => (fun (v : Value) => ∃ (i : Nat) (u : Value) (E : List Bool), v = .int .i64 i ∧ i ≤ l.length ∧ r = l.length - i ∧ Hid (LookD l D E b i) ∧ Sep w0 wr (dfsL BL BD BW BF (.slice al l.length cl) u p E)) (f 14)) (l.length) (by kernel_rfl) ?atStart1 ?round1
  case' atStart1 => (try dsimp only [nthV])
  case' round1 =>
   intro gk f wr l hl hrel J1 K1 hJ1 hK1
   (try simp only [mask] at hl)
   generalize f 14 = u14 at hl hrel
   subst hl
   (try dsimp only at hrel)
  case atStart1 => exact ⟨0, v, D, rfl, Nat.zero_le _, rfl, Lib.hid ⟨MoreD.refl D, HNR.out, HD.out, fun k c hk => absurd hk (Nat.not_lt_zero k)⟩, hs⟩
  case round1 =>
   clear hs
   obtain ⟨i, u, E, rfl, hi, rfl, HI, hs⟩ := hrel
   by_cases hlt : i < l.length
   ·have hiI : (i : Int) < l.length := by omega
    obtain ⟨b1, o1, e1, _, hc1⟩ := (hs.rdG HRD.out).at i hlt
    subst e1
    have hm := HL.out _ (List.getElem_mem hlt)
    obtain ⟨x, hx⟩ : ∃ x, x = l[i] := ⟨_, rfl⟩
    rw [← hx] at hc1 hm
    have HX := Lib.hid hx
    clear hx
    obtain ⟨id, f, t, x, we, uu, hh⟩ := x
    obtain ⟨hf0, hf1, ht0, ht1, hne, _, _, _, _, _⟩ := hm
    dsimp only at hf0 hf1 ht0 ht1 hne
    have x0 := hc1 0 (by decide)
    have x1 := hc1 1 (by decide)
    have x2 := hc1 2 (by decide)
    have x3 := hc1 3 (by decide)
    have x4 := hc1 4 (by decide)
    have x5 := hc1 5 (by decide)
    have x6 := hc1 6 (by decide)
    simp only [duR, Nat.add_zero, List.getElem?_cons_zero, List.getElem?_cons_succ] at x0 x1 x2 x3 x4 x5 x6
    clear hc1
    obtain ⟨T, rfl⟩ : ∃ T : Nat, t = T := ⟨t.toNat, by omega⟩
    have hT : T < 16 := by omega
    unfold dfsL at hs
    go_upto_region 4 with fail
    replace hs := hs.newCells #[.int .u64 id, .int .i64 f, .int .i64 T, .int .i64 x, .int .i64 we, .int .i64 uu, .bool hh] 44
    obtain ⟨B, hB⟩ : ∃ B, B = wr.heap.size := ⟨_, rfl⟩
    rw [← hB] at hs ⊢
    clear hB x0 x1 x2 x3 x4 x5 x6
    generalize World.alloc wr _ = W4 at hs ⊢
    have x0 := cell_of (hs.cells 0 rfl) 0
    have x1 := cell_of (hs.cells 0 rfl) 1
    have x2 := cell_of (hs.cells 0 rfl) 2
    have x3 := cell_of (hs.cells 0 rfl) 3
    have x4 := cell_of (hs.cells 0 rfl) 4
    have x5 := cell_of (hs.cells 0 rfl) 5
    have x6 := cell_of (hs.cells 0 rfl) 6
    simp only [List.getElem?_toArray, List.getElem?_cons_zero, List.getElem?_cons_succ] at x0 x1 x2 x3 x4 x5 x6
    have c3 := cell_of (hs.cells 3 rfl) T
    rw [doneV_at (by rw [HI.out.len]; exact hT)] at c3
    cases hh
    ·by_cases hfb : f = b
     ·subst hfb
      cases hET : E.getD T false
      ·rw [hET] at c3
       have HET := Lib.hid hET
       clear hET
       have HE := Lib.hid (show EdgeD l i b T from ⟨hlt, by rw [← HX.out], by rw [← HX.out], by rw [← HX.out]⟩)
       have HPL := Lib.hid (show (p ++ [i]).length < 17 by rw [List.length_append, List.length_singleton]; omega)
       have hwl : (wayI p).length = p.length := wayI_len p
       obtain ⟨WP, hWP⟩ : ∃ WP, WP = wayI p := ⟨_, rfl⟩
       rw [← hWP] at hs hwl
       have HWP := Lib.hid hWP
       clear hWP
       have xw := cell_of (hs.cells 1 rfl) 0
       simp only [List.getElem?_toArray, List.getElem?_cons_zero] at xw
       go_wp2_with (at_builtin; refine wpList_appInt rfl (.tmp 33) (.tmp 35) 60 rfl 3 i0 _ 8 Try.underlying60 hi0 hz0 hz1 hz2 rfl u WP .i64 i hs 2 rfl rfl (by simp [go_sem]) ?c3 ?c4 ?grow)
       case c3 => unfold maxLen; omega
       case c4 => omega
       case grow =>
        intro v' w5 hs2 hv
        obtain ⟨g2, k2, rfl⟩ := hv.out
        (try rw [hwl] at hs2)
        (try rw [hwl])
        have HWQ := Lib.hid (show WP ++ [(i : Int)] = wayI (p ++ [i]) by rw [wayI_snoc, HWP.out])
        rw [HWQ.out] at hs2
        (try simp only [List.set_cons_zero, List.set_cons_succ] at hs2)
        clear hs xw x0 x1 x2 x3 x4 x5 x6 c3 hv hwl
        have xw := cell_of (hs2.cells 1 rfl) 0
        have xf := frozen_of (hs2.cells 1 rfl) 0
        simp only [List.getElem?_toArray, List.getElem?_cons_zero] at xw
        go_upto_region 6 with fail
        have hs := hs2.setC 1 rfl 0 (.slice (some ⟨g2, 0, none⟩) (p.length + 1) k2) #[.slice (some ⟨g2, 0, none⟩) (p.length + 1) k2] rfl
        (try simp only [List.set_cons_zero, List.set_cons_succ] at hs)
        clear hs2 xw xf
        generalize World.setCell w5 _ _ = W5 at hs ⊢
        have xw := cell_of (hs.cells 1 rfl) 0
        simp only [List.getElem?_toArray, List.getElem?_cons_zero] at xw
        go_wp2_with fail
        clear xw
        refine wp_loopM [none, none, none, none, none, none, some 6, none, none, some 9, some 10, none, none, none, none, none, none, none, none, none, none, none, none, none, none, none, none, none, none, none, none, none, none, none, none, none, none, none, none, some 39, some 40, some 41, some 42, some 43, some 44, some 45, some 46, some 47, some 48, some 49, some 50, some 51, some 52, some 53, some 54, some 55, some 56, none, none, none, none, none, none, none, none, none, none, none, none, none, none, none] (fun (r : Nat) (f : Nat → Value) (wq : World) => (fun (v : Value) => ∃ (j : Nat), v = .int .i64 j ∧ j ≤ p.length + 1 ∧ r = p.length + 1 - j ∧ Hid (∀ (m : Nat) (h : m < (p ++ [i]).length), m < j → fK l (p ++ [i])[m] ≠ T) ∧ Sep w0 wq [cellsT B #[.int .u64 id, .int .i64 b, .int .i64 T, .int .i64 x, .int .i64 we, .int .i64 uu, .bool false] 44, cellsT BW #[.slice (some ⟨g2, 0, none⟩) (p.length + 1) k2] 60, intsT .i64 3 (.slice (some ⟨g2, 0, none⟩) (p.length + 1) k2) (wayI (p ++ [i])), cellsT BD (doneV E) 85, cellsT BL #[.slice (some ⟨b1, o1, none⟩) l.length cl] 22, cellsT BF #[fromV BL BD BW BF] 86]) (f 39)) (p.length + 1) (by kernel_rfl) ?atStart2 ?round2
        case' atStart2 => (try dsimp only [nthV])
        case' round2 =>
         intro gk f wr l hl hrel J2 K2 hJ2 hK2
         (try simp only [mask] at hl)
         generalize f 39 = u39 at hl hrel
         subst hl
         (try dsimp only at hrel)
        case atStart2 => exact ⟨0, rfl, Nat.zero_le _, rfl, Lib.hid (fun m h hm => absurd hm (Nat.not_lt_zero m)), hs⟩
        case round2 =>
         clear hs
         obtain ⟨j, rfl, hj, rfl, HJ, hs⟩ := hrel
         by_cases hjt : j < p.length + 1
         ·have hjI : (j : Int) < p.length + 1 := by omega
          have hjl : j < (p ++ [i]).length := by rw [List.length_append, List.length_singleton]; exact hjt
          obtain ⟨b2, o2, e2, _, r0⟩ := (hs.rdInts 2 rfl).at j (by rw [wayI_len]; exact hjl)
          cases e2
          rw [wayI_at hjl, Nat.zero_add] at r0
          have hk := godMemS HG.out HE.out.lt _ (List.getElem_mem hjl)
          obtain ⟨b3, o3, e3, _, hc3⟩ := (hs.rdG HRD.out).at _ hk
          cases e3
          have y1 := hc3 1 (by decide)
          simp only [duR, Nat.add_zero, List.getElem?_cons_zero, List.getElem?_cons_succ] at y1
          obtain ⟨F, hF⟩ : ∃ F, F = (l[(p ++ [i])[j]]).f := ⟨_, rfl⟩
          have HF := Lib.hid (show fK l (p ++ [i])[j] = F by rw [hF]; unfold fK; rw [List.getD_eq_getElem?_getD, List.getElem?_eq_getElem hk]; rfl)
          rw [← hF] at y1
          obtain ⟨k, hkk⟩ : ∃ k, k = (p ++ [i])[j] := ⟨_, rfl⟩
          rw [← hkk] at r0 hk HF y1
          have HKK := Lib.hid (show ∃ h : j < (p ++ [i]).length, (p ++ [i])[j] = k from ⟨hjl, hkk.symm⟩)
          clear hc3 hF hkk
          have x2 := cell_of (hs.cells 0 rfl) 2
          have x8 := cell_of (hs.cells 4 rfl) 0
          simp only [List.getElem?_toArray, List.getElem?_cons_zero, List.getElem?_cons_succ] at x2 x8
          go_wp2_with fail
          refine Mix.region [0, 0, 0, 0, 0, 0, 0, 0] (fun _ => True) (by kernel_rfl) (by kernel_rfl) trivial ?_
          simp only [List.zip_cons_cons, List.zip_nil_right]
          iterate 8 (refine Mix.step0 fun K hK => ?_; go_simp; (try (go_bits; try go_simp)); first | ((with_reducible refine hK _ _ ?_); clear hK K) | ((try (simp only [IntWalk.iteOmega]; try go_simp)); (try go_bits); (with_reducible refine hK _ _ ?_); clear hK K))
          refine Mix.done ?_
          replace hs := hs.drew
          clear x2 x8 y1 r0
          go_upto_if 51 with fail
          have xw := cell_of (hs.cells 1 rfl) 0
          simp only [List.getElem?_toArray, List.getElem?_cons_zero] at xw
          by_cases hFT : F = (T : Int)
          ·have HRG := Lib.hid (show RingD l ((p ++ [i]).drop j) from HG.out.ring HE.out j hjl (by obtain ⟨_, e⟩ := HKK.out; rw [e, HF.out]; exact hFT))
           subst hFT
           have hcap : p.length + 1 ≤ k2 := (hs.ints 2 rfl).icap
           have hkj : ¬ k2 = j := by omega
           have HRR := Lib.hid ((hs.rdInts 2 rfl).dropN j (k2 - j) (p.length + 1 - j) (by rw [wayI_len]; exact hjl) (by rw [wayI_len, List.length_append, List.length_singleton]))
           go_wp2_with fail
           rw [Nat.zero_add] at HRR
           refine (iclone_any _ _ _ HRR.out (by rw [List.length_drop, wayI_len]; have := HPL.out; omega)).mono ?_
           rintro en w7 ⟨vo, rfl, ks⟩
           have hs3 := (hs.join ks).takeN 1
           have hdl : (wayI (p ++ [i])).drop j = wayI ((p ++ [i]).drop j) := by unfold wayI; rw [List.map_drop]
           rw [hdl] at hs3
           simp only [List.cons_append, List.nil_append, List.take_succ_cons, List.take_zero] at hs3
           obtain ⟨av, cv, rfl⟩ := (hs3.rdInts 0 rfl).shape
           have HNE := Lib.hid (show 0 < (wayI ((p ++ [i]).drop j)).length by rw [wayI_len]; exact List.length_pos_iff.2 HRG.out.ne)
           obtain ⟨bv, ov, rfl, _⟩ := (hs3.rdInts 0 rfl).at 0 HNE.out
           clear hs ks xw hdl hcap hkj
           go_wp2_with fail
           (repeat rw [Exit.noGoto_ret])
           go_ret
           exact .inl ⟨_, _, _, _, rfl, HRG.out, hs3⟩
          ·have HJ2 := Lib.hid (show ∀ (m : Nat) (h : m < (p ++ [i]).length), m < j + 1 → fK l (p ++ [i])[m] ≠ (T : Int) from fun m h hm => by
            by_cases q : m = j
            ·subst q
             obtain ⟨_, e⟩ := HKK.out
             rw [e, HF.out]
             exact hFT
            ·exact HJ.out m h (by omega))
           go_wp2_with fail
           refine Round.intro (p.length + 1 - (j + 1)) ?measure3 (by kernel_rfl) (hJ2 _ _ _ ?rel3)
           case' rel3 => (try dsimp only [nthV])
           case measure3 => omega
           case rel3 => exact ⟨j + 1, by go_num, hjt, rfl, HJ2, hs⟩
         ·obtain rfl : j = p.length + 1 := by omega
          have HG2 := Lib.hid (HG.out.next HE.out hT fun q hq => by
           obtain ⟨m, hm, e⟩ := List.mem_iff_getElem.1 hq
           rw [← e]
           exact HJ.out m hm (by rw [List.length_append, List.length_singleton] at hm; exact hm))
          have xb := cell_of (hs.cells 5 rfl) 0
          have x2 := cell_of (hs.cells 0 rfl) 2
          simp only [List.getElem?_toArray, List.getElem?_cons_zero, List.getElem?_cons_succ] at x2 xb
          unfold fromV at xb
          have HC := Lib.hid (HIH.out w0 _ _ (p ++ [i]) E T (by have := HN.out; rw [List.length_append, List.length_singleton]; omega) HG2.out HI.out.ring HI.out.len HRD.out hs.tail)
          have hen := fun W args => ent_find1 W args
          go_wp2_with fail
          refine HC.out.mono ?_
          clear HC hs xb x2
          rintro en w7 (⟨av, nv, cv, q, rfl, hq, hs⟩ | ⟨vv, E', rfl, hE1, hE2, hE3, hs⟩)
          ·have HQ := Lib.hid hq
           have hnil := fun (W : World) => run_neq_slice_nil_any (P := Try.prog) W 60 3 (some av) nv cv 0 0 Try.underlying60
           clear hq
           go_wp2_with fail
           (repeat rw [Exit.noGoto_ret])
           go_ret
           exact .inl ⟨_, _, _, _, rfl, HQ.out, hs⟩
          ·have HE1 := Lib.hid hE1
           have HE2 := Lib.hid hE2
           have HE3 := Lib.hid hE3
           clear hE1 hE2 hE3
           have hnil := fun (W : World) => run_neq_slice_nil_any (P := Try.prog) W 60 3 none 0 0 0 0 Try.underlying60
           unfold dfsL at hs
           have hwl : (wayI (p ++ [i])).length = p.length + 1 := by rw [wayI_len, List.length_append, List.length_singleton]
           obtain ⟨av, cv, rfl⟩ := (hs.rdInts 1 rfl).shape
           obtain ⟨g3, _, e3, _⟩ := (hs.ints 1 rfl).get 0 (by omega)
           injection e3 with e3 e4 e5
           subst e3
           subst e5
           clear e4
           rw [hwl] at hs
           have hcap : p.length + 1 ≤ cv := (hs.ints 1 rfl).icap
           have HWL := Lib.hid hwl
           clear hwl
           have xw := cell_of (hs.cells 0 rfl) 0
           have xf := frozen_of (hs.cells 0 rfl) 0
           simp only [List.getElem?_toArray, List.getElem?_cons_zero] at xw
           have HT := Lib.hid (show (wayI (p ++ [i])).take p.length = wayI p by rw [wayI_snoc, ← wayI_len p, List.take_left])
           have HS := Lib.hid (show LookD l D E' b (i + 1) from ⟨HI.out.more.trans HE1.out, HE3.out, by rw [HE1.out.1]; exact HI.out.len, fun k c hk e => by
            by_cases q : k = i
            ·subst q
             have h2 := e.to
             rw [HE.out.to] at h2
             rw [← h2]
             exact HE2.out
            ·exact HE1.out.2 _ (HI.out.all k c (by omega) e)⟩)
           go_wp2_with fail
           have hs3 := (hs.setC 0 rfl 0 (.slice (some ⟨g3, 0, none⟩) p.length cv) #[.slice (some ⟨g3, 0, none⟩) p.length cv] rfl).shortInts 1 rfl p.length (by rw [HWL.out]; omega)
           (try simp only [List.set_cons_zero, List.set_cons_succ] at hs3)
           rw [HT.out] at hs3
           refine Round.intro (l.length - (i + 1)) ?measure4 (by kernel_rfl) (hJ1 _ _ _ ?rel4)
           case' rel4 => (try dsimp only [nthV])
           case measure4 => omega
           case rel4 => exact ⟨i + 1, _, E', by go_num, hlt, rfl, HS, hs3⟩
      ·rw [hET] at c3
       have HS := Lib.hid (HI.out.skip fun c e => by rw [← e.to, ← HX.out]; exact hET)
       clear hET
       go_wp2_with fail
       refine Round.intro (l.length - (i + 1)) ?measure5 (by kernel_rfl) (hJ1 _ _ _ ?rel5)
       case' rel5 => (try dsimp only [nthV])
       case measure5 => omega
       case rel5 => exact ⟨i + 1, u, E, by go_num, hlt, rfl, HS, hs.tail⟩
     ·have HS := Lib.hid (HI.out.skip fun c e => absurd e.fr (by rw [← HX.out]; exact hfb))
      go_wp2_with fail
      refine Round.intro (l.length - (i + 1)) ?measure6 (by kernel_rfl) (hJ1 _ _ _ ?rel6)
      case' rel6 => (try dsimp only [nthV])
      case measure6 => omega
      case rel6 => exact ⟨i + 1, u, E, by go_num, hlt, rfl, HS, hs.tail⟩
    ·have HS := Lib.hid (HI.out.skip fun c e => absurd e.opn (by rw [← HX.out]; simp))
     go_wp2_with fail
     refine Round.intro (l.length - (i + 1)) ?measure7 (by kernel_rfl) (hJ1 _ _ _ ?rel7)
     case' rel7 => (try dsimp only [nthV])
     case measure7 => omega
     case rel7 => exact ⟨i + 1, u, E, by go_num, hlt, rfl, HS, hs.tail⟩
   ·obtain rfl : i = l.length := by omega
    unfold dfsL at hs
    have x0 := cell_of (hs.cells 2 rfl) b
    have xf := fun j => frozen_of (hs.cells 2 rfl) j
    rw [doneV_at (by rw [HI.out.len]; exact hb16)] at x0
    have HNG := Lib.hid (HI.out.ring.more HL.out HI.out.len hb16 (fun k c e => HI.out.all k c e.lt e))
    have HMO := Lib.hid (HI.out.more.trans (MoreD.set E b))
    have HGB := Lib.hid (show (E.set b true).getD b false = true by
     have := HI.out.len
     rw [List.getD_eq_getElem?_getD, List.getElem?_set, if_pos rfl, if_pos (by omega)]; rfl)
    go_wp2_with fail
    (repeat rw [Exit.noGoto_ret])
    go_ret
    have hs3 := hs.setC 2 rfl b (.bool true) (doneV (E.set b true)) (doneV_set E b true)
    (try simp only [List.set_cons_zero, List.set_cons_succ] at hs3)
    exact .inr ⟨_, _, rfl, HMO.out, HGB.out, HNG.out, hs3⟩
end Go.Proofs.Ytjijhpflkkicaaa
namespace Go.Proofs.Ytjijhpflkkicaaa
open Go Go.RowKit Go.Mem Go.MoneyP Go.NetP Go.BuildP Go.OffP Go.Shelf
/-- What Find answers. -/
def FindD (l : List Du) (w : World) (en : Ending) (w' : World) : Prop :=
 (∃ (a : Addr) (n c : Nat) (q : List Nat), en = .returned (.tuple #[.slice (some a) n c, .bool true]) ∧ RingD l q ∧ Sep w w' [intsT .i64 3 (.slice (some a) n c) (wayI q)]) ∨
 (en = .returned (.tuple #[.slice none 0 0, .bool false]) ∧ Acyc l ∧ Below w.heap.size w w')
/-- The first i banks are done. -/
structure LookB (l : List Du) (E : List Bool) (i : Nat) : Prop where
 ring : NoRing l E
 len : E.length = 16
 all : ∀ b, b < i → E.getD b false = true
theorem done_start : doneV (List.replicate 16 false) = #[.bool false, .bool false, .bool false, .bool false, .bool false, .bool false, .bool false, .bool false, .bool false, .bool false, .bool false, .bool false, .bool false, .bool false, .bool false, .bool false] := rfl
set_option maxRecDepth 100000 in
set_option maxHeartbeats 4000000 in
theorem find_any (l : List Du) (vl : Value) (w : World) (h : RdG duR w vl l) (ha : allB l = true) :
  Calls Try.prog 26 #[vl] w fun en w' => FindD l w en w' := by
 have hlm : l.length ≤ 64 ∧ ∀ d ∈ l, MayD d := by
  simp only [allB, Bool.and_eq_true, decide_eq_true_eq, List.all_eq_true] at ha
  exact ⟨ha.1, fun d hd => (mayD_iff d).1 (ha.2 d hd)⟩
 obtain ⟨hlen, hmay⟩ := hlm
 have HM := Lib.hid hmay
 have HA := Lib.hid ha
 have HR := Lib.hid h
 clear hmay ha
 have hs := (Sep.start w).newCells #[vl] 22
 obtain ⟨BL, hBL⟩ : ∃ BL, BL = w.heap.size := ⟨_, rfl⟩
 rw [← hBL] at hs
 have xl := cell_of (hs.cells 0 rfl) 0
 simp only [List.getElem?_toArray, List.getElem?_cons_zero] at xl
 obtain ⟨al, cl, rfl⟩ := h.shape
 clear h
 go_enter Try.func26, Try.ntmps26
 go_upto_region 1 with fail
 rw [← hBL]
 clear hBL
 generalize World.alloc w _ = W1 at hs xl ⊢
 have HAL := Lib.hid (all_any l _ W1 (hs.rdG HR.out))
 go_wp2_with fail
 refine HAL.out.mono ?_
 clear HAL
 rintro en w2 ⟨rfl, hb⟩
 rw [HA.out]
 replace hs := hs.belowStep hb
 clear hb xl
 replace hs := hs.newCells (doneV (List.replicate 16 false)) 85
 obtain ⟨BD, hBD⟩ : ∃ BD, BD = w2.heap.size := ⟨_, rfl⟩
 rw [← hBD] at hs
 go_upto_region 4 with fail
 rw [← hBD]
 clear hBD
 rw [done_start] at hs
 generalize World.alloc w2 _ = W3 at hs ⊢
 replace hs := (hs.newCells #[.slice none 0 0] 60)
 obtain ⟨BW, hBW⟩ : ∃ BW, BW = W3.heap.size := ⟨_, rfl⟩
 rw [← hBW] at hs
 go_upto_region 5 with fail
 rw [← hBW]
 clear hBW
 generalize World.alloc W3 _ = W4 at hs ⊢
 replace hs := (hs.newCells #[.nilFunc] 86)
 obtain ⟨BF, hBF⟩ : ∃ BF, BF = W4.heap.size := ⟨_, rfl⟩
 rw [← hBF] at hs
 go_upto_region 6 with fail
 rw [← hBF]
 clear hBF
 generalize World.alloc W4 _ = W5 at hs ⊢
 have xf := frozen_of (hs.cells 0 rfl) 0
 have xc := cell_of (hs.cells 0 rfl) 0
 simp only [List.getElem?_toArray, List.getElem?_cons_zero] at xc
 go_upto_region 7 with fail
 generalize hW6 : World.setCell W5 _ _ = W6
 have hsd : Sep w W6 (dfsL BL BD BW BF (.slice al l.length cl) (.slice none 0 0) [] (List.replicate 16 false)) := by
  rw [← hW6]
  have h2 := hs.setC 0 rfl 0 (fromV BL BD BW BF) #[fromV BL BD BW BF] rfl
  (try simp only [List.set_cons_zero] at h2)
  rw [← done_start] at h2
  exact (h2.nilInts .i64 3).perm ((List.perm_append_comm (l₁ := [_, _]) (l₂ := [_, _, _])).trans (((List.perm_append_comm (l₁ := [_, _]) (l₂ := [_])).append_right [_]).cons _))
 clear hs xf xc hW6
 have HST := Lib.hid (show LookB l (List.replicate 16 false) 0 from ⟨NoRing.start l, by simp, fun b hb => absurd hb (Nat.not_lt_zero b)⟩)
 generalize List.replicate 16 false = E0 at hsd HST
 have hen := fun W args => ent_find1 W args
 go_wp2_with fail
 refine wp_loopM [none, none, some 2, some 3, none, none, none, some 7, some 8, none, none, none, none, some 13, some 14, some 15, some 16, some 17, some 18, some 19, some 20, some 21, some 22] (fun (r : Nat) (f : Nat → Value) (wr : World) => (fun (v : Value) => ∃ (i : Nat) (u : Value) (E : List Bool), v = .int .i64 i ∧ i ≤ 16 ∧ r = 16 - i ∧ Hid (LookB l E i) ∧ Sep w wr (dfsL BL BD BW BF (.slice al l.length cl) u [] E)) (f 13)) (16) (by kernel_rfl) ?atStart8 ?round8
 case' atStart8 => (try dsimp only [nthV])
 case' round8 =>
  intro gk f wr l hl hrel J1 K1 hJ1 hK1
  (try simp only [mask] at hl)
  generalize f 13 = u13 at hl hrel
  subst hl
  (try dsimp only at hrel)
 case atStart8 => exact ⟨0, _, E0, rfl, Nat.zero_le _, rfl, HST, hsd⟩
 case round8 =>
  clear hsd
  obtain ⟨i, u, E, rfl, hi, rfl, HI, hs⟩ := hrel
  by_cases hlt : i < 16
  ·have hiI : (i : Int) < 16 := by omega
   have xb := cell_of (hs.cells 4 rfl) 0
   simp only [List.getElem?_toArray, List.getElem?_cons_zero] at xb
   unfold fromV at xb
   have HC := Lib.hid (from_any BL BD BW BF l _ HM.out hlen 16 w _ u [] E i (by simp) (GoD.start l hlt) HI.out.ring HI.out.len HR.out hs)
   go_wp2_with fail
   refine HC.out.mono ?_
   clear HC hs xb
   rintro en w7 (⟨av, nv, cv, q, rfl, hq, hs⟩ | ⟨vv, E', rfl, hE1, hE2, hE3, hs⟩)
   ·have HQ := Lib.hid hq
    have hnil := fun (W : World) => run_neq_slice_nil_any (P := Try.prog) W 60 3 (some av) nv cv 0 0 Try.underlying60
    clear hq
    go_wp2_with fail
    go_ret2
    exact .inl ⟨_, _, _, _, rfl, HQ.out, hs⟩
   ·have HI2 := Lib.hid (show LookB l E' (i + 1) from ⟨hE3, hE1.1.trans HI.out.len, fun b hb => by
     by_cases q : b = i
     ·subst q; exact hE2
     ·exact hE1.2 b (HI.out.all b (by omega))⟩)
    clear hE1 hE2 hE3
    have hnil := fun (W : World) => run_neq_slice_nil_any (P := Try.prog) W 60 3 none 0 0 0 0 Try.underlying60
    go_wp2_with fail
    refine Round.intro (16 - (i + 1)) ?measure9 (by kernel_rfl) (hJ1 _ _ _ ?rel9)
    case' rel9 => (try dsimp only [nthV])
    case measure9 => omega
    case rel9 => exact ⟨i + 1, vv, E', by go_num, hlt, rfl, HI2, hs⟩
  ·obtain rfl : i = 16 := by omega
   have HF := Lib.hid (HI.out.ring.all HM.out HI.out.all)
   go_wp2_with fail
   go_ret2
   exact .inr ⟨rfl, HF.out, hs.below⟩
end Go.Proofs.Ytjijhpflkkicaaa
namespace Go.OffP
open Go Go.Mem Go.MoneyP Go.BuildP
def tK (l : List Du) (k : Nat) : Int := (l.getD k default).t
def xK (l : List Du) (k : Nat) : Int := (l.getD k default).x
theorem getDu {l : List Du} {k : Nat} (h : k < l.length) : l.getD k default = l[k] := by
 rw [List.getD_eq_getElem?_getD, List.getElem?_eq_getElem h]; rfl
theorem EdgeD.tK {l : List Du} {k : Nat} {a b : Int} (h : EdgeD l k a b) : tK l k = b := by
 unfold OffP.tK
 rw [getDu h.lt]
 exact h.to
theorem Way.edge {l : List Du} : ∀ {p : List Nat} {a b : Int} (i : Nat) (hi : i < p.length), Way l a p b → EdgeD l p[i] (fK l p[i]) (tK l p[i])
 | _ :: _, _, _, 0, _, ⟨m, e, h⟩ => by
  rw [List.getElem_cons_zero, e.fK, e.tK]; exact e
 | _ :: _, _, _, i + 1, hi, ⟨m, e, h⟩ => by
  simp only [List.getElem_cons_succ]
  exact Way.edge i (by simpa using hi) h
theorem Way.head {l : List Du} : ∀ {p : List Nat} {a b : Int} (hi : 0 < p.length), Way l a p b → fK l p[0] = a
 | _ :: _, _, _, _, ⟨m, e, h⟩ => by rw [List.getElem_cons_zero, e.fK]
theorem Way.step {l : List Du} : ∀ {p : List Nat} {a b : Int} (i : Nat) (hi : i + 1 < p.length), Way l a p b → tK l p[i] = fK l p[i + 1]
 | _ :: q, _, _, 0, hi, ⟨m, e, h⟩ => by
  simp only [List.getElem_cons_zero, List.getElem_cons_succ]
  rw [e.tK, Way.head (p := q) (by simp at hi; omega) h]
 | _ :: q, _, _, i + 1, hi, ⟨m, e, h⟩ => by
  simp only [List.getElem_cons_succ]
  exact Way.step (p := q) i (by simp at hi; omega) h
theorem Way.endT {l : List Du} : ∀ {p : List Nat} {a b : Int} (hi : p.length - 1 < p.length), Way l a p b → tK l p[p.length - 1] = b
 | [k], _, _, _, ⟨m, e, h⟩ => by
  cases h
  simp only [List.length_singleton, Nat.sub_self, List.getElem_cons_zero]
  exact e.tK
 | _ :: k :: q, _, _, hi, ⟨m, e, h⟩ => by
  have := Way.endT (p := k :: q) (by simp) h
  simp only [List.length_cons, Nat.add_sub_cancel, List.getElem_cons_succ] at this ⊢
  exact this
theorem RingD.edge {l : List Du} {q : List Nat} (h : RingD l q) (i : Nat) (hi : i < q.length) : EdgeD l q[i] (fK l q[i]) (tK l q[i]) := by
 obtain ⟨a, hw⟩ := h.way
 exact hw.edge i hi
theorem RingD.step {l : List Du} {q : List Nat} (h : RingD l q) (i : Nat) (hi : i + 1 < q.length) : tK l q[i] = fK l q[i + 1] := by
 obtain ⟨a, hw⟩ := h.way
 exact hw.step i hi
theorem RingD.pos {l : List Du} {q : List Nat} (h : RingD l q) : 0 < q.length := List.length_pos_iff.2 h.ne
theorem RingD.round {l : List Du} {q : List Nat} (h : RingD l q) : tK l (q[q.length - 1]'(by have := h.pos; omega)) = fK l (q[0]'h.pos) := by
 obtain ⟨a, hw⟩ := h.way
 rw [hw.head h.pos, hw.endT (by have := h.pos; omega)]
/-- Which banks the first i dues of a ring come from. -/
def cntR (l : List Du) (q : List Nat) (i : Nat) (x : Int) : Int := if x ∈ (q.take i).map (fK l) then 1 else 0
theorem cntR_zero (l : List Du) (q : List Nat) (x : Int) : cntR l q 0 x = 0 := by simp [cntR]
theorem cntR_new {l : List Du} {q : List Nat} (h : (q.map (fK l)).Nodup) {i : Nat} (hi : i < q.length) : cntR l q i (fK l q[i]) = 0 := by
 unfold cntR
 refine if_neg fun hm => ?_
 rw [List.map_take] at hm
 have h2 : (q.map (fK l)) = (q.map (fK l)).take i ++ (q.map (fK l)).drop i := (List.take_append_drop _ _).symm
 rw [h2, List.nodup_append] at h
 refine h.2.2 _ hm _ (?_ : fK l q[i] ∈ _) rfl
 rw [List.drop_eq_getElem_cons (by simpa using hi), List.getElem_map]
 exact List.mem_cons_self
theorem cntR_same {l : List Du} {q : List Nat} {i : Nat} (hi : i < q.length) : cntR l q (i + 1) (fK l q[i]) = 1 := by
 unfold cntR
 exact if_pos (List.mem_map.2 ⟨q[i], by rw [List.take_succ_eq_append_getElem hi]; exact List.mem_append_right _ (List.mem_singleton.2 rfl), rfl⟩)
theorem cntR_other {l : List Du} {q : List Nat} {i : Nat} (hi : i < q.length) {x : Int} (hx : x ≠ fK l q[i]) : cntR l q (i + 1) x = cntR l q i x := by
 have e : (x ∈ (q.take (i + 1)).map (fK l)) = (x ∈ (q.take i).map (fK l)) := propext (by
  rw [List.take_succ_eq_append_getElem hi, List.map_append, List.mem_append]
  refine ⟨fun h => h.elim id fun h => absurd ?_ hx, .inl⟩
  rw [List.map_singleton, List.mem_singleton] at h
  exact h)
 unfold cntR
 simp only [e]
/-- The least amount of a ring. -/
def leastI (l : List Du) (q : List Nat) (i : Nat) : Int := (q.take i).foldl (fun x k => min x (xK l k)) (xK l (q.headD 0))
def leastR (l : List Du) (q : List Nat) : Int := leastI l q q.length
theorem leastI_succ {l : List Du} {q : List Nat} {i : Nat} (hi : i < q.length) : leastI l q (i + 1) = min (leastI l q i) (xK l q[i]) := by
 unfold leastI
 rw [List.take_succ_eq_append_getElem hi, List.foldl_append]; rfl
theorem leastI_le {l : List Du} {q : List Nat} : ∀ (n i : Nat) (hi : i < q.length), i < n → n ≤ q.length → leastI l q n ≤ xK l q[i]
 | n + 1, i, hi, h1, h2 => by
  rw [leastI_succ (by omega)]
  by_cases e : i = n
  ·subst e; omega
  ·have := leastI_le (l := l) n i hi (by omega) (by omega)
   omega
theorem leastI_is {l : List Du} {q : List Nat} (h0 : 0 < q.length) : ∀ n, n ≤ q.length → ∃ (i : Nat) (hi : i < q.length), leastI l q n = xK l q[i]
 | 0, _ => ⟨0, h0, by
  unfold leastI
  cases q with
  | nil => simp at h0
  | cons k q => rfl⟩
 | n + 1, h => by
  obtain ⟨i, hi, e⟩ := leastI_is (l := l) h0 n (by omega)
  rw [leastI_succ (by omega), e]
  by_cases hh : xK l q[i] ≤ xK l (q[n]'(by omega))
  ·exact ⟨i, hi, by omega⟩
  ·exact ⟨n, by omega, by omega⟩
theorem RingD.le {l : List Du} {q : List Nat} (i : Nat) (hi : i < q.length) : leastR l q ≤ xK l q[i] := leastI_le _ i hi hi (Nat.le_refl _)
theorem RingD.is {l : List Du} {q : List Nat} (h : RingD l q) : ∃ (i : Nat) (hi : i < q.length), leastR l q = xK l q[i] := leastI_is h.pos _ (Nat.le_refl _)
theorem xK_may {l : List Du} (hl : ∀ d ∈ l, MayD d) {k : Nat} (hk : k < l.length) : 1 ≤ xK l k ∧ xK l k ≤ 4503599627370496 := by
 unfold xK
 rw [getDu hk]
 have := hl _ (List.getElem_mem hk)
 exact ⟨this.x0, this.x1⟩
theorem leastI_may {l : List Du} {q : List Nat} (hl : ∀ d ∈ l, MayD d) (h : RingD l q) {n : Nat} (hn : n ≤ q.length) : 1 ≤ leastI l q n ∧ leastI l q n ≤ 4503599627370496 := by
 obtain ⟨i, hi, e⟩ := leastI_is (l := l) h.pos n hn
 rw [e]
 exact xK_may hl (h.mem _ (List.getElem_mem hi))
end Go.OffP
namespace Go.Proofs.Ytjijhpflkkicaaa
open Go Go.RowKit Go.Mem Go.MoneyP Go.NetP Go.BuildP Go.OffP Go.Shelf Go.Maps
theorem owf64 (x : Int) (h : 0 ≤ x) (h' : x ≤ 1000000000) : (Lit.int .i64 x).wf = true := by simp only [Lit.wf, IntKind.min, IntKind.max, IntKind.bits]; simp; omega
theorem oIsMap {P : Program} {k : TypeId} {R : Value → Option (DataW Unit × List MemPlace)} {w : World} {b n : Nat} {D : DataW Unit} (h : w.ownsMap P k R b n D) : IsMap D := h.isMap
theorem olawI : Keyed Try.prog 3 := int_keyed Try.underlying3
theorem ozeroI (w : World) : (zeroValue 3).run Try.prog w = .ok (.int .i64 0) w := by kernel_rfl
theorem okeyI (I : Nat) (h : I ≤ 1000000000) : keyOf Try.prog 3 (.int .i64 (I : Int)) = some (.int .i64 (I : Int)) :=
 keyOf_int_mk Try.underlying3 (by simp only [Lit.wf, IntKind.min, IntKind.max, IntKind.bits]; simp; omega)
/-- A due of a ring as it lies in memory. -/
theorem due_at {l : List Du} {w : World} {a : Option Addr} {n c : Nat} {k : Nat} (h : RdG duR w (.slice a n c) l) (hk : k < l.length) : ∃ b o, a = some ⟨b, o, none⟩ ∧ w.cell? ⟨b, o + k * 7 + 1, none⟩ = some (.int .i64 (fK l k)) ∧ w.cell? ⟨b, o + k * 7 + 2, none⟩ = some (.int .i64 (tK l k)) ∧ w.cell? ⟨b, o + k * 7 + 3, none⟩ = some (.int .i64 (xK l k)) ∧ w.cell? ⟨b, o + k * 7 + 6, none⟩ = some (.bool (l[k]).h) := by
 obtain ⟨b, o, e, _, hc⟩ := h.at k hk
 refine ⟨b, o, e, ?_, ?_, ?_, ?_⟩
 ·unfold fK; rw [getDu hk]; exact hc 1 (by decide)
 ·unfold tK; rw [getDu hk]; exact hc 2 (by decide)
 ·unfold xK; rw [getDu hk]; exact hc 3 (by decide)
 ·exact hc 6 (by decide)
set_option maxRecDepth 100000 in
set_option maxHeartbeats 4000000 in
theorem ring_any (l : List Du) (vl : Value) (q : List Nat) (vq : Value) (w : World) (h : RdG duR w vl l) (hq : Rd .i64 w vq (wayI q)) (hr : RingD l q) (hl : ∀ d ∈ l, MayD d) (hlen : l.length ≤ 64) :
  Calls Try.prog 47 #[vl, vq] w fun en w' => en = .returned (.bool true) ∧ Below w.heap.size w w' := by
 obtain ⟨al, cl, rfl⟩ := h.shape
 obtain ⟨aq, cq, rfl⟩ := hq.shape
 have hq16 := hr.len hl
 have hpos := hr.pos
 rw [wayI_len] at hq ⊢
 have hs := Sep.start w
 have HQ := Lib.hid hr
 have HL := Lib.hid hl
 have HRD := Lib.hid h
 have HRQ := Lib.hid hq
 clear hr hl h hq
 have hmm := @run_makeMap Try.prog
 go_enter Try.func47, Try.ntmps47
 replace hs := hs.newMap Try.prog 3 3
 go_wp2_with fail
 obtain ⟨B, hB⟩ : ∃ B, B = w.heap.size := ⟨_, rfl⟩
 rw [← hB] at hs ⊢
 clear hB hmm
 refine wp_loopM [none, none, none, none, some 4, none, some 6, some 7, none, none, none, some 11, some 12, some 13, some 14, some 15, some 16, some 17, some 18, some 19, some 20, some 21, some 22, some 23, some 24, some 25, some 26, some 27, some 28, some 29, some 30, some 31, some 32, some 33, some 34, some 35, some 36, some 37, some 38, some 39, some 40, some 41, some 42, some 43, some 44, some 45, some 46, some 47, some 48, some 49, some 50, some 51, some 52, some 53, some 54, some 55, some 56, some 57, some 58, some 59, some 60, some 61, some 62, some 63, some 64, some 65, some 66, none, none, none, none, none, none, none, none, none, none, none, none, none, none, none, none, none, none, none, none, none, none, none] (fun (r : Nat) (f : Nat → Value) (wr : World) => (fun (v : Value) => ∃ (i : Nat) (D : DataW Unit), v = .int .i64 i ∧ i ≤ q.length ∧ r = q.length - i ∧ Hid (∀ x : Int, D.atKey (.int .i64 x) (.lit (.int .i64 0)) = .lit (.int .i64 (cntR l q i x))) ∧ Sep w wr [mapT Try.prog 3 3 B i D]) (f 11)) (q.length) (by kernel_rfl) ?atStart10 ?round10
 case' atStart10 => (try dsimp only [nthV])
 case' round10 =>
  intro gk f wr l hl hrel J1 K1 hJ1 hK1
  (try simp only [mask] at hl)
  generalize f 11 = u11 at hl hrel
  subst hl
  (try dsimp only at hrel)
 case atStart10 => exact ⟨0, .map [], rfl, Nat.zero_le _, rfl, Lib.hid (fun x => by rw [cntR_zero]; rfl), hs⟩
 case round10 =>
  clear hs
  obtain ⟨i, D, rfl, hi, rfl, HD, hs⟩ := hrel
  by_cases hlt : i < q.length
  ·have hiI : (i : Int) < q.length := by omega
   have hc1 := HD.out (fK l q[i])
   rw [cntR_new HQ.out.nd hlt] at hc1
   have HE := Lib.hid (HQ.out.edge i hlt)
   have hk := HQ.out.mem _ (List.getElem_mem hlt)
   obtain ⟨b2, o2, e2, _, r0⟩ := (hs.rd HRQ.out).at i (by rw [wayI_len]; exact hlt)
   rw [wayI_at hlt] at r0
   obtain ⟨b1, o1, e1, y1, _, _, y6⟩ := due_at (hs.rdG HRD.out) hk
   rw [HE.out.opn] at y6
   subst e1
   subst e2
   have hm := HL.out _ (List.getElem_mem hk)
   have hf0 := hm.f0
   have hf1 := hm.f1
   rw [HE.out.fr] at hf0 hf1
   obtain ⟨F, hF⟩ : ∃ F : Nat, fK l q[i] = F := ⟨(fK l q[i]).toNat, by omega⟩
   have HF := Lib.hid hF
   rw [hF] at hc1 y1 hf0 hf1
   have hk1 := okeyI F (by omega)
   have HCN := Lib.hid (fun x (hx : x ≠ fK l q[i]) => cntR_other (l := l) hlt hx)
   have HCS := Lib.hid (cntR_same (l := l) hlt)
   obtain ⟨k, hkk⟩ : ∃ k, k = q[i] := ⟨_, rfl⟩
   have HK := Lib.hid hkk
   rw [← hkk] at r0 y1 y6
   have hkl : k < l.length := by rw [hkk]; exact hk
   have hown := hs.map 0 rfl
   clear hm hF hkk
   have hlk : (Instr.lookup 114 (.map (some B)) (.int .i64 (F : Int)) false).run Try.prog wr = .ok (.int .i64 0) wr := by
    obtain ⟨c', hrun, hat, _⟩ := hown.lookup_int olawI Try.underlying114 Try.underlying3 (ozeroI _) hk1
    rw [hc1] at hat
    injection hat with e1
    injection e1 with _ e2
    rw [← e2] at hrun
    exact hrun
   go_upto_region 8 with (first
    | (at_mapUpdate; refine wpList_mapUpdate_own _ rfl _ _ _ 114 rfl 3 3 olawI Try.underlying114 _ B i D rfl hown (by simp [maxLen]; omega) _ _ _ rfl rfl hk1 _ [] (plainElem_int (a := 1) Try.underlying3 (owf64 1 (by omega) (by omega))) ?_; intro w7 hown1 hgrow1)
    | fail)
   have hD2 := Lib.hid (put_at (oIsMap hown) F 1 (cntR l q i) (cntR l q (i + 1)) HD.out (by rw [← HF.out, HCS.out]) (fun x hx => HCN.out x (by rw [HF.out]; exact hx)) (by simp [WideAt.IsKeyLit]))
   replace hs := hs.setMap 0 rfl hown1 hgrow1
   simp only [List.set_cons_zero] at hs
   clear hown hown1 hgrow1 hc1 hk1 r0 y1 y6 hlk
   obtain ⟨b4, o4, e4, y1, _, _, _⟩ := due_at (hs.rdG HRD.out) hkl
   rw [HK.out, HF.out] at y1
   rw [← HK.out] at y1
   cases e4
   by_cases h0 : i = 0
   ·have hI0 : ¬ (0 : Int) < i := by omega
    refine Mix.region [0, 0, 0, 0, 0, 0, 0, 0, 0, 0, 0, 0, 0, 0, 0, 0, 0, 0, 0] (fun _ => True) (by kernel_rfl) (by kernel_rfl) trivial ?_
    simp only [List.zip_cons_cons, List.zip_nil_right]
    iterate 3 (refine Mix.step0 fun K hK => ?_; go_simp; (try (go_bits; try go_simp)); first | ((with_reducible refine hK _ _ ?_); clear hK K) | ((try (simp only [IntWalk.iteOmega]; try go_simp)); (try go_bits); (with_reducible refine hK _ _ ?_); clear hK K))
    iterate 15 (first | (refine Mix.stepS rfl fun K hK => ?_; go_simp; (with_reducible refine hK _ _ ?_); clear hK K) | (refine Mix.step0 fun K hK => ?_; go_simp; (try (go_bits; try go_simp)); first | ((with_reducible refine hK _ _ ?_); clear hK K) | ((try (simp only [IntWalk.iteOmega]; try go_simp)); (try go_bits); (with_reducible refine hK _ _ ?_); clear hK K)))
    iterate 1 (refine Mix.step0 fun K hK => ?_; go_simp; (try (go_bits; try go_simp)); first | ((with_reducible refine hK _ _ ?_); clear hK K) | ((try (simp only [IntWalk.iteOmega]; try go_simp)); (try go_bits); (with_reducible refine hK _ _ ?_); clear hK K))
    refine Mix.done ?_
    replace hs := hs.drew
    go_wp2_with fail
    refine Round.intro (q.length - (i + 1)) ?measure11 (by kernel_rfl) (hJ1 _ _ _ ?rel11)
    case' rel11 => (try dsimp only [nthV])
    case measure11 => omega
    case rel11 => exact ⟨i + 1, _, by go_num, hlt, rfl, hD2, hs⟩
   ·have hI0 : (0 : Int) < i := by omega
    have hlt' : i - 1 < q.length := by omega
    have hk' := HQ.out.mem _ (List.getElem_mem hlt')
    obtain ⟨b2, o2, e2, _, r0⟩ := (hs.rd HRQ.out).at (i - 1) (by rw [wayI_len]; exact hlt')
    rw [wayI_at hlt'] at r0
    obtain ⟨b3, o3, e3, _, y2, _, _⟩ := due_at (hs.rdG HRD.out) hk'
    have hst := HQ.out.step (i - 1) (by omega)
    rw [hst] at y2
    simp only [show i - 1 + 1 = i by omega] at y2
    rw [HF.out] at y2
    cases e2
    cases e3
    obtain ⟨k', m, hk2, hmI, hm1, z0, z2⟩ : ∃ k' m : Nat, k' < l.length ∧ (i : Int) - 1 = m ∧ m < q.length ∧ w7.cell? ⟨b2, o2 + m, none⟩ = some (.int .i64 k') ∧ w7.cell? ⟨b1, o1 + k' * 7 + 2, none⟩ = some (.int .i64 F) := ⟨_, _, hk', by omega, hlt', r0, y2⟩
    clear hst r0 y2
    refine Mix.region [0, 0, 0, 0, 0, 0, 0, 0, 0, 0, 0, 0, 0, 0, 0, 0, 0, 0, 0] (fun _ => True) (by kernel_rfl) (by kernel_rfl) trivial ?_
    simp only [List.zip_cons_cons, List.zip_nil_right]
    iterate 3 (refine Mix.step0 fun K hK => ?_; go_simp; (try (go_bits; try go_simp)); first | ((with_reducible refine hK _ _ ?_); clear hK K) | ((try (simp only [IntWalk.iteOmega]; try go_simp)); (try go_bits); (with_reducible refine hK _ _ ?_); clear hK K))
    iterate 15 (first | (refine Mix.stepS rfl fun K hK => ?_; go_simp; (with_reducible refine hK _ _ ?_); clear hK K) | (refine Mix.step0 fun K hK => ?_; go_simp; (try (go_bits; try go_simp)); first | ((with_reducible refine hK _ _ ?_); clear hK K) | ((try (simp only [IntWalk.iteOmega]; try go_simp)); (try go_bits); (with_reducible refine hK _ _ ?_); clear hK K)))
    iterate 1 (refine Mix.step0 fun K hK => ?_; go_simp; (try (go_bits; try go_simp)); first | ((with_reducible refine hK _ _ ?_); clear hK K) | ((try (simp only [IntWalk.iteOmega]; try go_simp)); (try go_bits); (with_reducible refine hK _ _ ?_); clear hK K))
    refine Mix.done ?_
    replace hs := hs.drew
    go_wp2_with fail
    refine Round.intro (q.length - (i + 1)) ?measure12 (by kernel_rfl) (hJ1 _ _ _ ?rel12)
    case' rel12 => (try dsimp only [nthV])
    case measure12 => omega
    case rel12 => exact ⟨i + 1, _, by go_num, hlt, rfl, hD2, hs⟩
  ·obtain rfl : i = q.length := by omega
   obtain ⟨m, hmlt, hmI, hrd⟩ : ∃ (m : Nat) (h : m < q.length), (q.length : Int) - 1 = m ∧ tK l q[m] = fK l (q[0]'hpos) := ⟨q.length - 1, by omega, by omega, HQ.out.round⟩
   have hk0 := HQ.out.mem _ (List.getElem_mem hpos)
   have hkm := HQ.out.mem _ (List.getElem_mem hmlt)
   obtain ⟨b1, o1, e1, _, r0⟩ := (hs.rd HRQ.out).at 0 (by rw [wayI_len]; exact hpos)
   obtain ⟨b2, o2, e2, _, rm⟩ := (hs.rd HRQ.out).at m (by rw [wayI_len]; exact hmlt)
   rw [wayI_at hpos] at r0
   rw [wayI_at hmlt] at rm
   obtain ⟨b3, o3, e3, y1, _, _, _⟩ := due_at (hs.rdG HRD.out) hk0
   obtain ⟨b4, o4, e4, _, y2, _, _⟩ := due_at (hs.rdG HRD.out) hkm
   rw [hrd] at y2
   cases e1
   cases e2
   cases e3
   cases e4
   obtain ⟨F, hF⟩ : ∃ F, fK l (q[0]'hpos) = F := ⟨_, rfl⟩
   rw [hF] at y1 y2
   obtain ⟨k0, hk0'⟩ : ∃ k, k = q[0]'hpos := ⟨_, rfl⟩
   obtain ⟨km, hkm'⟩ : ∃ k, k = q[m] := ⟨_, rfl⟩
   rw [← hk0'] at r0 hk0 y1
   rw [← hkm'] at rm hkm y2
   clear hF hk0' hkm' hrd
   rw [Nat.add_zero] at r0
   have hposI : (0 : Int) < q.length := by omega
   go_wp2_with fail
   refine Mix.region [0, 0, 0, 0, 0, 0, 0, 0, 0, 0, 0, 0, 0, 0, 0, 0, 0, 0, 0, 0, 0, 0, 0, 0] (fun _ => True) (by kernel_rfl) (by kernel_rfl) trivial ?_
   simp only [List.zip_cons_cons, List.zip_nil_right]
   iterate 4 (refine Mix.step0 fun K hK => ?_; go_simp; (try (go_bits; try go_simp)); first | ((with_reducible refine hK _ _ ?_); clear hK K) | ((try (simp only [IntWalk.iteOmega]; try go_simp)); (try go_bits); (with_reducible refine hK _ _ ?_); clear hK K))
   iterate 18 (first | (refine Mix.stepS rfl fun K hK => ?_; go_simp; (with_reducible refine hK _ _ ?_); clear hK K) | (refine Mix.step0 fun K hK => ?_; go_simp; (try (go_bits; try go_simp)); first | ((with_reducible refine hK _ _ ?_); clear hK K) | ((try (simp only [IntWalk.iteOmega]; try go_simp)); (try go_bits); (with_reducible refine hK _ _ ?_); clear hK K)))
   iterate 2 (refine Mix.step0 fun K hK => ?_; go_simp; (try (go_bits; try go_simp)); first | ((with_reducible refine hK _ _ ?_); clear hK K) | ((try (simp only [IntWalk.iteOmega]; try go_simp)); (try go_bits); (with_reducible refine hK _ _ ?_); clear hK K))
   refine Mix.done ?_
   replace hs := hs.drew
   go_wp2_with fail
   go_ret
   exact ⟨rfl, hs.below⟩
end Go.Proofs.Ytjijhpflkkicaaa
namespace Go.Proofs.Ytjijhpflkkicaaa
open Go Go.RowKit Go.Mem Go.MoneyP Go.NetP Go.BuildP Go.OffP Go.Shelf
set_option maxRecDepth 100000 in
set_option maxHeartbeats 4000000 in
theorem least_any (l : List Du) (vl : Value) (q : List Nat) (vq : Value) (w : World) (h : RdG duR w vl l) (hq : Rd .i64 w vq (wayI q)) (hr : RingD l q) (hl : ∀ d ∈ l, MayD d) (hlen : l.length ≤ 64) :
  Calls Try.prog 32 #[vl, vq] w fun en w' => en = .returned (.tuple #[.int .i64 (leastR l q), .bool true]) ∧ Below w.heap.size w w' := by
 have HC := Lib.hid (ring_any l vl q vq w h hq hr hl hlen)
 obtain ⟨al, cl, rfl⟩ := h.shape
 obtain ⟨aq, cq, rfl⟩ := hq.shape
 have hq16 := hr.len hl
 have hpos := hr.pos
 rw [wayI_len] at hq HC ⊢
 have hs := Sep.start w
 have HQ := Lib.hid hr
 have HL := Lib.hid hl
 have HRD := Lib.hid h
 have HRQ := Lib.hid hq
 clear hr hl h hq
 go_enter Try.func32, Try.ntmps32
 go_wp2_with fail
 refine HC.out.mono ?_
 clear HC
 rintro en w1 ⟨rfl, hb⟩
 replace hs := hs.belowStep hb
 clear hb
 have hk0 := HQ.out.mem _ (List.getElem_mem hpos)
 obtain ⟨b1, o1, e1, _, r0⟩ := (hs.rd HRQ.out).at 0 (by rw [wayI_len]; exact hpos)
 rw [wayI_at hpos, Nat.add_zero] at r0
 obtain ⟨b3, o3, e3, _, _, y3, _⟩ := due_at (hs.rdG HRD.out) hk0
 cases e1
 cases e3
 have H0 := Lib.hid (show xK l (q[0]'hpos) = leastI l q 0 by
  unfold leastI
  cases q with
  | nil => simp at hpos
  | cons k q => rfl)
 rw [H0.out] at y3
 clear H0
 obtain ⟨k, hkk⟩ : ∃ k, k = q[0]'hpos := ⟨_, rfl⟩
 rw [← hkk] at r0 y3
 have hkl : k < l.length := by rw [hkk]; exact hk0
 have hposI : (0 : Int) < q.length := by omega
 clear hkk
 go_wp2_with fail
 clear r0 y3
 refine wp_loopM [none, none, none, none, none, none, some 6, none, some 8, none, none, none, none, none, none, none, none, none, none, none, none, none, some 22, some 23, some 24, some 25, some 26, some 27, some 28, some 29, some 30, some 31, some 32, some 33, none] (fun (r : Nat) (f : Nat → Value) (wr : World) => (fun (v vx : Value) => ∃ (i : Nat), v = .int .i64 i ∧ vx = .int .i64 (leastI l q i) ∧ i ≤ q.length ∧ r = q.length - i ∧ Sep w wr []) (f 22) (f 6)) (q.length) (by kernel_rfl) ?atStart13 ?round13
 case' atStart13 => (try dsimp only [nthV])
 case' round13 =>
  intro gk f wr l hl hrel J1 K1 hJ1 hK1
  (try simp only [mask] at hl)
  generalize f 22 = u22 at hl hrel
  generalize f 6 = u6 at hl hrel
  subst hl
  (try dsimp only at hrel)
 case atStart13 => exact ⟨0, rfl, rfl, Nat.zero_le _, rfl, hs⟩
 case round13 =>
  clear hs
  obtain ⟨i, rfl, rfl, hi, rfl, hs⟩ := hrel
  by_cases hlt : i < q.length
  ·have hiI : (i : Int) < q.length := by omega
   have hk := HQ.out.mem _ (List.getElem_mem hlt)
   obtain ⟨b2, o2, e2, _, r0⟩ := (hs.rd HRQ.out).at i (by rw [wayI_len]; exact hlt)
   rw [wayI_at hlt] at r0
   obtain ⟨b4, o4, e4, _, _, y3, _⟩ := due_at (hs.rdG HRD.out) hk
   cases e2
   cases e4
   have HS := Lib.hid (leastI_succ (l := l) hlt)
   obtain ⟨X, hX⟩ : ∃ X, X = xK l q[i] := ⟨_, rfl⟩
   rw [← hX] at y3 HS
   obtain ⟨k', hkk⟩ : ∃ k, k = q[i] := ⟨_, rfl⟩
   rw [← hkk] at r0 y3
   have hkl' : k' < l.length := by rw [hkk]; exact hk
   clear hX hkk
   obtain ⟨M, hM⟩ : ∃ M, M = leastI l q i := ⟨_, rfl⟩
   rw [← hM] at HS ⊢
   clear hM
   by_cases hmx : X < M
   ·go_wp2_with fail
    refine Round.intro (q.length - (i + 1)) ?measure14 (by kernel_rfl) (hJ1 _ _ _ ?rel14)
    case' rel14 => (try dsimp only [nthV])
    case measure14 => omega
    case rel14 => exact ⟨i + 1, by go_num, by rw [HS.out, show min M X = X by omega], hlt, rfl, hs⟩
   ·go_wp2_with fail
    refine Round.intro (q.length - (i + 1)) ?measure15 (by kernel_rfl) (hJ1 _ _ _ ?rel15)
    case' rel15 => (try dsimp only [nthV])
    case measure15 => omega
    case rel15 => exact ⟨i + 1, by go_num, by rw [HS.out, show min M X = M by omega], hlt, rfl, hs⟩
  ·obtain rfl : i = q.length := by omega
   go_wp2_with fail
   go_ret2
   exact ⟨rfl, hs.below⟩
end Go.Proofs.Ytjijhpflkkicaaa
