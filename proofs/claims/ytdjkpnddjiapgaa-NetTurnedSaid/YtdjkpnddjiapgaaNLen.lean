/-
  The contracts of package net, the number of edges under a name of its own.
-/
import Derived.Test.YtdjkpnddjiapgaaNW6
namespace Go.Proofs.Ytdjkpnddjiapgaa
open Go Go.RowKit Go.Mem Go.NetP

theorem right_l {es : List Ed} {l : Nat} (hl : es.length = l) (n : Int) (a : Option Addr) (c : Nat) (w : World) (h : RdG edR w (.slice a l c) es) :
    Calls Try.prog 13 #[.agg #[.int .i64 n, .slice a l c]] w fun en w' => en = .returned (.bool (rightB n es)) ∧ Below w.heap.size w w' := by subst hl; exact right_any n a c es w h
theorem within_l {es : List Ed} {l : Nat} (hl : es.length = l) (n : Int) (a : Option Addr) (c : Nat) (v : Value) (fl : List Int) (w : World) (h : RdG edR w (.slice a l c) es) (h' : Rd .i64 w v fl) :
    Calls Try.prog 15 #[.agg #[.int .i64 n, .slice a l c], v] w fun en w' => en = .returned (.bool (withinB n es fl)) ∧ Below w.heap.size w w' := by subst hl; exact within_any n a c es v fl w h h'
theorem flows_l {es : List Ed} {l : Nat} (hl : es.length = l) (n : Int) (a : Option Addr) (c : Nat) (v : Value) (fl : List Int) (w : World) (h : RdG edR w (.slice a l c) es) (h' : Rd .i64 w v fl) :
    Calls Try.prog 17 #[.agg #[.int .i64 n, .slice a l c], v] w fun en w' => en = .returned (.bool (flowsB n es fl)) ∧ Below w.heap.size w w' := by subst hl; exact flows_any n a c es v fl w h h'
theorem cost_l {es : List Ed} {l : Nat} (hl : es.length = l) (n : Int) (a : Option Addr) (c : Nat) (v : Value) (fl : List Int) (w : World) (h : RdG edR w (.slice a l c) es) (h' : Rd .i64 w v fl) :
    Calls Try.prog 19 #[.agg #[.int .i64 n, .slice a l c], v] w fun en w' => en = .returned (.int .i64 (costV n es fl)) ∧ Below w.heap.size w w' := by subst hl; exact cost_any n a c es v fl w h h'
theorem over_l {es : List Ed} {l : Nat} (hl : es.length = l) (n : Int) (a : Option Addr) (c : Nat) (v : Value) (fl : List Int) (w : World) (h : RdG edR w (.slice a l c) es) (h' : Rd .i64 w v fl) :
    Calls Try.prog 22 #[.agg #[.int .i64 n, .slice a l c], v] w fun en w' => ∃ u, en = .returned u ∧ Sep w w' [intsT .i64 2 u (overV n es fl)] := by subst hl; exact over_any n a c es v fl w h h'
end Go.Proofs.Ytdjkpnddjiapgaa
