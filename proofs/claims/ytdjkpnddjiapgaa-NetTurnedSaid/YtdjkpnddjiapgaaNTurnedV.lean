/-
  The law NetTurned, walked: at every argument.
-/
import Derived.Test.YtdjkpnddjiapgaaNTurnedW
namespace Go.Proofs.Ytdjkpnddjiapgaa
open Go Go.RowKit Go.Mem Go.NetP
theorem netTurned_args (n : Int) (a : Option Addr) (c : Nat) (es : List Ed) (v : Value) (fl : List Int) (m : Int) (w : World) (h : RdG edR w (.slice a es.length c) es) (h' : Rd .i64 w v fl) (hm : (Lit.int .u8 m).wf = true) :
    Calls Try.prog 8 #[.agg #[.int .i64 n, .slice a es.length c], v, .int .u8 m] w fun e w' => e = .returned (.bool true) ∧ Below w.heap.size w w' := by
  have hm' := bounds_u8 hm
  obtain ⟨M, rfl⟩ : ∃ M : Nat, m = M := ⟨m.toNat, by omega⟩
  exact netTurned_any n a c es v fl M w h h' (by omega)
end Go.Proofs.Ytdjkpnddjiapgaa
