/-
  Loops: the slots that a body writes stand behind ONE function, so that a great frame costs little. Plain theorems over any program.
-/
import Derived.Test.YtfafecgnjjkagaaMem
import Derived.Deep.LoopGhost
import Derived.Deep.Cut
namespace Go.Mem
open Go Go.RowKit

def nthV : List Value → Nat → Value
  | [], _ => undef
  | v :: _, 0 => v
  | _ :: l, n + 1 => nthV l n

/-- A frame, some of whose slots are turned into f's. -/
def mask : List (Option Nat) → (Nat → Value) → List Value → List Value
  | some n :: m, f, _ :: l => f n :: mask m f l
  | none :: m, f, v :: l => v :: mask m f l
  | [], _, l => l
  | _ :: _, _, [] => []

/-- What a round hands on. -/
def Round (m : List (Option Nat)) (frame : List Value) (J : Nat → (Nat → Value) → World → Prop) (n : Nat) (l : List Value) (w : World) : Prop :=
  ∃ n', n' < n ∧ mask m (nthV l) frame = l ∧ J n' (nthV l) w
theorem Round.intro {m : List (Option Nat)} {frame : List Value} {J : Nat → (Nat → Value) → World → Prop} {n : Nat} {l : List Value} {w : World} (n' : Nat) (h1 : n' < n) (h2 : mask m (nthV l) frame = l) (h3 : J n' (nthV l) w) : Round m frame J n l w := ⟨n', h1, h2, h3⟩

theorem wp_loopM {P : Program} {Q : Exit → Act → World → Prop} {c : Code} {d : List Deferred} {w : World} {frame : List Value} (m : List (Option Nat)) (I : Nat → (Nat → Value) → World → Prop) (n0 : Nat)
    (hm : mask m (nthV frame) frame = frame) (h0 : I n0 (nthV frame) w)
    (round : ∀ n f wr l, mask m f frame = l → I n f wr → ∀ (J : Nat → (Nat → Value) → World → Prop) (K : Act → World → Prop), (∀ k f w', I k f w' → J k f w') →
      (∀ l' w', Round m frame J n l' w' → K ⟨l'.toArray, d⟩ w') → c.wp P (Exit.then K Q) ⟨l.toArray, d⟩ wr) : (Code.loop c).wp P Q ⟨frame.toArray, d⟩ w := by
  refine wp_loop_ghost (fun n a w => ∃ f, a = ⟨(mask m f frame).toArray, d⟩ ∧ I n f w) n0 ⟨nthV frame, by rw [hm], h0⟩ fun n a w ⟨f, ha, hI⟩ => ?_
  subst ha
  exact round n f w _ rfl hI I _ (fun _ _ _ h => h) (fun l' w' ⟨n', hlt, hm, hI'⟩ => ⟨n', hlt, nthV l', by rw [hm], hI'⟩)

/-- Where ways meet again. -/
def Meet (m : List (Option Nat)) (frame : List Value) (J : (Nat → Value) → World → Prop) (l : List Value) (w : World) : Prop := mask m (nthV l) frame = l ∧ J (nthV l) w
theorem Meet.intro {m : List (Option Nat)} {frame : List Value} {J : (Nat → Value) → World → Prop} {l : List Value} {w : World} (h2 : mask m (nthV l) frame = l) (h3 : J (nthV l) w) : Meet m frame J l w := ⟨h2, h3⟩
theorem wp_cutM {P : Program} {Q' : Exit → Act → World → Prop} {s : Code} {K : Act → World → Prop} {d : List Deferred} {w : World} {frame : List Value} (m : List (Option Nat)) (I : (Nat → Value) → World → Prop)
    (first : ∀ (J : (Nat → Value) → World → Prop) (K' : Act → World → Prop), (∀ f w', I f w' → J f w') → (∀ l' w', Meet m frame J l' w' → K' ⟨l'.toArray, d⟩ w') → s.wp P (Exit.then K' Q') ⟨frame.toArray, d⟩ w)
    (rest : ∀ f wr l, mask m f frame = l → I f wr → K ⟨l.toArray, d⟩ wr) : s.wp P (Exit.then K Q') ⟨frame.toArray, d⟩ w := by
  refine wp_mono (first I (fun a' w' => ∃ f, a' = ⟨(mask m f frame).toArray, d⟩ ∧ I f w') (fun _ _ h => h) (fun l' w' ⟨h2, h3⟩ => ⟨nthV l', by rw [h2], h3⟩)) ?_
  intro e a' w' hq
  cases e with
  | normal => obtain ⟨f, rfl, hf⟩ := hq; exact rest f w' _ rfl hf
  | exit id => exact hq
  | goto l => exact hq
  | ret => exact hq
  | panic ch => exact hq
  | outgrown => exact hq
attribute [irreducible] Round Meet
end Go.Mem
