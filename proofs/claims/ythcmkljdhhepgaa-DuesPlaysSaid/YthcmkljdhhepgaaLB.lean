/-
  Regions that draw their order, walked once. Plain theorems over any program.
-/
import Derived.Still
import Derived.CheckFast
import Derived.Tactics
import Derived.KernelRfl
import Derived.OrdersIn
import Derived.TacticsIn
set_option linter.unusedVariables false
set_option linter.unusedSimpArgs false
namespace Go.Mix
open Go

section
variable {P : Program} {ops : Array Oper} {ks : List Nat} {C : World → Prop} {Q : Act → World → Prop}

/-- What a reading operation yields: a value, in the world that it got. -/
def upR (K : Value → Prop) (w : World) : Result Next → Prop
  | .ok (.value v) w' => w' = w ∧ K v
  | .ok .skip w' => w' = w ∧ K undef
  | _ => False
theorem upR_value (K : Value → Prop) (w w' : World) (v : Value) : upR K w (.ok (.value v) w') = (w' = w ∧ K v) := rfl
theorem upR_skip (K : Value → Prop) (w w' : World) : upR K w (.ok .skip w') = (w' = w ∧ K undef) := rfl

theorem upR_mono {K K' : Value → Prop} {w : World} {r : Result Next} (h : ∀ v, K v → K' v) (hh : upR K w r) : upR K' w r := by
  cases r with
  | ok n w' => cases n <;> simp only [upR] at hh ⊢ <;> first | exact ⟨hh.1, h _ hh.2⟩ | exact hh
  | halt x w' => exact hh

theorem upR_out {K : Value → Prop} {w : World} {r : Result Next} (hh : upR K w r) : ∃ v, upR (· = v) w r ∧ K v := by
  cases r with
  | ok n w' => cases n <;> simp only [upR] at hh ⊢ <;> first | exact ⟨_, ⟨hh.1, rfl⟩, hh.2⟩ | exact hh.elim
  | halt x w' => exact hh.elim

theorem upR_eq {w : World} {r : Result Next} {v u : Value} (h : upR (· = v) w r) (h' : upR (· = u) w r) : v = u := by
  cases r with
  | ok n w' => cases n <;> simp only [upR] at h h' <;> first | exact h.2.symm.trans h'.2 | exact h.elim
  | halt x w' => exact h.elim

/-- The post of one operation that writes. -/
def post (C : World → Prop) (K : Act → World → Prop) : Exit → Act → World → Prop
  | .normal, a, w => C w ∧ K a w
  | _, _, _ => False
theorem post_normal (C : World → Prop) (K : Act → World → Prop) (a : Act) (w : World) : post C K .normal a w = (C w ∧ K a w) := rfl

/-- One operation. Kind 0: it reads, in its place; 1: it reads, and may come up elsewhere; else: it writes, or calls. -/
def opM (P : Program) (ops : Array Oper) (C : World → Prop) (k : Nat) (o : Oper) (K : Act → World → Prop) (a : Act) (w : World) : Prop :=
  if Region.wanted o (yielded ops a.tmps) then
    match k with
    | 0 => upR (fun v => K (a.put o.dst v) w) w ((execOp a.eval o).run P w)
    | 1 => ∃ v, (∀ W, C W → upR (· = v) W ((execOp a.eval o).run P W)) ∧ K (a.put o.dst v) w
    | _ => o.wp P a w (fun a' w' => C w' ∧ K a' w') (fun _ _ _ => False)
  else K (a.put o.dst undef) w

/-- The operations that are left, in the order of the text. -/
def wpR (P : Program) (ops : Array Oper) (C : World → Prop) (Q : Act → World → Prop) : List (Oper × Nat) → Act → World → Prop
  | [], a, w => Q a w
  | (o, k) :: r, a, w => opM P ops C k o (wpR P ops C Q r) a w

theorem not_letsOut {α : Prop} (h : LetsOut (fun _ _ _ => False)) : α := (let ⟨_, _, h⟩ := h; h : False).elim

/-- An outcome of operation 'o' from 'a': its temporary is written (and calls may have been put off). -/
def After (o : Oper) (a a' : Act) : Prop := ∃ v dl, a' = ({ a with defers := dl } : Act).put o.dst v
theorem after_put (o : Oper) (a : Act) (v : Value) : After o a (a.put o.dst v) := ⟨v, a.defers, rfl⟩

theorem wp_val {o : Oper} {a : Act} {w : World} {K K' : Act → World → Prop} (h : ∀ a' w', After o a a' → K a' w' → K' a' w') (hh : o.wp P a w K (fun _ _ _ => False)) : o.wp P a w K' (fun _ _ _ => False) := by
  unfold Oper.wp at *
  generalize (execOp a.eval o).run P w = r at *
  cases r with
  | ok n w' =>
    cases n <;> simp only [Oper.upon] at hh ⊢
    case enter f args =>
      refine Calls.mono hh fun e w'' he => ?_
      cases e with
      | returned v => exact h _ _ (after_put o a v) he
      | panicked c => exact he
      | outgrown => exact he
    case row row args => exact Rows.mono hh fun v w'' he => h _ _ (after_put o a v) he
    case defer d => exact h _ _ ⟨undef, _, rfl⟩ hh
    all_goals first | exact h _ _ (after_put o a _) hh | exact hh
  | halt x w' => cases x <;> simp only [Oper.upon] at hh ⊢

theorem wp_any {o : Oper} {a : Act} {w : World} {K : Act → World → Prop} {Q' : Exit → Act → World → Prop} (hh : o.wp P a w K (fun _ _ _ => False)) : o.wp P a w K Q' := by
  unfold Oper.wp at *
  generalize (execOp a.eval o).run P w = r at *
  cases r with
  | ok n w' =>
    cases n <;> simp only [Oper.upon] at hh ⊢
    case enter f args =>
      refine Calls.mono hh fun e w'' he => ?_
      cases e with
      | returned v => exact he
      | panicked c => exact he.elim
      | outgrown => exact not_letsOut he
    all_goals first | exact hh | exact hh.elim
  | halt x w' => cases x <;> simp only [Oper.upon] at hh

theorem opM_mono {k : Nat} {o : Oper} {K K' : Act → World → Prop} {a : Act} {w : World} (hC : C w) (h : ∀ a' w', C w' → After o a a' → (k ≤ 1 → w' = w) → K a' w' → K' a' w') (hh : opM P ops C k o K a w) : opM P ops C k o K' a w := by
  unfold opM at *
  split at hh
  · rename_i hw
    rw [if_pos hw]
    split at hh
    · exact upR_mono (fun v => h _ _ hC (after_put o a v) (fun _ => rfl)) hh
    · obtain ⟨v, h1, h2⟩ := hh; exact ⟨v, h1, h _ _ hC (after_put o a v) (fun _ => rfl) h2⟩
    · rename_i h0 h1
      exact wp_val (fun a' w' ha ⟨c, hk⟩ => ⟨c, h _ _ c ha (fun hle => by exfalso; rcases k with _ | _ | k; exact h0 rfl; exact h1 rfl; omega) hk⟩) hh
  · rename_i hw
    rw [if_neg hw]; exact h _ _ hC (after_put o a undef) (fun _ => rfl) hh

theorem wpOp_of_opM {i k : Nat} {o : Oper} (ho : ops[i]? = some o) {K : Act → World → Prop} {K' : Act → World → Prop} {Q' : Exit → Act → World → Prop} {a : Act} {w : World} (hC : C w)
    (h : ∀ a' w', C w' → K a' w' → K' a' w') (hh : opM P ops C k o K a w) : wpOp P ops Q' i K' a w := by
  unfold opM at hh
  unfold wpOp
  simp only [ho]
  split at hh
  · rename_i hw
    rw [if_pos hw]
    refine .inl ?_
    split at hh
    · unfold Oper.wp
      generalize (execOp a.eval o).run P w = r at *
      cases r with
      | ok n w' => cases n <;> simp only [upR, Oper.upon] at hh ⊢ <;> (obtain ⟨rfl, h2⟩ := hh; exact h _ _ hC h2)
      | halt x w' => exact hh.elim
    · obtain ⟨v, h1, h2⟩ := hh
      have h3 := h1 w hC
      unfold Oper.wp
      generalize (execOp a.eval o).run P w = r at *
      cases r with
      | ok n w' => cases n <;> simp only [upR, Oper.upon] at h3 ⊢ <;> (obtain ⟨rfl, rfl⟩ := h3; exact h _ _ hC h2)
      | halt x w' => exact h3.elim
    · exact wp_any (wp_val (fun a' w' _ ⟨c, hk⟩ => h _ _ c hk) hh)
  · rename_i hw
    rw [if_neg hw]; exact h _ _ hC hh

/-! ### Two operations that may come up in either order -/

theorem run_put {oj : Oper} {dst : Option Tmp} (hsj : ∀ cs b, oj.op ≠ .select cs b) (h1 : ∀ d, dst = some d → d ∉ oj.looksAt ops) (a : Act) (v : Value) : execOp (a.put dst v).eval oj = execOp a.eval oj :=
  execOp_put oj hsj a dst v h1

/-- Operations of these kinds may change places. -/
def swapB (km ki : Nat) : Bool := (Nat.ble km 1 && Nat.ble ki 1) || Nat.beq ki 1 || Nat.beq km 1

theorem upon_put {o : Oper} {a : Act} {dst : Option Tmp} {v : Value} {r : Result Next} {K : Act → World → Prop} (hd : ∀ d, dst = some d → o.dst ≠ some d) :
    o.upon P (a.put dst v) K (fun _ _ _ => False) r ↔ o.upon P a (fun a' w' => K (a'.put dst v) w') (fun _ _ _ => False) r := by
  cases r with
  | ok n w' =>
    cases n <;> simp only [Oper.upon]
    case value u => rw [Act.put_comm a v u hd]
    case skip => rw [Act.put_comm a v undef hd]
    case defer d => rw [Act.put_defers, Act.put_comm _ v undef hd]
    case enter f args =>
      constructor <;> intro h <;> refine Calls.mono h fun e w'' he => ?_ <;> cases e with
      | returned u =>
        have q := Act.put_comm a v u hd
        first
          | exact (show K ((a.put o.dst u).put dst v) w'' by rw [← q]; exact he)
          | exact (show K ((a.put dst v).put o.dst u) w'' by rw [q]; exact he)
      | panicked c => exact he
      | outgrown => exact he
    case row row args =>
      constructor <;> intro h <;> refine Rows.mono h fun u w'' he => ?_ <;> first | (rw [Act.put_comm a v u hd] at he; exact he) | (rw [← Act.put_comm a v u hd] at he; exact he)
  | halt x w' => cases x <;> simp only [Oper.upon]

/-- Out of an operation that writes: an outcome. -/
theorem upon_some {o : Oper} {a : Act} {r : Result Next} {K : Act → World → Prop} (h : o.upon P a K (fun _ _ _ => False) r) : ∃ a' w', K a' w' ∧ After o a a' := by
  cases r with
  | ok n w' =>
    cases n <;> simp only [Oper.upon] at h
    case value u => exact ⟨_, _, h, after_put o a u⟩
    case skip => exact ⟨_, _, h, after_put o a undef⟩
    case defer d => exact ⟨_, _, h, undef, _, rfl⟩
    case enter f args =>
      obtain ⟨e, w'', fr, he, _⟩ := h []
      cases e with
      | returned v => exact ⟨_, _, he, after_put o a v⟩
      | panicked c => exact he.elim
      | outgrown => exact not_letsOut he
    case row row args =>
      obtain ⟨v, w'', he, _⟩ := h (Frame.enter P 0 #[] .normal) []
      exact ⟨_, _, he, after_put o a v⟩
  | halt x w' => cases x <;> simp only [Oper.upon] at h

theorem eval_defers (a : Act) (dl : List Deferred) : ({ a with defers := dl } : Act).eval = a.eval := by funext x; cases x <;> rfl

theorem opM_put {k : Nat} {o : Oper} {K : Act → World → Prop} {a : Act} {w : World} {dst : Option Tmp} {v : Value} (hs : ∀ cs b, o.op ≠ .select cs b) (h1 : ∀ d, dst = some d → d ∉ o.looksAt ops)
    (h2 : ∀ d, dst = some d → o.dst ≠ some d) : opM P ops C k o K (a.put dst v) w ↔ opM P ops C k o (fun a' w' => K (a'.put dst v) w') a w := by
  unfold opM
  rw [wanted_put o a dst v h1]
  split
  · split
    · rw [execOp_put o hs a dst v h1]
      have e : (fun u => K ((a.put dst v).put o.dst u) w) = fun u => K ((a.put o.dst u).put dst v) w := by funext u; rw [Act.put_comm a v u h2]
      rw [e]
    · rw [execOp_put o hs a dst v h1]
      constructor
      · rintro ⟨u, hu, hk⟩; exact ⟨u, hu, by show K ((a.put o.dst u).put dst v) w; rw [← Act.put_comm a v u h2]; exact hk⟩
      · rintro ⟨u, hu, hk⟩; exact ⟨u, hu, by rw [Act.put_comm a v u h2]; exact hk⟩
    · unfold Oper.wp
      rw [execOp_put o hs a dst v h1]
      exact upon_put h2
  · rw [Act.put_comm a v undef h2]

/-- What an operation finds behind another one that is apart from it. -/
theorem after_same {o m : Oper} {a a' : Act} (ha : After m a a') (hs : ∀ cs b, o.op ≠ .select cs b) (h1 : ∀ d, m.dst = some d → d ∉ o.looksAt ops) :
    execOp a'.eval o = execOp a.eval o ∧ Region.wanted o (yielded ops a'.tmps) = Region.wanted o (yielded ops a.tmps) := by
  obtain ⟨v, dl, rfl⟩ := ha
  refine ⟨?_, ?_⟩
  · rw [execOp_put o hs _ m.dst v h1, eval_defers]
  · rw [wanted_put o _ m.dst v h1]

theorem swap {km ki : Nat} {om oi : Oper} {K : Act → World → Prop} {a : Act} {w : World} (hC : C w) (hsm : ∀ cs b, om.op ≠ .select cs b) (hsi : ∀ cs b, oi.op ≠ .select cs b)
    (hap : om.apart ops oi = true) (hk : swapB km ki = true) (h : opM P ops C km om (opM P ops C ki oi K) a w) : opM P ops C ki oi (opM P ops C km om K) a w := by
  obtain ⟨h1, h2, h3⟩ := Oper.apart_spec hap
  have h2' : ∀ d, oi.dst = some d → om.dst ≠ some d := fun d hd e => h2 d e hd
  by_cases hw : Region.wanted om (yielded ops a.tmps) = true
  · have hmk : ∀ a', After oi a a' → Region.wanted om (yielded ops a'.tmps) = true ∧ execOp a'.eval om = execOp a.eval om := fun a' ha => ⟨by rw [(after_same ha hsm h3).2]; exact hw, (after_same ha hsm h3).1⟩
    match km, hk with
    | 0, hk =>
      unfold opM at h
      rw [if_pos hw] at h
      simp only at h
      obtain ⟨v, hv, hn⟩ := upR_out h
      have hn' : opM P ops C ki oi K (a.put om.dst v) w := hn
      rw [opM_put hsi h1 h2] at hn'
      have hki : ki ≤ 1 := by
        simp only [swapB, Bool.or_eq_true, Bool.and_eq_true, Nat.ble_eq, Nat.beq_eq] at hk
        omega
      refine opM_mono hC (fun a' w' _ ha hww hk' => ?_) hn'
      have hwe := hww hki
      subst hwe
      obtain ⟨q1, q2⟩ := hmk a' ha
      unfold opM
      rw [if_pos q1, q2]
      exact upR_mono (fun u hu => by subst hu; exact hk') hv
    | 1, hk =>
      unfold opM at h
      rw [if_pos hw] at h
      simp only at h
      obtain ⟨v, hv, hn⟩ := h
      have hn' : opM P ops C ki oi K (a.put om.dst v) w := hn
      rw [opM_put hsi h1 h2] at hn'
      refine opM_mono hC (fun a' w' _ ha _ hk' => ?_) hn'
      obtain ⟨q1, q2⟩ := hmk a' ha
      unfold opM
      rw [if_pos q1, q2]
      exact ⟨v, hv, hk'⟩
    | km + 2, hk =>
      have hki : ki = 1 := by
        simp only [swapB, Bool.or_eq_true, Bool.and_eq_true, Nat.ble_eq, Nat.beq_eq] at hk
        omega
      subst hki
      unfold opM at h
      rw [if_pos hw] at h
      simp only at h
      have hi : ∀ a', After om a a' → Region.wanted oi (yielded ops a'.tmps) = Region.wanted oi (yielded ops a.tmps) ∧ execOp a'.eval oi = execOp a.eval oi := fun a' ha => ⟨(after_same ha hsi h1).2, (after_same ha hsi h1).1⟩
      by_cases hwi : Region.wanted oi (yielded ops a.tmps) = true
      · obtain ⟨a1, w1, ⟨hC1, hk1⟩, ha1⟩ := upon_some h
        obtain ⟨q1, q2⟩ := hi a1 ha1
        rw [if_pos (q1.trans hwi), q2] at hk1
        obtain ⟨v, hv, _⟩ := hk1
        unfold opM
        rw [if_pos hwi]
        refine ⟨v, hv, ?_⟩
        show opM P ops C (km + 2) om K (a.put oi.dst v) w
        rw [opM_put hsm h3 h2']
        unfold opM
        rw [if_pos hw]
        refine wp_val (fun a' w' ha ⟨hC', hk'⟩ => ⟨hC', ?_⟩) h
        obtain ⟨q1', q2'⟩ := hi a' ha
        rw [if_pos (q1'.trans hwi), q2'] at hk'
        obtain ⟨v', hv', hK⟩ := hk'
        have e := upR_eq (hv w hC) (hv' w hC)
        subst e
        exact hK
      · unfold opM
        rw [if_neg hwi]
        show opM P ops C (km + 2) om K (a.put oi.dst undef) w
        rw [opM_put hsm h3 h2']
        unfold opM
        rw [if_pos hw]
        refine wp_val (fun a' w' ha ⟨hC', hk'⟩ => ⟨hC', ?_⟩) h
        rw [if_neg (by rw [(hi a' ha).1]; exact hwi)] at hk'
        exact hk'
  · have h' : opM P ops C ki oi K (a.put om.dst undef) w := by
      unfold opM at h
      rw [if_neg hw] at h
      exact h
    rw [opM_put hsi h1 h2] at h'
    refine opM_mono hC (fun a' w' _ ha _ hk' => ?_) h'
    unfold opM
    rw [if_neg (by rw [(after_same ha hsm h3).2]; exact hw)]
    exact hk'

end

/-! ### The check over a region -/
section
variable {P : Program} {ops : Array Oper} {C : World → Prop} {Q : Act → World → Prop}

def Closed (ops : Array Oper) (listed : Array Bool) : Prop := ∀ j oj, ops[j]? = some oj → listed.getD j false = true → ∀ e ∈ oj.after, Region.binds .any e = true → listed.getD e.on false = true
def Deps (o : Oper) (listed : Array Bool) : Prop := ∀ e ∈ o.after, Region.binds .any e = true → listed.getD e.on false = true
/-- 'm' has always come up where 'o' may. -/
def Before (ops : Array Oper) (m : Nat) (o : Oper) : Prop := ∀ listed, Closed ops listed → Deps o listed → listed.getD m false = true

def lowB (o : Oper) (j : Nat) : Bool := o.after.toList.all fun e => !Region.binds .any e || Nat.blt e.on j
def pairsB (ops : Array Oper) (o : Oper) (k v : Nat) : Nat → List (Oper × Nat) → Bool
  | _, [] => true
  | 0, _ :: _ => false
  | j + 1, (om, km) :: r => (v.testBit j || (om.apart ops o && swapB km k)) && pairsB ops o k v j r
def okL (ops : Array Oper) : List (Oper × Nat) → Nat → List Nat → List (Oper × Nat) → Bool
  | [], _, _, _ => true
  | (o, k) :: rest, j, acc, prev => CheckFast.force (CheckFast.one (fun i => if i < j then acc.getD (j - 1 - i) 0 else 0) o) fun v =>
      lowB o j && pairsB ops o k v j prev && okL ops rest (j + 1) (v :: acc) ((o, k) :: prev)
def okB (l : List Oper) (ks : List Nat) : Bool := Region.noSelect l.toArray && Nat.beq ks.length l.length && okL l.toArray (l.zip ks) 0 [] []

theorem one_spec {look : Nat → Nat} {o : Oper} {x : Nat} (h : (CheckFast.one look o).testBit x = true) : ∃ e ∈ o.after, Region.binds .any e = true ∧ (x = e.on ∨ (look e.on).testBit x = true) := by
  unfold CheckFast.one at h
  rw [← Array.foldl_toList] at h
  have gen : ∀ (l : List Edge) (s : Nat), (l.foldl (fun s e => if Region.binds .any e then s ||| 2 ^ e.on ||| look e.on else s) s).testBit x = true →
      s.testBit x = true ∨ ∃ e ∈ l, Region.binds .any e = true ∧ (x = e.on ∨ (look e.on).testBit x = true) := by
    intro l
    induction l with
    | nil => intro s hs; exact .inl hs
    | cons e l ih =>
      intro s hs
      rw [List.foldl_cons] at hs
      rcases ih _ hs with h1 | ⟨e', he', hb, hx⟩
      · by_cases hb : Region.binds .any e = true
        · rw [if_pos hb] at h1
          simp only [Nat.testBit_or, Bool.or_eq_true, Nat.testBit_two_pow, decide_eq_true_eq] at h1
          rcases h1 with (h1 | h1) | h1
          · exact .inl h1
          · exact .inr ⟨e, List.mem_cons_self, hb, .inl h1.symm⟩
          · exact .inr ⟨e, List.mem_cons_self, hb, .inr h1⟩
        · rw [if_neg hb] at h1; exact .inl h1
      · exact .inr ⟨e', List.mem_cons_of_mem _ he', hb, hx⟩
  rcases gen _ 0 h with h0 | ⟨e, he, hb, hx⟩
  · simp at h0
  · exact ⟨e, by simpa using he, hb, hx⟩

/-- What the check says of the operations from number j on. -/
structure Fine (ops : Array Oper) (kd : Nat → Nat) (i : Nat) (o : Oper) : Prop where
  low : ∀ e ∈ o.after, Region.binds .any e = true → e.on < i
  pair : ∀ m om, m < i → ops[m]? = some om → Before ops m o ∨ (om.apart ops o = true ∧ swapB (kd m) (kd i) = true)

theorem pairsB_spec {kd : Nat → Nat} {o : Oper} {k v : Nat} : ∀ (j : Nat) (prev : List (Oper × Nat)), prev.length = j → (∀ m, m < j → ∃ om, ops[m]? = some om ∧ prev[j - 1 - m]? = some (om, kd m)) →
    pairsB ops o k v j prev = true → ∀ m om, m < j → ops[m]? = some om → v.testBit m = true ∨ (om.apart ops o = true ∧ swapB (kd m) k = true) := by
  intro j
  induction j with
  | zero => intro prev _ _ _ m om hm; omega
  | succ j ih =>
    intro prev hl hp h m om hm hom
    match prev, hl with
    | (oj, kj) :: r, hl =>
      simp only [pairsB, Bool.and_eq_true, Bool.or_eq_true] at h
      by_cases hmj : m = j
      · subst hmj
        obtain ⟨om', h1, h2⟩ := hp m (by omega)
        have : om' = om := Option.some.inj (h1.symm.trans hom)
        subst this
        simp only [show m + 1 - 1 - m = 0 by omega, List.getElem?_cons_zero, Option.some.injEq, Prod.mk.injEq] at h2
        rw [← h2.1, ← h2.2]
        exact h.1
      · refine ih r (by simpa using hl) (fun m' hm' => ?_) h.2 m om (by omega) hom
        obtain ⟨om', h1, h2⟩ := hp m' (by omega)
        refine ⟨om', h1, ?_⟩
        rw [show j + 1 - 1 - m' = (j - 1 - m') + 1 by omega, List.getElem?_cons_succ] at h2
        exact h2

theorem okL_spec {kd : Nat → Nat} : ∀ (l : List (Oper × Nat)) (j : Nat) (acc : List Nat) (prev : List (Oper × Nat)),
    (∀ i, l[i]? = (ops[j + i]?).map fun o => (o, kd (j + i))) → prev.length = j → (∀ m, m < j → ∃ om, ops[m]? = some om ∧ prev[j - 1 - m]? = some (om, kd m)) →
    (∀ m om, m < j → ops[m]? = some om → ∀ x, (acc.getD (j - 1 - m) 0).testBit x = true → Before ops x om) →
    okL ops l j acc prev = true → ∀ i o, j ≤ i → ops[i]? = some o → Fine ops kd i o
  | [], j, _, _, hl, _, _, _, _ => fun i o hi ho => by
    have := hl (i - j)
    rw [show j + (i - j) = i by omega, ho] at this
    simp at this
  | (o, k) :: rest, j, acc, prev, hl, hpl, hp, hacc, h => by
    have h0 := hl 0
    simp only [List.getElem?_cons_zero, Nat.add_zero] at h0
    obtain ⟨oj, hoj, hoe⟩ : ∃ oj, ops[j]? = some oj ∧ (o, k) = (oj, kd j) := by
      cases hq : ops[j]? with
      | none => rw [hq] at h0; simp at h0
      | some oj => rw [hq] at h0; exact ⟨oj, rfl, by simpa using h0⟩
    simp only [Prod.mk.injEq] at hoe
    obtain ⟨rfl, rfl⟩ := hoe
    simp only [okL, CheckFast.force_eq, Bool.and_eq_true] at h
    obtain ⟨⟨hlow, hpairs⟩, hrest⟩ := h
    have hlow' : ∀ e ∈ o.after, Region.binds .any e = true → e.on < j := by
      intro e he hb
      have := List.all_eq_true.1 hlow e (by simpa using he)
      have h2 : e.on + 1 ≤ j := by simpa [hb, Nat.blt] using this
      omega
    have hbef : ∀ x, (CheckFast.one (fun i => if i < j then acc.getD (j - 1 - i) 0 else 0) o).testBit x = true → Before ops x o := by
      intro x hx listed hcl hd
      obtain ⟨e, he, hb, hx⟩ := one_spec hx
      have hel := hd e he hb
      rcases hx with rfl | hx
      · exact hel
      · have hlt := hlow' e he hb
        simp only [hlt, if_true] at hx
        have hsz : e.on < ops.size := Nat.lt_trans hlt (Array.getElem?_eq_some_iff.1 hoj).1
        exact hacc e.on ops[e.on] hlt (by simp [hsz]) x hx listed hcl (hcl e.on ops[e.on] (by simp [hsz]) hel)
    intro i o' hi ho'
    by_cases hij : i = j
    · subst hij
      have : o' = o := Option.some.inj (ho'.symm.trans hoj)
      subst this
      exact ⟨hlow', fun m om hm hom => (pairsB_spec i prev hpl hp hpairs m om hm hom).imp (hbef m) id⟩
    · refine okL_spec rest (j + 1) _ _ (fun i' => ?_) (by simp [hpl]) (fun m hm => ?_) (fun m om hm hom x hx => ?_) hrest i o' (by omega) ho'
      · have := hl (i' + 1)
        rw [List.getElem?_cons_succ] at this
        rw [this, show j + (i' + 1) = j + 1 + i' by omega]
      · by_cases hmj : m = j
        · subst hmj
          exact ⟨o, hoj, by simp⟩
        · obtain ⟨om, h1, h2⟩ := hp m (by omega)
          exact ⟨om, h1, by rw [show j + 1 - 1 - m = (j - 1 - m) + 1 by omega, List.getElem?_cons_succ]; exact h2⟩
      · by_cases hmj : m = j
        · subst hmj
          have : om = o := Option.some.inj (hom.symm.trans hoj)
          subst this
          simp only [show m + 1 - 1 - m = 0 by omega, List.getD_cons_zero] at hx
          exact hbef x hx
        · rw [show j + 1 - 1 - m = (j - 1 - m) + 1 by omega, List.getD_cons_succ] at hx
          exact hacc m om (by omega) hom x hx

/-! ### One walk serves every order -/

def items (ops : Array Oper) (kd : Nat → Nat) (R : List Nat) : List (Oper × Nat) := R.map fun i => (ops.getD i default, kd i)

theorem bubble {kd : Nat → Nat} {i : Nat} {oi : Oper} (hsel : ∀ (j : Nat) (o : Oper) cs b, ops[j]? = some o → o.op ≠ .select cs b) (hoi : ops[i]? = some oi) (R2 : List Nat) : ∀ (R1 : List Nat) (a : Act) (w : World), C w →
    (∀ m ∈ R1, ∃ om, ops[m]? = some om ∧ om.apart ops oi = true ∧ swapB (kd m) (kd i) = true) → wpR P ops C Q (items ops kd (R1 ++ i :: R2)) a w → opM P ops C (kd i) oi (wpR P ops C Q (items ops kd (R1 ++ R2))) a w
  | [], a, w, _, _, h => by
    have e : ops.getD i default = oi := by simp [Array.getD_eq_getD_getElem?, hoi]
    simp only [items, List.nil_append, List.map_cons, wpR, e] at h ⊢
    exact h
  | m :: R1, a, w, hC, hR, h => by
    obtain ⟨om, hom, hap, hsw⟩ := hR m List.mem_cons_self
    have e : ops.getD m default = om := by simp [Array.getD_eq_getD_getElem?, hom]
    have h' : opM P ops C (kd m) om (wpR P ops C Q (items ops kd (R1 ++ i :: R2))) a w := by
      simp only [items, List.cons_append, List.map_cons, wpR, e] at h ⊢
      exact h
    have h2 := opM_mono hC (fun a' w' hC' _ _ hk => bubble hsel hoi R2 R1 a' w' hC' (fun m' hm' => hR m' (List.mem_cons_of_mem _ hm')) hk) h'
    have h3 := swap hC (fun cs b => hsel m om cs b hom) (fun cs b => hsel i oi cs b hoi) hap hsw h2
    refine opM_mono hC (fun a' w' _ _ _ hk => ?_) h3
    simp only [items, List.cons_append, List.map_cons, wpR, e] at hk ⊢
    exact hk

theorem any_of_wpR {kd : Nat → Nat} {Q' : Exit → Act → World → Prop} (hQ : ∀ a w, C w → Q a w → Q' .normal a w) (hsel : ∀ (j : Nat) (o : Oper) cs b, ops[j]? = some o → o.op ≠ .select cs b)
    (hfine : ∀ i o, ops[i]? = some o → Fine ops kd i o) : ∀ (n : Nat) (R : List Nat) (listed : Array Bool) (a : Act) (w : World), R.length = n → listed.size = ops.size → R.Pairwise (· < ·) →
    (∀ j, j < ops.size → (listed.getD j false = false ↔ j ∈ R)) → (∀ j ∈ R, j < ops.size) → Closed ops listed → C w → wpR P ops C Q (items ops kd R) a w → wpAny P .any ops Q' n listed a w := by
  intro n
  induction n with
  | zero =>
    intro R listed a w hR hsz _ hun _ _ hC h
    obtain rfl : R = [] := List.eq_nil_of_length_eq_zero hR
    refine ⟨?_, hQ _ _ hC (by simpa [items, wpR] using h)⟩
    apply List.eq_nil_iff_forall_not_mem.2
    intro j hj
    obtain ⟨h1, o, ho, _⟩ := mem_ready.1 hj
    have hlt := (Array.getElem?_eq_some_iff.1 ho).1
    have h2 : listed.getD j false = false := by
      have : j < listed.size := by omega
      simpa [this] using h1
    have := (hun j hlt).1 h2
    cases this
  | succ n ih =>
    intro R listed a w hR hsz hord hun hlt hcl hC h
    have ready_least : ∀ r0 R', R = r0 :: R' → r0 ∈ Region.ready .any ops listed := by
      intro r0 R' hRe
      have hr0 : r0 ∈ R := by rw [hRe]; exact List.mem_cons_self
      have hb := hlt r0 hr0
      refine mem_ready.2 ⟨?_, ops[r0], by simp [hb], fun e he hbe => ?_⟩
      · have := (hun r0 hb).2 hr0
        have hb' : r0 < listed.size := by omega
        simpa [hb'] using this
      · have hel := (hfine r0 ops[r0] (by simp [hb])).low e he hbe
        cases hq : listed.getD e.on false with
        | true => rfl
        | false =>
          have := (hun e.on (by omega)).1 hq
          rw [hRe] at this hord
          rcases List.mem_cons.1 this with h1 | h1
          · omega
          · have := (List.pairwise_cons.1 hord).1 e.on h1
            omega
    refine ⟨fun h0 => ?_, fun i hi => ?_⟩
    · match R, hR with
      | r0 :: R', _ =>
        have := ready_least r0 R' rfl
        rw [h0] at this
        cases this
    · obtain ⟨hl, oi, hoi, hdeps⟩ := mem_ready.1 hi
      have hisz := (Array.getElem?_eq_some_iff.1 hoi).1
      have hl' : listed.getD i false = false := by
        have : i < listed.size := by omega
        simpa [this] using hl
      have hiR := (hun i hisz).1 hl'
      obtain ⟨R1, R2, hRR⟩ := List.append_of_mem hiR
      subst hRR
      have hord' := List.pairwise_append.1 hord
      have hnot : i ∉ R1 ++ R2 := by
        intro hmem
        rcases List.mem_append.1 hmem with h1 | h1
        · have := hord'.2.2 i h1 i List.mem_cons_self; omega
        · have := (List.pairwise_cons.1 hord'.2.1).1 i h1; omega
      have hb := bubble hsel hoi R2 R1 a w hC (fun m hm => by
        have hmlt : m < i := hord'.2.2 m hm i List.mem_cons_self
        have hms := hlt m (List.mem_append_left _ hm)
        refine ⟨ops[m], by simp [hms], ?_⟩
        rcases (hfine i oi hoi).pair m ops[m] hmlt (by simp [hms]) with hbef | h2
        · have h1 := hbef listed hcl hdeps
          have h2 := (hun m hms).2 (List.mem_append_left _ hm)
          rw [h1] at h2; cases h2
        · exact h2) h
      refine wpOp_of_opM hoi hC (fun a' w' hC' hk => ih (R1 ++ R2) _ a' w' ?_ ?_ ?_ ?_ ?_ ?_ hC' hk) hb
      · simp at hR ⊢; omega
      · simp [hsz]
      · exact List.pairwise_append.2 ⟨hord'.1, (List.pairwise_cons.1 hord'.2.1).2, fun x hx y hy => hord'.2.2 x hx y (List.mem_cons_of_mem _ hy)⟩
      · intro j hj
        by_cases hji : i = j
        · subst hji
          have : i < listed.size := by omega
          simp only [Array.getD_eq_getD_getElem?, Array.getElem?_setIfInBounds_self_of_lt this, Option.getD_some]
          simpa using hnot
        · rw [getD_set_ne false hji, hun j hj]
          simp only [List.mem_append, List.mem_cons]
          constructor
          · rintro (h | h | h)
            · exact .inl h
            · exact absurd h.symm hji
            · exact .inr h
          · rintro (h | h)
            · exact .inl h
            · exact .inr (.inr h)
      · intro j hj
        refine hlt j ?_
        rcases List.mem_append.1 hj with h1 | h1
        · exact List.mem_append_left _ h1
        · exact List.mem_append_right _ (List.mem_cons_of_mem _ h1)
      · intro j oj hoj hl2 e he hbe
        by_cases hij : i = j
        · subst hij
          have : oj = oi := Option.some.inj (hoj.symm.trans hoi)
          subst this
          exact getD_set_true (hdeps e he hbe)
        · rw [getD_set_ne false hij] at hl2
          exact getD_set_true (hcl j oj hoj hl2 e he hbe)

/-- **ONE WALK, IN THE ORDER OF THE TEXT, SERVES EVERY ORDER.** 'ks': each operation's kind; 'C': what holds of the world throughout. -/
theorem region {id : Nat} {l : List Oper} {Q' : Exit → Act → World → Prop} {a : Act} {w : World} (ks : List Nat) (C : World → Prop) (hm : P.follows .mixedOrders = true) (hB : okB l ks = true)
    (hC : C w.drew) (h : wpR P l.toArray C (fun a' w' => Q' .normal a' w') (l.zip ks) a w.drew) : (Code.region id l.toArray true).wp P Q' a w := by
  simp only [okB, Bool.and_eq_true] at hB
  obtain ⟨⟨hsel, hlen⟩, hok⟩ := hB
  have hlen' : ks.length = l.length := Nat.eq_of_beq_eq_true hlen
  have hz : ∀ i, (l.zip ks)[i]? = (l.toArray[0 + i]?).map fun o => (o, (fun i => ks.getD i 0) (0 + i)) := by
    intro i
    rw [Nat.zero_add]
    rcases Nat.lt_or_ge i l.length with hi | hi
    · have hi' : i < ks.length := by omega
      simp [List.getElem?_zip_eq_some, hi, hi', List.getD]
    · have hi' : ks.length ≤ i := by omega
      have hzl : (l.zip ks).length ≤ i := by simp; omega
      simp [List.getElem?_eq_none hzl, hi]
  have hfine := okL_spec (ops := l.toArray) (kd := fun i => ks.getD i 0) (l.zip ks) 0 [] [] hz rfl (fun m hm => by omega) (fun m _ hm => by omega) hok
  refine wp_region_any hm ?_
  refine any_of_wpR (C := C) (Q := fun a' w' => Q' .normal a' w') (kd := fun i => ks.getD i 0) (fun _ _ _ h => h) (Region.noSelect_spec hsel) (fun i o ho => hfine i o (Nat.zero_le _) ho) _ (List.range l.length) _ a _
    (by simp) (by simp) List.pairwise_lt_range ?_ (by simp) ?_ hC ?_
  · intro j hj
    simp only [List.size_toArray] at hj
    simp [hj]
  · intro j oj _ hl
    exfalso
    rcases Nat.lt_or_ge j l.length with h' | h' <;> simp [h'] at hl
  · have e : items l.toArray (fun i => ks.getD i 0) (List.range l.length) = l.zip ks := by
      apply List.ext_getElem?
      intro i
      rw [hz i, Nat.zero_add]
      rcases Nat.lt_or_ge i l.length with hi | hi
      · simp [items, hi, List.getD]
      · simp [items, hi]
    rw [e]
    exact h

/-! ### The steps of the walk -/
theorem wp_post {o : Oper} {a : Act} {w : World} {K : Act → World → Prop} {ops' : Array Oper} {g : Option (Nat × Bool)} (h : Oper.wp P { o with guard := g } a w (wpList P ops' (post C K) []) (post C K)) :
    o.wp P a w (fun a' w' => C w' ∧ K a' w') (fun _ _ _ => False) := by
  have e : execOp a.eval { o with guard := g } = execOp a.eval o := by cases o; rfl
  unfold Oper.wp at *
  rw [e] at h
  generalize (execOp a.eval o).run P w = r at *
  cases r with
  | ok n w' =>
    cases n <;> simp only [Oper.upon] at h ⊢
    case enter f args =>
      refine Calls.mono h fun e w'' he => ?_
      cases e with
      | returned v => exact he
      | panicked c => exact he.elim
      | outgrown => obtain ⟨_, _, he⟩ := he; exact he.elim
    all_goals exact h
  | halt x w' => cases x <;> simp only [Oper.upon] at h ⊢; exact h.elim

theorem step0 {o : Oper} {r : List (Oper × Nat)} {a : Act} {w : World}
    (h : ∀ K : Act → World → Prop, (∀ a w, wpR P ops C Q r a w → K a w) → if Region.wanted o (yielded ops a.tmps) then upR (fun v => K (a.put o.dst v) w) w ((execOp a.eval o).run P w) else K (a.put o.dst undef) w) :
    wpR P ops C Q ((o, 0) :: r) a w := h _ fun _ _ h => h
theorem step1 {o : Oper} {r : List (Oper × Nat)} {a : Act} {w : World}
    (h : ∀ K : Act → World → Prop, (∀ a w, wpR P ops C Q r a w → K a w) → if Region.wanted o (yielded ops a.tmps) then
      upR (fun v => (∀ W, C W → upR (· = v) W ((execOp a.eval o).run P W)) ∧ K (a.put o.dst v) w) w ((execOp a.eval o).run P w) else K (a.put o.dst undef) w) :
    wpR P ops C Q ((o, 1) :: r) a w := by
  have h' := h _ fun _ _ h => h
  show opM P ops C 1 o (wpR P ops C Q r) a w
  unfold opM
  split
  · rename_i hw
    rw [if_pos hw] at h'
    obtain ⟨v, _, h1, h2⟩ := upR_out h'
    exact ⟨v, h1, h2⟩
  · rename_i hw
    rw [if_neg hw] at h'
    exact h'
theorem step2 {o : Oper} {r : List (Oper × Nat)} {a : Act} {w : World}
    (h : ∀ K : Act → World → Prop, (∀ a w, wpR P ops C Q r a w → K a w) → if Region.wanted o (yielded ops a.tmps) then wpList P #[{ o with guard := none }] (post C K) [{ o with guard := none }] a w else K (a.put o.dst undef) w) :
    wpR P ops C Q ((o, 2) :: r) a w := by
  have h' := h _ fun _ _ h => h
  show opM P ops C 2 o (wpR P ops C Q r) a w
  unfold opM
  split
  · rename_i hw
    rw [if_pos hw] at h'
    unfold wpList at h'
    rw [if_pos (by simp [Region.wanted])] at h'
    rcases h' with h' | ⟨_, _, _, h'⟩
    · exact wp_post h'
    · exact h'.elim
  · rename_i hw
    rw [if_neg hw] at h'
    exact h'
theorem step2n {o : Oper} {r : List (Oper × Nat)} {a : Act} {w : World} (hw : Region.wanted o (yielded ops a.tmps) = true)
    (h : ∀ K : Act → World → Prop, (∀ a w, wpR P ops C Q r a w → K a w) → wpList P #[{ o with guard := none }] (post C K) [{ o with guard := none }] a w) :
    wpR P ops C Q ((o, 2) :: r) a w := step2 fun K hK => by rw [if_pos hw]; exact h K hK
theorem step2s {o : Oper} {r : List (Oper × Nat)} {a : Act} {w : World} (hw : Region.wanted o (yielded ops a.tmps) = false)
    (h : wpR P ops C Q r (a.put o.dst undef) w) : wpR P ops C Q ((o, 2) :: r) a w := step2 fun K hK => by rw [if_neg (by rw [hw]; simp)]; exact hK _ _ h
theorem stepS {o : Oper} {k : Nat} {r : List (Oper × Nat)} {a : Act} {w : World} (hw : Region.wanted o (yielded ops a.tmps) = false)
    (h : ∀ K : Act → World → Prop, (∀ a w, wpR P ops C Q r a w → K a w) → K (a.put o.dst undef) w) : wpR P ops C Q ((o, k) :: r) a w := by
  show opM P ops C k o (wpR P ops C Q r) a w
  unfold opM
  rw [if_neg (by rw [hw]; simp)]
  exact h _ fun _ _ h => h
theorem post_mk {K : Act → World → Prop} {a : Act} {w : World} (h1 : C w) (h2 : K a w) : post C K .normal a w := ⟨h1, h2⟩
theorem done {a : Act} {w : World} (h : Q a w) : wpR P ops C Q [] a w := h
end
attribute [go_sem] upR_value upR_skip
attribute [irreducible] wpR opM upR post
end Go.Mix
namespace Go.MixI
open Go Go.Mix

section
variable {F : Fence} {n : Nat} {P : Program} {ops : Array Oper} {ks : List Nat} {C : World → Prop} {Q : Act → World → Prop}

/-- One operation. Kind 0: it reads, in its place; 1: it reads, and may come up elsewhere; else: it writes, or calls. -/
def opM (F : Fence) (n : Nat) (P : Program) (ops : Array Oper) (C : World → Prop) (k : Nat) (o : Oper) (K : Act → World → Prop) (a : Act) (w : World) : Prop :=
  if Region.wanted o (yielded ops a.tmps) then
    match k with
    | 0 => (∀ W, o.about P W a.eval = none) ∧ upR (fun v => K (a.put o.dst v) w) w ((execOp a.eval o).run P w)
    | 1 => (∀ W, o.about P W a.eval = none) ∧ ∃ v, (∀ W, C W → upR (· = v) W ((execOp a.eval o).run P W)) ∧ K (a.put o.dst v) w
    | _ => o.wpIn F n P a w (fun a' w' => C w' ∧ K a' w') (fun _ _ _ => False)
  else (∀ W f, o.about P W a.eval = some f → F.fn f) ∧ K (a.put o.dst undef) w

def wpR (F : Fence) (n : Nat) (P : Program) (ops : Array Oper) (C : World → Prop) (Q : Act → World → Prop) : List (Oper × Nat) → Act → World → Prop
  | [], a, w => Q a w
  | (o, k) :: r, a, w => opM F n P ops C k o (wpR F n P ops C Q r) a w

theorem wp_val {o : Oper} {a : Act} {w : World} {K K' : Act → World → Prop} (h : ∀ a' w', After o a a' → K a' w' → K' a' w') (hh : o.wpIn F n P a w K (fun _ _ _ => False)) : o.wpIn F n P a w K' (fun _ _ _ => False) := by
  unfold Oper.wpIn at *
  refine ⟨hh.1, ?_⟩
  replace hh := hh.2
  generalize (o.semAt F.round a.eval).run P w = r at *
  cases r with
  | ok x w' =>
    cases x <;> simp only [Oper.uponIn] at hh ⊢
    case enter f args =>
      refine ⟨hh.1, CallsIn.mono hh.2 fun e w'' he => ?_⟩
      cases e with
      | returned v => exact h _ _ (after_put o a v) he
      | panicked c => exact he
      | outgrown => exact he
    case row row args => exact ⟨hh.1, RowsIn.mono hh.2 fun v w'' he => h _ _ (after_put o a v) he⟩
    case round l f tmps assign body =>
      refine ⟨hh.1, RoundIn.mono hh.2 fun e w'' he => ?_⟩
      cases e with
      | returned v => exact h _ _ (after_put o a v) he
      | panicked c => exact he
      | outgrown => exact he
    case defer d => exact h _ _ ⟨undef, _, rfl⟩ hh
    all_goals first | exact h _ _ (after_put o a _) hh | exact hh
  | halt x w' => cases x <;> simp only [Oper.uponIn] at hh ⊢

theorem wp_any {o : Oper} {a : Act} {w : World} {K : Act → World → Prop} {Q' : Exit → Act → World → Prop} (hh : o.wpIn F n P a w K (fun _ _ _ => False)) : o.wpIn F n P a w K Q' := by
  unfold Oper.wpIn at *
  refine ⟨hh.1, ?_⟩
  replace hh := hh.2
  generalize (o.semAt F.round a.eval).run P w = r at *
  cases r with
  | ok x w' =>
    cases x <;> simp only [Oper.uponIn] at hh ⊢
    case enter f args =>
      refine ⟨hh.1, CallsIn.mono hh.2 fun e w'' he => ?_⟩
      cases e with
      | returned v => exact he
      | panicked c => exact he.elim
      | outgrown => exact not_letsOut he
    case round l f tmps assign body =>
      refine ⟨hh.1, RoundIn.mono hh.2 fun e w'' he => ?_⟩
      cases e with
      | returned v => exact he
      | panicked c => exact he.elim
      | outgrown => exact not_letsOut he
    all_goals first | exact hh | exact hh.elim
  | halt x w' => cases x <;> simp only [Oper.uponIn] at hh

theorem opM_mono {k : Nat} {o : Oper} {K K' : Act → World → Prop} {a : Act} {w : World} (hC : C w) (h : ∀ a' w', C w' → After o a a' → (k ≤ 1 → w' = w) → K a' w' → K' a' w') (hh : opM F n P ops C k o K a w) : opM F n P ops C k o K' a w := by
  unfold opM at *
  split at hh
  · rename_i hw
    rw [if_pos hw]
    split at hh
    · exact ⟨hh.1, upR_mono (fun v => h _ _ hC (after_put o a v) (fun _ => rfl)) hh.2⟩
    · obtain ⟨h0, v, h1, h2⟩ := hh; exact ⟨h0, v, h1, h _ _ hC (after_put o a v) (fun _ => rfl) h2⟩
    · rename_i h0 h1
      exact wp_val (fun a' w' ha ⟨c, hk⟩ => ⟨c, h _ _ c ha (fun hle => by exfalso; rcases k with _ | _ | k; exact h0 rfl; exact h1 rfl; omega) hk⟩) hh
  · rename_i hw
    rw [if_neg hw]; exact ⟨hh.1, h _ _ hC (after_put o a undef) (fun _ => rfl) hh.2⟩

theorem wpOp_of_opM {i k : Nat} {o : Oper} (ho : ops[i]? = some o) (hd : ∀ c, o.op ≠ .defer c) {K : Act → World → Prop} {K' : Act → World → Prop} {Q' : Exit → Act → World → Prop} {a : Act} {w : World} (hC : C w)
    (h : ∀ a' w', C w' → K a' w' → K' a' w') (hh : opM F n P ops C k o K a w) : wpOpIn F n P ops Q' i K' a w := by
  unfold opM at hh
  unfold wpOpIn
  simp only [ho]
  split at hh
  · rename_i hw
    rw [if_pos hw]
    split at hh
    · obtain ⟨hab, hh⟩ := hh
      unfold Oper.wpIn
      refine ⟨fun f hf => (by rw [hab] at hf; cases hf), ?_⟩
      rw [Oper.semAt_eq _ _ _ hd]
      generalize (execOp a.eval o).run P w = r at *
      cases r with
      | ok x w' => cases x <;> simp only [upR, Oper.uponIn] at hh ⊢ <;> (obtain ⟨rfl, h2⟩ := hh; exact h _ _ hC h2)
      | halt x w' => simp only [upR] at hh
    · obtain ⟨hab, v, h1, h2⟩ := hh
      have h3 := h1 w hC
      unfold Oper.wpIn
      refine ⟨fun f hf => (by rw [hab] at hf; cases hf), ?_⟩
      rw [Oper.semAt_eq _ _ _ hd]
      generalize (execOp a.eval o).run P w = r at *
      cases r with
      | ok x w' => cases x <;> simp only [upR, Oper.uponIn] at h3 ⊢ <;> (obtain ⟨rfl, rfl⟩ := h3; exact h _ _ hC h2)
      | halt x w' => simp only [upR] at h3
    · exact wp_any (wp_val (fun a' w' _ ⟨c, hk⟩ => h _ _ c hk) hh)
  · rename_i hw
    rw [if_neg hw]; exact ⟨fun f hf => hh.1 w f hf, h _ _ hC hh.2⟩

theorem upon_put {o : Oper} {a : Act} {dst : Option Tmp} {v : Value} {r : Result Next} {K : Act → World → Prop} (hd : ∀ d, dst = some d → o.dst ≠ some d) :
    o.uponIn F n P (a.put dst v) K (fun _ _ _ => False) r ↔ o.uponIn F n P a (fun a' w' => K (a'.put dst v) w') (fun _ _ _ => False) r := by
  cases r with
  | ok x w' =>
    cases x <;> simp only [Oper.uponIn]
    case value u => rw [Act.put_comm a v u hd]
    case skip => rw [Act.put_comm a v undef hd]
    case defer d => rw [Act.put_defers, Act.put_comm _ v undef hd]
    case enter f args =>
      constructor <;> intro h <;> refine ⟨h.1, CallsIn.mono h.2 fun e w'' he => ?_⟩ <;> cases e with
      | returned u =>
        have q := Act.put_comm a v u hd
        first
          | exact (show K ((a.put o.dst u).put dst v) w'' by rw [← q]; exact he)
          | exact (show K ((a.put dst v).put o.dst u) w'' by rw [q]; exact he)
      | panicked c => exact he
      | outgrown => exact he
    case round l f tmps assign body =>
      constructor <;> intro h <;> refine ⟨h.1, RoundIn.mono h.2 fun e w'' he => ?_⟩ <;> cases e with
      | returned u =>
        have q := Act.put_comm a v u hd
        first
          | exact (show K ((a.put o.dst u).put dst v) w'' by rw [← q]; exact he)
          | exact (show K ((a.put dst v).put o.dst u) w'' by rw [q]; exact he)
      | panicked c => exact he
      | outgrown => exact he
    case row row args =>
      constructor <;> intro h <;> refine ⟨h.1, RowsIn.mono h.2 fun u w'' he => ?_⟩ <;> first | (rw [Act.put_comm a v u hd] at he; exact he) | (rw [← Act.put_comm a v u hd] at he; exact he)
  | halt x w' => cases x <;> simp only [Oper.uponIn]

/-- Out of an operation that writes: an outcome. -/
theorem upon_some (hr : F.depth = none) {o : Oper} {a : Act} {r : Result Next} {K : Act → World → Prop} (h : o.uponIn F n P a K (fun _ _ _ => False) r) : ∃ a' w', K a' w' ∧ After o a a' := by
  have room : ∀ m, F.room m := fun m d hd => by rw [hr] at hd; cases hd
  cases r with
  | ok x w' =>
    cases x <;> simp only [Oper.uponIn] at h
    case value u => exact ⟨_, _, h, after_put o a u⟩
    case skip => exact ⟨_, _, h, after_put o a undef⟩
    case defer d => exact ⟨_, _, h, undef, _, rfl⟩
    case enter f args =>
      obtain ⟨e, w'', fr, he, _⟩ := h.2.2 [] (room _)
      cases e with
      | returned v => exact ⟨_, _, he, after_put o a v⟩
      | panicked c => exact he.elim
      | outgrown => exact not_letsOut he
    case round l f tmps assign body =>
      obtain ⟨e, w'', he, _⟩ := h.2.2 (Frame.enter P 0 #[] .normal) [] (room _)
      cases e with
      | returned v => exact ⟨_, _, he, after_put o a v⟩
      | panicked c => exact he.elim
      | outgrown => exact not_letsOut he
    case row row args =>
      obtain ⟨v, w'', he, _⟩ := h.2 (Frame.enter P 0 #[] .normal) [] (room _)
      exact ⟨_, _, he, after_put o a v⟩
  | halt x w' => cases x <;> simp only [Oper.uponIn] at h

theorem semAt_put {o : Oper} (hs : ∀ cs b, o.op ≠ .select cs b) (hd : ∀ c, o.op ≠ .defer c) {dst : Option Tmp} (h1 : ∀ d, dst = some d → d ∉ o.looksAt ops) (a : Act) (v : Value) :
    o.semAt F.round (a.put dst v).eval = o.semAt F.round a.eval := by
  rw [Oper.semAt_eq _ _ _ hd, Oper.semAt_eq _ _ _ hd]; exact execOp_put o hs a dst v h1

theorem opM_put {k : Nat} {o : Oper} {K : Act → World → Prop} {a : Act} {w : World} {dst : Option Tmp} {v : Value} (hs : ∀ cs b, o.op ≠ .select cs b) (hdf : ∀ c, o.op ≠ .defer c) (h1 : ∀ d, dst = some d → d ∉ o.looksAt ops)
    (h2 : ∀ d, dst = some d → o.dst ≠ some d) : opM F n P ops C k o K (a.put dst v) w ↔ opM F n P ops C k o (fun a' w' => K (a'.put dst v) w') a w := by
  have hab : ∀ W, o.about P W (a.put dst v).eval = o.about P W a.eval := fun W => about_put o W a dst v h1
  unfold opM
  rw [wanted_put o a dst v h1]
  split
  · split
    · rw [execOp_put o hs a dst v h1]
      have e : (fun u => K ((a.put dst v).put o.dst u) w) = fun u => K ((a.put o.dst u).put dst v) w := by funext u; rw [Act.put_comm a v u h2]
      rw [e]
      simp only [hab]
    · rw [execOp_put o hs a dst v h1]
      simp only [hab]
      constructor
      · rintro ⟨h0, u, hu, hk⟩; exact ⟨h0, u, hu, by show K ((a.put o.dst u).put dst v) w; rw [← Act.put_comm a v u h2]; exact hk⟩
      · rintro ⟨h0, u, hu, hk⟩; exact ⟨h0, u, hu, by rw [Act.put_comm a v u h2]; exact hk⟩
    · unfold Oper.wpIn
      rw [semAt_put hs hdf h1, hab]
      exact and_congr Iff.rfl (upon_put h2)
  · rw [Act.put_comm a v undef h2]
    simp only [hab]

theorem after_same {o m : Oper} {a a' : Act} (ha : After m a a') (hs : ∀ cs b, o.op ≠ .select cs b) (h1 : ∀ d, m.dst = some d → d ∉ o.looksAt ops) :
    execOp a'.eval o = execOp a.eval o ∧ Region.wanted o (yielded ops a'.tmps) = Region.wanted o (yielded ops a.tmps) ∧ ∀ W, o.about P W a'.eval = o.about P W a.eval := by
  obtain ⟨v, dl, rfl⟩ := ha
  refine ⟨?_, ?_, fun W => ?_⟩
  · rw [execOp_put o hs _ m.dst v h1, eval_defers]
  · rw [wanted_put o _ m.dst v h1]
  · rw [about_put o W _ m.dst v h1, eval_defers]

theorem swap (hr : F.depth = none) {km ki : Nat} {om oi : Oper} {K : Act → World → Prop} {a : Act} {w : World} (hC : C w) (hsm : ∀ cs b, om.op ≠ .select cs b) (hsi : ∀ cs b, oi.op ≠ .select cs b) (hdm : ∀ c, om.op ≠ .defer c) (hdi : ∀ c, oi.op ≠ .defer c)
    (hap : om.apart ops oi = true) (hk : swapB km ki = true) (h : opM F n P ops C km om (opM F n P ops C ki oi K) a w) : opM F n P ops C ki oi (opM F n P ops C km om K) a w := by
  obtain ⟨h1, h2, h3⟩ := Oper.apart_spec hap
  have h2' : ∀ d, oi.dst = some d → om.dst ≠ some d := fun d hd e => h2 d e hd
  by_cases hw : Region.wanted om (yielded ops a.tmps) = true
  · have hmk : ∀ a', After oi a a' → Region.wanted om (yielded ops a'.tmps) = true ∧ execOp a'.eval om = execOp a.eval om ∧ ∀ W, om.about P W a'.eval = om.about P W a.eval := fun a' ha => ⟨by rw [(after_same (P := P) ha hsm h3).2.1]; exact hw, (after_same (P := P) ha hsm h3).1, (after_same ha hsm h3).2.2⟩
    match km, hk with
    | 0, hk =>
      unfold opM at h
      rw [if_pos hw] at h
      simp only at h
      obtain ⟨hab, h⟩ := h
      obtain ⟨v, hv, hn⟩ := upR_out h
      have hn' : opM F n P ops C ki oi K (a.put om.dst v) w := hn
      rw [opM_put hsi hdi h1 h2] at hn'
      have hki : ki ≤ 1 := by
        simp only [swapB, Bool.or_eq_true, Bool.and_eq_true, Nat.ble_eq, Nat.beq_eq] at hk
        omega
      refine opM_mono hC (fun a' w' _ ha hww hk' => ?_) hn'
      have hwe := hww hki
      subst hwe
      obtain ⟨q1, q2, q3⟩ := hmk a' ha
      unfold opM
      rw [if_pos q1, q2]
      exact ⟨fun W => by rw [q3]; exact hab W, upR_mono (fun u hu => by subst hu; exact hk') hv⟩
    | 1, hk =>
      unfold opM at h
      rw [if_pos hw] at h
      simp only at h
      obtain ⟨hab, v, hv, hn⟩ := h
      have hn' : opM F n P ops C ki oi K (a.put om.dst v) w := hn
      rw [opM_put hsi hdi h1 h2] at hn'
      refine opM_mono hC (fun a' w' _ ha _ hk' => ?_) hn'
      obtain ⟨q1, q2, q3⟩ := hmk a' ha
      unfold opM
      rw [if_pos q1, q2]
      exact ⟨fun W => by rw [q3]; exact hab W, v, hv, hk'⟩
    | km + 2, hk =>
      have hki : ki = 1 := by
        simp only [swapB, Bool.or_eq_true, Bool.and_eq_true, Nat.ble_eq, Nat.beq_eq] at hk
        omega
      subst hki
      unfold opM at h
      rw [if_pos hw] at h
      simp only at h
      have hi : ∀ a', After om a a' → Region.wanted oi (yielded ops a'.tmps) = Region.wanted oi (yielded ops a.tmps) ∧ execOp a'.eval oi = execOp a.eval oi ∧ ∀ W, oi.about P W a'.eval = oi.about P W a.eval := fun a' ha => ⟨(after_same (P := P) ha hsi h1).2.1, (after_same (P := P) ha hsi h1).1, (after_same ha hsi h1).2.2⟩
      by_cases hwi : Region.wanted oi (yielded ops a.tmps) = true
      · obtain ⟨a1, w1, ⟨hC1, hk1⟩, ha1⟩ := upon_some hr h.2
        obtain ⟨q1, q2, q3⟩ := hi a1 ha1
        rw [if_pos (q1.trans hwi), q2] at hk1
        obtain ⟨hab, v, hv, _⟩ := hk1
        unfold opM
        rw [if_pos hwi]
        refine ⟨fun W => by rw [← q3]; exact hab W, v, hv, ?_⟩
        show opM F n P ops C (km + 2) om K (a.put oi.dst v) w
        rw [opM_put hsm hdm h3 h2']
        unfold opM
        rw [if_pos hw]
        refine wp_val (fun a' w' ha ⟨hC', hk'⟩ => ⟨hC', ?_⟩) h
        obtain ⟨q1', q2', _⟩ := hi a' ha
        rw [if_pos (q1'.trans hwi), q2'] at hk'
        obtain ⟨_, v', hv', hK⟩ := hk'
        have e := upR_eq (hv w hC) (hv' w hC)
        subst e
        exact hK
      · obtain ⟨a1, w1, ⟨hC1, hk1⟩, ha1⟩ := upon_some hr h.2
        obtain ⟨q1, q2, q3⟩ := hi a1 ha1
        rw [if_neg (by rw [q1]; exact hwi)] at hk1
        unfold opM
        rw [if_neg hwi]
        refine ⟨fun W f hf => hk1.1 W f (by rw [q3]; exact hf), ?_⟩
        show opM F n P ops C (km + 2) om K (a.put oi.dst undef) w
        rw [opM_put hsm hdm h3 h2']
        unfold opM
        rw [if_pos hw]
        refine wp_val (fun a' w' ha ⟨hC', hk'⟩ => ⟨hC', ?_⟩) h
        rw [if_neg (by rw [(hi a' ha).1]; exact hwi)] at hk'
        exact hk'.2
  · have h' : (∀ W f, om.about P W a.eval = some f → F.fn f) ∧ opM F n P ops C ki oi K (a.put om.dst undef) w := by
      unfold opM at h
      rw [if_neg hw] at h
      exact h
    obtain ⟨hab, h'⟩ := h'
    rw [opM_put hsi hdi h1 h2] at h'
    refine opM_mono hC (fun a' w' _ ha _ hk' => ?_) h'
    unfold opM
    rw [if_neg (by rw [(after_same (P := P) ha hsm h3).2.1]; exact hw)]
    exact ⟨fun W f hf => hab W f (by rw [← (after_same ha hsm h3).2.2]; exact hf), hk'⟩

end

section
variable {F : Fence} {n : Nat} {P : Program} {ops : Array Oper} {C : World → Prop} {Q : Act → World → Prop}

theorem bubble (hr : F.depth = none) {kd : Nat → Nat} {i : Nat} {oi : Oper} (hsel : ∀ (j : Nat) (o : Oper) cs b, ops[j]? = some o → o.op ≠ .select cs b) (hdf : ∀ (j : Nat) (o : Oper) c, ops[j]? = some o → o.op ≠ .defer c) (hoi : ops[i]? = some oi) (R2 : List Nat) : ∀ (R1 : List Nat) (a : Act) (w : World), C w →
    (∀ m ∈ R1, ∃ om, ops[m]? = some om ∧ om.apart ops oi = true ∧ swapB (kd m) (kd i) = true) → wpR F n P ops C Q (items ops kd (R1 ++ i :: R2)) a w → opM F n P ops C (kd i) oi (wpR F n P ops C Q (items ops kd (R1 ++ R2))) a w
  | [], a, w, _, _, h => by
    have e : ops.getD i default = oi := by simp [Array.getD_eq_getD_getElem?, hoi]
    simp only [items, List.nil_append, List.map_cons, wpR, e] at h ⊢
    exact h
  | m :: R1, a, w, hC, hR, h => by
    obtain ⟨om, hom, hap, hsw⟩ := hR m List.mem_cons_self
    have e : ops.getD m default = om := by simp [Array.getD_eq_getD_getElem?, hom]
    have h' : opM F n P ops C (kd m) om (wpR F n P ops C Q (items ops kd (R1 ++ i :: R2))) a w := by
      simp only [items, List.cons_append, List.map_cons, wpR, e] at h ⊢
      exact h
    have h2 := opM_mono hC (fun a' w' hC' _ _ hk => bubble hr hsel hdf hoi R2 R1 a' w' hC' (fun m' hm' => hR m' (List.mem_cons_of_mem _ hm')) hk) h'
    have h3 := swap hr hC (fun cs b => hsel m om cs b hom) (fun cs b => hsel i oi cs b hoi) (fun c => hdf m om c hom) (fun c => hdf i oi c hoi) hap hsw h2
    refine opM_mono hC (fun a' w' _ _ _ hk => ?_) h3
    simp only [items, List.cons_append, List.map_cons, wpR, e] at hk ⊢
    exact hk

theorem any_of_wpR (hr : F.depth = none) {kd : Nat → Nat} {Q' : Exit → Act → World → Prop} (hQ : ∀ a w, C w → Q a w → Q' .normal a w) (hsel : ∀ (j : Nat) (o : Oper) cs b, ops[j]? = some o → o.op ≠ .select cs b) (hdf : ∀ (j : Nat) (o : Oper) c, ops[j]? = some o → o.op ≠ .defer c)
    (hfine : ∀ i o, ops[i]? = some o → Fine ops kd i o) : ∀ (m : Nat) (R : List Nat) (listed : Array Bool) (a : Act) (w : World), R.length = m → listed.size = ops.size → R.Pairwise (· < ·) →
    (∀ j, j < ops.size → (listed.getD j false = false ↔ j ∈ R)) → (∀ j ∈ R, j < ops.size) → Closed ops listed → C w → wpR F n P ops C Q (items ops kd R) a w → wpAnyIn F n P .any ops Q' m listed a w := by
  intro m
  induction m with
  | zero =>
    intro R listed a w hR hsz _ hun _ _ hC h
    obtain rfl : R = [] := List.eq_nil_of_length_eq_zero hR
    refine ⟨?_, hQ _ _ hC (by simpa [items, wpR] using h)⟩
    apply List.eq_nil_iff_forall_not_mem.2
    intro j hj
    obtain ⟨h1, o, ho, _⟩ := mem_ready.1 hj
    have hlt := (Array.getElem?_eq_some_iff.1 ho).1
    have h2 : listed.getD j false = false := by
      have : j < listed.size := by omega
      simpa [this] using h1
    have := (hun j hlt).1 h2
    cases this
  | succ m ih =>
    intro R listed a w hR hsz hord hun hlt hcl hC h
    have ready_least : ∀ r0 R', R = r0 :: R' → r0 ∈ Region.ready .any ops listed := by
      intro r0 R' hRe
      have hr0 : r0 ∈ R := by rw [hRe]; exact List.mem_cons_self
      have hb := hlt r0 hr0
      refine mem_ready.2 ⟨?_, ops[r0], by simp [hb], fun e he hbe => ?_⟩
      · have := (hun r0 hb).2 hr0
        have hb' : r0 < listed.size := by omega
        simpa [hb'] using this
      · have hel := (hfine r0 ops[r0] (by simp [hb])).low e he hbe
        cases hq : listed.getD e.on false with
        | true => rfl
        | false =>
          have := (hun e.on (by omega)).1 hq
          rw [hRe] at this hord
          rcases List.mem_cons.1 this with h1 | h1
          · omega
          · have := (List.pairwise_cons.1 hord).1 e.on h1
            omega
    refine ⟨fun h0 => ?_, fun i hi => ?_⟩
    · match R, hR with
      | r0 :: R', _ =>
        have := ready_least r0 R' rfl
        rw [h0] at this
        cases this
    · obtain ⟨hl, oi, hoi, hdeps⟩ := mem_ready.1 hi
      have hisz := (Array.getElem?_eq_some_iff.1 hoi).1
      have hl' : listed.getD i false = false := by
        have : i < listed.size := by omega
        simpa [this] using hl
      have hiR := (hun i hisz).1 hl'
      obtain ⟨R1, R2, hRR⟩ := List.append_of_mem hiR
      subst hRR
      have hord' := List.pairwise_append.1 hord
      have hnot : i ∉ R1 ++ R2 := by
        intro hmem
        rcases List.mem_append.1 hmem with h1 | h1
        · have := hord'.2.2 i h1 i List.mem_cons_self; omega
        · have := (List.pairwise_cons.1 hord'.2.1).1 i h1; omega
      have hb := bubble hr hsel hdf hoi R2 R1 a w hC (fun m hm => by
        have hmlt : m < i := hord'.2.2 m hm i List.mem_cons_self
        have hms := hlt m (List.mem_append_left _ hm)
        refine ⟨ops[m], by simp [hms], ?_⟩
        rcases (hfine i oi hoi).pair m ops[m] hmlt (by simp [hms]) with hbef | h2
        · have h1 := hbef listed hcl hdeps
          have h2 := (hun m hms).2 (List.mem_append_left _ hm)
          rw [h1] at h2; cases h2
        · exact h2) h
      refine wpOp_of_opM hoi (fun c => hdf i oi c hoi) hC (fun a' w' hC' hk => ih (R1 ++ R2) _ a' w' ?_ ?_ ?_ ?_ ?_ ?_ hC' hk) hb
      · simp at hR ⊢; omega
      · simp [hsz]
      · exact List.pairwise_append.2 ⟨hord'.1, (List.pairwise_cons.1 hord'.2.1).2, fun x hx y hy => hord'.2.2 x hx y (List.mem_cons_of_mem _ hy)⟩
      · intro j hj
        by_cases hji : i = j
        · subst hji
          have : i < listed.size := by omega
          simp only [Array.getD_eq_getD_getElem?, Array.getElem?_setIfInBounds_self_of_lt this, Option.getD_some]
          simpa using hnot
        · rw [getD_set_ne false hji, hun j hj]
          simp only [List.mem_append, List.mem_cons]
          constructor
          · rintro (h | h | h)
            · exact .inl h
            · exact absurd h.symm hji
            · exact .inr h
          · rintro (h | h)
            · exact .inl h
            · exact .inr (.inr h)
      · intro j hj
        refine hlt j ?_
        rcases List.mem_append.1 hj with h1 | h1
        · exact List.mem_append_left _ h1
        · exact List.mem_append_right _ (List.mem_cons_of_mem _ h1)
      · intro j oj hoj hl2 e he hbe
        by_cases hij : i = j
        · subst hij
          have : oj = oi := Option.some.inj (hoj.symm.trans hoi)
          subst this
          exact getD_set_true (hdeps e he hbe)
        · rw [getD_set_ne false hij] at hl2
          exact getD_set_true (hcl j oj hoj hl2 e he hbe)

def noDefer (ops : Array Oper) : Bool := ops.all fun o => match o.op with | .defer .. => false | _ => true
theorem noDefer_spec (h : noDefer ops = true) (j : Nat) (o : Oper) (ho : ops[j]? = some o) : ∀ c, o.op ≠ .defer c := by
  intro c he
  unfold noDefer at h
  rw [Array.all_eq_true] at h
  obtain ⟨hj, rfl⟩ := Array.getElem?_eq_some_iff.1 ho
  have := h j hj
  rw [he] at this
  cases this

/-- **ONE WALK, IN THE ORDER OF THE TEXT, SERVES EVERY ORDER; inside a fence.** -/
theorem region (hr : F.depth = none) {id : Nat} {l : List Oper} {Q' : Exit → Act → World → Prop} {a : Act} {w : World} (ks : List Nat) (C : World → Prop) (hm : P.follows .mixedOrders = true) (hB : (okB l ks && noDefer l.toArray) = true)
    (hC : C w.drew) (h : wpR F n P l.toArray C (fun a' w' => Q' .normal a' w') (l.zip ks) a w.drew) : (Code.region id l.toArray true).wpIn F n P Q' a w := by
  simp only [okB, Bool.and_eq_true] at hB
  obtain ⟨⟨⟨hsel, hlen⟩, hok⟩, hnd⟩ := hB
  have hlen' : ks.length = l.length := Nat.eq_of_beq_eq_true hlen
  have hz : ∀ i, (l.zip ks)[i]? = (l.toArray[0 + i]?).map fun o => (o, (fun i => ks.getD i 0) (0 + i)) := by
    intro i
    rw [Nat.zero_add]
    rcases Nat.lt_or_ge i l.length with hi | hi
    · have hi' : i < ks.length := by omega
      simp [List.getElem?_zip_eq_some, hi, hi', List.getD]
    · have hi' : ks.length ≤ i := by omega
      have hzl : (l.zip ks).length ≤ i := by simp; omega
      simp [List.getElem?_eq_none hzl, hi]
  have hfine := okL_spec (ops := l.toArray) (kd := fun i => ks.getD i 0) (l.zip ks) 0 [] [] hz rfl (fun m hm => by omega) (fun m _ hm => by omega) hok
  refine wpIn_region_any hm ?_
  refine any_of_wpR hr (C := C) (Q := fun a' w' => Q' .normal a' w') (kd := fun i => ks.getD i 0) (fun _ _ _ h => h) (Region.noSelect_spec hsel) (fun j o c ho => noDefer_spec hnd j o ho c) (fun i o ho => hfine i o (Nat.zero_le _) ho) _ (List.range l.length) _ a _
    (by simp) (by simp) List.pairwise_lt_range ?_ (by simp) ?_ hC ?_
  · intro j hj
    simp only [List.size_toArray] at hj
    simp [hj]
  · intro j oj _ hl
    exfalso
    rcases Nat.lt_or_ge j l.length with h' | h' <;> simp [h'] at hl
  · have e : items l.toArray (fun i => ks.getD i 0) (List.range l.length) = l.zip ks := by
      apply List.ext_getElem?
      intro i
      rw [hz i, Nat.zero_add]
      rcases Nat.lt_or_ge i l.length with hi | hi
      · simp [items, hi, List.getD]
      · simp [items, hi]
    rw [e]
    exact h

/-- The post of one operation that writes. -/
def post (C : World → Prop) (K : Act → World → Prop) : Exit → Act → World → Prop
  | .normal, a, w => C w ∧ K a w
  | _, _, _ => False
theorem post_normal (C : World → Prop) (K : Act → World → Prop) (a : Act) (w : World) : post C K .normal a w = (C w ∧ K a w) := rfl

theorem wp_post {o : Oper} {a : Act} {w : World} {K : Act → World → Prop} {ops' : Array Oper} {g : Option (Nat × Bool)} (h : Oper.wpIn F n P { o with guard := g } a w (wpListIn F n P ops' (post C K) []) (post C K)) :
    o.wpIn F n P a w (fun a' w' => C w' ∧ K a' w') (fun _ _ _ => False) := by
  have e : Oper.semAt F.round a.eval { o with guard := g } = Oper.semAt F.round a.eval o := by cases o; rfl
  have e2 : Oper.about P w a.eval { o with guard := g } = Oper.about P w a.eval o := by cases o; rfl
  unfold Oper.wpIn at *
  rw [e, e2] at h
  refine ⟨h.1, ?_⟩
  replace h := h.2
  generalize (o.semAt F.round a.eval).run P w = r at *
  cases r with
  | ok x w' =>
    cases x <;> simp only [Oper.uponIn] at h ⊢
    case enter f args =>
      refine ⟨h.1, CallsIn.mono h.2 fun e w'' he => ?_⟩
      cases e with
      | returned v => exact he
      | panicked c => exact he.elim
      | outgrown => obtain ⟨_, _, he⟩ := he; exact he.elim
    case round l f tmps assign body =>
      refine ⟨h.1, RoundIn.mono h.2 fun e w'' he => ?_⟩
      cases e with
      | returned v => exact he
      | panicked c => exact he.elim
      | outgrown => obtain ⟨_, _, he⟩ := he; exact he.elim
    all_goals exact h
  | halt x w' => cases x <;> simp only [Oper.uponIn] at h ⊢; exact h.elim

theorem step0 {o : Oper} {r : List (Oper × Nat)} {a : Act} {w : World}
    (h : ∀ K : Act → World → Prop, (∀ a w, wpR F n P ops C Q r a w → K a w) → if Region.wanted o (yielded ops a.tmps) then (∀ W, o.about P W a.eval = none) ∧ upR (fun v => K (a.put o.dst v) w) w ((execOp a.eval o).run P w) else (∀ W f, o.about P W a.eval = some f → F.fn f) ∧ K (a.put o.dst undef) w) :
    wpR F n P ops C Q ((o, 0) :: r) a w := h _ fun _ _ h => h
theorem step1 {o : Oper} {r : List (Oper × Nat)} {a : Act} {w : World}
    (h : ∀ K : Act → World → Prop, (∀ a w, wpR F n P ops C Q r a w → K a w) → if Region.wanted o (yielded ops a.tmps) then
      (∀ W, o.about P W a.eval = none) ∧ upR (fun v => (∀ W, C W → upR (· = v) W ((execOp a.eval o).run P W)) ∧ K (a.put o.dst v) w) w ((execOp a.eval o).run P w) else (∀ W f, o.about P W a.eval = some f → F.fn f) ∧ K (a.put o.dst undef) w) :
    wpR F n P ops C Q ((o, 1) :: r) a w := by
  have h' := h _ fun _ _ h => h
  show opM F n P ops C 1 o (wpR F n P ops C Q r) a w
  unfold opM
  split
  · rename_i hw
    rw [if_pos hw] at h'
    obtain ⟨hab, h'⟩ := h'
    obtain ⟨v, _, h1, h2⟩ := upR_out h'
    exact ⟨hab, v, h1, h2⟩
  · rename_i hw
    rw [if_neg hw] at h'
    exact h'
theorem step2n {o : Oper} {r : List (Oper × Nat)} {a : Act} {w : World} (hw : Region.wanted o (yielded ops a.tmps) = true)
    (h : ∀ K : Act → World → Prop, (∀ a w, wpR F n P ops C Q r a w → K a w) → wpListIn F n P #[{ o with guard := none }] (post C K) [{ o with guard := none }] a w) :
    wpR F n P ops C Q ((o, 2) :: r) a w := by
  have h' := h _ fun _ _ h => h
  show opM F n P ops C 2 o (wpR F n P ops C Q r) a w
  unfold opM
  rw [if_pos hw]
  unfold wpListIn at h'
  rw [if_pos (by simp [Region.wanted])] at h'
  exact wp_post h'
theorem stepS {o : Oper} {k : Nat} {r : List (Oper × Nat)} {a : Act} {w : World} (hw : Region.wanted o (yielded ops a.tmps) = false)
    (h : ∀ K : Act → World → Prop, (∀ a w, wpR F n P ops C Q r a w → K a w) → (∀ W f, o.about P W a.eval = some f → F.fn f) ∧ K (a.put o.dst undef) w) : wpR F n P ops C Q ((o, k) :: r) a w := by
  show opM F n P ops C k o (wpR F n P ops C Q r) a w
  unfold opM
  rw [if_neg (by rw [hw]; simp)]
  exact h _ fun _ _ h => h
theorem post_mk {K : Act → World → Prop} {a : Act} {w : World} (h1 : C w) (h2 : K a w) : post C K .normal a w := ⟨h1, h2⟩
theorem done {a : Act} {w : World} (h : Q a w) : wpR F n P ops C Q [] a w := h
end
attribute [irreducible] wpR opM post
end Go.MixI
namespace Go.Mix
open Go

section
variable {P : Program} {ops : Array Oper} {C C2 : World → Prop} {Q : Act → World → Prop}

def crossL (ops : Array Oper) (n1 : Nat) : List Oper → Nat → List Nat → Bool
  | [], _, _ => true
  | o :: rest, j, acc => CheckFast.force (CheckFast.one (fun i => if i < j then acc.getD (j - 1 - i) 0 else 0) o) fun v =>
      (Nat.blt j n1 || (List.range n1).all fun m => v.testBit m) && crossL ops n1 rest (j + 1) (v :: acc)

theorem crossL_spec {n1 : Nat} : ∀ (l : List Oper) (j : Nat) (acc : List Nat),
    (∀ i, l[i]? = ops[j + i]?) → (∀ m om, m < j → ops[m]? = some om → ∀ x, (acc.getD (j - 1 - m) 0).testBit x = true → Before ops x om) → (∀ i o, ops[i]? = some o → ∀ e ∈ o.after, Region.binds .any e = true → e.on < i) →
    crossL ops n1 l j acc = true → ∀ i o, j ≤ i → n1 ≤ i → ops[i]? = some o → ∀ m, m < n1 → Before ops m o
  | [], j, _, hl, _, _, _ => fun i o hi _ ho => by
    have := hl (i - j)
    rw [show j + (i - j) = i by omega, ho] at this
    simp at this
  | o :: rest, j, acc, hl, hacc, hlow, h => by
    have h0 := hl 0
    simp only [List.getElem?_cons_zero, Nat.add_zero] at h0
    have hoj : ops[j]? = some o := h0.symm
    simp only [crossL, CheckFast.force_eq, Bool.and_eq_true] at h
    obtain ⟨hv, hrest⟩ := h
    have hbef : ∀ x, (CheckFast.one (fun i => if i < j then acc.getD (j - 1 - i) 0 else 0) o).testBit x = true → Before ops x o := by
      intro x hx listed hcl hd
      obtain ⟨e, he, hb, hx⟩ := one_spec hx
      have hel := hd e he hb
      rcases hx with rfl | hx
      · exact hel
      · have hlt := hlow j o hoj e he hb
        simp only [hlt, if_true] at hx
        have hsz : e.on < ops.size := Nat.lt_trans hlt (Array.getElem?_eq_some_iff.1 hoj).1
        exact hacc e.on ops[e.on] hlt (by simp [hsz]) x hx listed hcl (hcl e.on ops[e.on] (by simp [hsz]) hel)
    intro i o' hi hn ho' m hm
    by_cases hij : i = j
    · subst hij
      have : o' = o := Option.some.inj (ho'.symm.trans hoj)
      subst this
      rcases Bool.or_eq_true _ _ ▸ hv with h1 | h1
      · have : i < n1 := by have h2 : i + 1 ≤ n1 := by simpa [Nat.blt] using h1
                            omega
        omega
      · exact hbef m (List.all_eq_true.1 h1 m (List.mem_range.2 hm))
    · refine crossL_spec rest (j + 1) _ (fun i' => ?_) (fun m om hm hom x hx => ?_) hlow hrest i o' (by omega) hn ho' m hm
      · have := hl (i' + 1)
        rw [List.getElem?_cons_succ] at this
        rw [this, show j + (i' + 1) = j + 1 + i' by omega]
      · by_cases hmj : m = j
        · subst hmj
          have : om = o := Option.some.inj (hom.symm.trans hoj)
          subst this
          simp only [show m + 1 - 1 - m = 0 by omega, List.getD_cons_zero] at hx
          exact hbef x hx
        · rw [show j + 1 - 1 - m = (j - 1 - m) + 1 by omega, List.getD_cons_succ] at hx
          exact hacc m om (by omega) hom x hx

theorem two_of_wpR {kd : Nat → Nat} {Q' : Exit → Act → World → Prop} (hQ : ∀ a w, C2 w → Q a w → Q' .normal a w) (hC2 : ∀ w, C2 w) (hsel : ∀ (j : Nat) (o : Oper) cs b, ops[j]? = some o → o.op ≠ .select cs b)
    (hfine : ∀ i o, ops[i]? = some o → Fine ops kd i o) (T : List Nat) (n1 : Nat) (hcross : ∀ i ∈ T, ∀ o, ops[i]? = some o → ∀ m, m < n1 → Before ops m o) :
    ∀ (n : Nat) (R : List Nat) (listed : Array Bool) (a : Act) (w : World), (R ++ T).length = n → listed.size = ops.size → (R ++ T).Pairwise (· < ·) → (∀ j ∈ R, j < n1) →
    (∀ j, j < ops.size → (listed.getD j false = false ↔ j ∈ R ++ T)) → (∀ j ∈ R ++ T, j < ops.size) → Closed ops listed → C w → wpR P ops C (fun a w => wpR P ops C2 Q (items ops kd T) a w) (items ops kd R) a w → wpAny P .any ops Q' n listed a w := by
  intro n
  induction n with
  | zero =>
    intro R listed a w hR hsz hord _ hun hlt hcl hC h
    have hz : R ++ T = [] := List.eq_nil_of_length_eq_zero hR
    obtain ⟨rfl, rfl⟩ := List.append_eq_nil_iff.1 hz
    exact any_of_wpR hQ hsel hfine 0 [] listed a w rfl hsz hord hun hlt hcl (hC2 w) (by simpa [items, wpR] using h)
  | succ n ih =>
    intro R listed a w hR hsz hord hn1 hun hlt hcl hC h
    match R, hR, hord, hn1, hun, hlt, h with
    | [], hR, hord, _, hun, hlt, h => exact any_of_wpR hQ hsel hfine (n + 1) T listed a w hR hsz hord hun hlt hcl (hC2 w) (by simpa [items, wpR] using h)
    | r0 :: R', hR, hord, hn1, hun, hlt, h =>
      have hr0 : r0 ∈ (r0 :: R') ++ T := by simp
      have ready0 : r0 ∈ Region.ready .any ops listed := by
        have hb := hlt r0 hr0
        refine mem_ready.2 ⟨?_, ops[r0], by simp [hb], fun e he hbe => ?_⟩
        · have := (hun r0 hb).2 hr0
          have hb' : r0 < listed.size := by omega
          simpa [hb'] using this
        · have hel := (hfine r0 ops[r0] (by simp [hb])).low e he hbe
          cases hq : listed.getD e.on false with
          | true => rfl
          | false =>
            have := (hun e.on (by omega)).1 hq
            rw [List.cons_append] at this hord
            rcases List.mem_cons.1 this with h1 | h1
            · omega
            · have := (List.pairwise_cons.1 hord).1 e.on h1
              omega
      refine ⟨fun h0 => (by rw [h0] at ready0; cases ready0), fun i hi => ?_⟩
      obtain ⟨hl, oi, hoi, hdeps⟩ := mem_ready.1 hi
      have hisz := (Array.getElem?_eq_some_iff.1 hoi).1
      have hl' : listed.getD i false = false := by
        have : i < listed.size := by omega
        simpa [this] using hl
      have hiRT := (hun i hisz).1 hl'
      have hiR : i ∈ r0 :: R' := by
        rcases List.mem_append.1 hiRT with h1 | h1
        · exact h1
        · exfalso
          have hb := hcross i h1 oi hoi r0 (hn1 r0 List.mem_cons_self) listed hcl hdeps
          have := (hun r0 (hlt r0 hr0)).2 hr0
          rw [hb] at this; cases this
      obtain ⟨R1, R2, hRR⟩ := List.append_of_mem hiR
      rw [hRR] at hR hord hn1 hun hlt h
      clear hRR hiR hr0 ready0
      rw [List.append_assoc, List.cons_append] at hord
      have hord' := List.pairwise_append.1 hord
      have hnot : i ∉ R1 ++ (R2 ++ T) := by
        intro hmem
        rcases List.mem_append.1 hmem with h1 | h1
        · have := hord'.2.2 i h1 i List.mem_cons_self; omega
        · have := (List.pairwise_cons.1 hord'.2.1).1 i h1; omega
      have hb := bubble (P := P) (Q := fun a w => wpR P ops C2 Q (items ops kd T) a w) hsel hoi R2 R1 a w hC (fun m hm => by
        have hmlt : m < i := hord'.2.2 m hm i List.mem_cons_self
        have hms := hlt m (List.mem_append_left _ (List.mem_append_left _ hm))
        refine ⟨ops[m], by simp [hms], ?_⟩
        rcases (hfine i oi hoi).pair m ops[m] hmlt (by simp [hms]) with hbef | h2
        · have h1 := hbef listed hcl hdeps
          have h2 := (hun m hms).2 (List.mem_append_left _ (List.mem_append_left _ hm))
          rw [h1] at h2; cases h2
        · exact h2) h
      refine wpOp_of_opM hoi hC (fun a' w' hC' hk => ih (R1 ++ R2) _ a' w' ?_ ?_ ?_ ?_ ?_ ?_ ?_ hC' hk) hb
      · simp at hR ⊢; omega
      · simp [hsz]
      · rw [List.append_assoc]; exact List.pairwise_append.2 ⟨hord'.1, (List.pairwise_cons.1 hord'.2.1).2, fun x hx y hy => hord'.2.2 x hx y (List.mem_cons_of_mem _ hy)⟩
      · intro j hj
        refine hn1 j ?_
        rcases List.mem_append.1 hj with h1 | h1
        · exact List.mem_append_left _ h1
        · exact List.mem_append_right _ (List.mem_cons_of_mem _ h1)
      · intro j hj
        by_cases hji : i = j
        · subst hji
          have : i < listed.size := by omega
          simp only [Array.getD_eq_getD_getElem?, Array.getElem?_setIfInBounds_self_of_lt this, Option.getD_some]
          rw [List.append_assoc]
          simpa using hnot
        · rw [getD_set_ne false hji, hun j hj]
          simp only [List.mem_append, List.mem_cons]
          constructor
          · rintro ((h | h | h) | h)
            · exact .inl (.inl h)
            · exact absurd h.symm hji
            · exact .inl (.inr h)
            · exact .inr h
          · rintro ((h | h) | h)
            · exact .inl (.inl h)
            · exact .inl (.inr (.inr h))
            · exact .inr h
      · intro j hj
        refine hlt j ?_
        simp only [List.mem_append, List.mem_cons] at hj ⊢
        rcases hj with (h1 | h1) | h1
        · exact .inl (.inl h1)
        · exact .inl (.inr (.inr h1))
        · exact .inr h1
      · intro j oj hoj hl2 e he hbe
        by_cases hij : i = j
        · subst hij
          have : oj = oi := Option.some.inj (hoj.symm.trans hoi)
          subst this
          exact getD_set_true (hdeps e he hbe)
        · rw [getD_set_ne false hij] at hl2
          exact getD_set_true (hcl j oj hoj hl2 e he hbe)

/-- **IN TWO STAGES**: the first n1 operations over the class C, the rest over any world. -/
theorem region2 {id : Nat} {l : List Oper} {Q' : Exit → Act → World → Prop} {a : Act} {w : World} (n1 : Nat) (ks : List Nat) (C : World → Prop) (hm : P.follows .mixedOrders = true) (hB : (okB l ks && crossL l.toArray n1 l 0 [] && Nat.ble n1 l.length) = true)
    (hC : C w.drew) (h : wpR P l.toArray C (fun a w => wpR P l.toArray (fun _ => True) (fun a' w' => Q' .normal a' w') ((l.zip ks).drop n1) a w) ((l.zip ks).take n1) a w.drew) : (Code.region id l.toArray true).wp P Q' a w := by
  simp only [okB, Bool.and_eq_true] at hB
  obtain ⟨⟨⟨⟨hsel, hlen⟩, hok⟩, hcr⟩, hn⟩ := hB
  have hn1 : n1 ≤ l.length := by simpa using hn
  have hlen' : ks.length = l.length := Nat.eq_of_beq_eq_true hlen
  have hz : ∀ i, (l.zip ks)[i]? = (l.toArray[0 + i]?).map fun o => (o, (fun i => ks.getD i 0) (0 + i)) := by
    intro i
    rw [Nat.zero_add]
    rcases Nat.lt_or_ge i l.length with hi | hi
    · have hi' : i < ks.length := by omega
      simp [List.getElem?_zip_eq_some, hi, hi', List.getD]
    · have hi' : ks.length ≤ i := by omega
      have hzl : (l.zip ks).length ≤ i := by simp; omega
      simp [List.getElem?_eq_none hzl, hi]
  have hfine := okL_spec (ops := l.toArray) (kd := fun i => ks.getD i 0) (l.zip ks) 0 [] [] hz rfl (fun m hm => by omega) (fun m _ hm => by omega) hok
  have hfine' : ∀ i o, l.toArray[i]? = some o → Fine l.toArray (fun i => ks.getD i 0) i o := fun i o ho => hfine i o (Nat.zero_le _) ho
  have hcross := crossL_spec (ops := l.toArray) (n1 := n1) l 0 [] (fun i => by simp) (fun m _ hm => by omega) (fun i o ho => (hfine' i o ho).low) hcr
  have e : items l.toArray (fun i => ks.getD i 0) (List.range l.length) = l.zip ks := by
    apply List.ext_getElem?
    intro i
    rw [hz i, Nat.zero_add]
    rcases Nat.lt_or_ge i l.length with hi | hi
    · simp [items, hi, List.getD]
    · simp [items, hi]
  have e1 : items l.toArray (fun i => ks.getD i 0) (List.range n1) = (l.zip ks).take n1 := by
    rw [← e]; unfold items
    rw [← List.map_take]
    congr 1
    rw [List.take_range, Nat.min_eq_left hn1]
  have e2 : items l.toArray (fun i => ks.getD i 0) ((List.range l.length).drop n1) = (l.zip ks).drop n1 := by
    rw [← e]; unfold items
    rw [← List.map_drop]
  have hall : List.range n1 ++ (List.range l.length).drop n1 = List.range l.length := by
    have h3 : List.range n1 = (List.range l.length).take n1 := by rw [List.take_range, Nat.min_eq_left hn1]
    rw [h3]; exact List.take_append_drop _ _
  refine wp_region_any hm ?_
  refine two_of_wpR (C := C) (C2 := fun _ => True) (Q := fun a' w' => Q' .normal a' w') (kd := fun i => ks.getD i 0) (fun _ _ _ h => h) (fun _ => trivial) (Region.noSelect_spec hsel) hfine' ((List.range l.length).drop n1) n1
    (fun i hi o ho m hm => hcross i o (Nat.zero_le _) (by
      obtain ⟨q, hq, rfl⟩ := List.getElem_of_mem hi
      simp at hq ⊢) ho m hm) _ (List.range n1) _ a _ (by rw [hall]; simp) (by simp) (by rw [hall]; exact List.pairwise_lt_range) (fun j hj => List.mem_range.1 hj) ?_ (by rw [hall]; simp) ?_ hC (by rw [e1, e2]; exact h)
  · intro j hj
    rw [hall]
    simp only [List.size_toArray] at hj
    simp [hj]
  · intro j oj _ hl
    exfalso
    rcases Nat.lt_or_ge j l.length with h' | h' <;> simp [h'] at hl
end
end Go.Mix
namespace Go.MixI
open Go Go.Mix

section
variable {F : Fence} {n : Nat} {P : Program} {ops : Array Oper} {C C2 : World → Prop} {Q : Act → World → Prop}
theorem two_of_wpR (hr : F.depth = none) {kd : Nat → Nat} {Q' : Exit → Act → World → Prop} (hQ : ∀ a w, C2 w → Q a w → Q' .normal a w) (hC2 : ∀ w, C2 w) (hsel : ∀ (j : Nat) (o : Oper) cs b, ops[j]? = some o → o.op ≠ .select cs b) (hdf : ∀ (j : Nat) (o : Oper) c, ops[j]? = some o → o.op ≠ .defer c)
    (hfine : ∀ i o, ops[i]? = some o → Fine ops kd i o) (T : List Nat) (n1 : Nat) (hcross : ∀ i ∈ T, ∀ o, ops[i]? = some o → ∀ m, m < n1 → Before ops m o) :
    ∀ (q : Nat) (R : List Nat) (listed : Array Bool) (a : Act) (w : World), (R ++ T).length = q → listed.size = ops.size → (R ++ T).Pairwise (· < ·) → (∀ j ∈ R, j < n1) →
    (∀ j, j < ops.size → (listed.getD j false = false ↔ j ∈ R ++ T)) → (∀ j ∈ R ++ T, j < ops.size) → Closed ops listed → C w → wpR F n P ops C (fun a w => wpR F n P ops C2 Q (items ops kd T) a w) (items ops kd R) a w → wpAnyIn F n P .any ops Q' q listed a w := by
  intro q
  induction q with
  | zero =>
    intro R listed a w hR hsz hord _ hun hlt hcl hC h
    have hz : R ++ T = [] := List.eq_nil_of_length_eq_zero hR
    obtain ⟨rfl, rfl⟩ := List.append_eq_nil_iff.1 hz
    exact any_of_wpR hr hQ hsel hdf hfine 0 [] listed a w rfl hsz hord hun hlt hcl (hC2 w) (by simpa [items, wpR] using h)
  | succ q ih =>
    intro R listed a w hR hsz hord hn1 hun hlt hcl hC h
    match R, hR, hord, hn1, hun, hlt, h with
    | [], hR, hord, _, hun, hlt, h => exact any_of_wpR hr hQ hsel hdf hfine (q + 1) T listed a w hR hsz hord hun hlt hcl (hC2 w) (by simpa [items, wpR] using h)
    | r0 :: R', hR, hord, hn1, hun, hlt, h =>
      have hr0 : r0 ∈ (r0 :: R') ++ T := by simp
      have ready0 : r0 ∈ Region.ready .any ops listed := by
        have hb := hlt r0 hr0
        refine mem_ready.2 ⟨?_, ops[r0], by simp [hb], fun e he hbe => ?_⟩
        · have := (hun r0 hb).2 hr0
          have hb' : r0 < listed.size := by omega
          simpa [hb'] using this
        · have hel := (hfine r0 ops[r0] (by simp [hb])).low e he hbe
          cases hq : listed.getD e.on false with
          | true => rfl
          | false =>
            have := (hun e.on (by omega)).1 hq
            rw [List.cons_append] at this hord
            rcases List.mem_cons.1 this with h1 | h1
            · omega
            · have := (List.pairwise_cons.1 hord).1 e.on h1
              omega
      refine ⟨fun h0 => (by rw [h0] at ready0; cases ready0), fun i hi => ?_⟩
      obtain ⟨hl, oi, hoi, hdeps⟩ := mem_ready.1 hi
      have hisz := (Array.getElem?_eq_some_iff.1 hoi).1
      have hl' : listed.getD i false = false := by
        have : i < listed.size := by omega
        simpa [this] using hl
      have hiRT := (hun i hisz).1 hl'
      have hiR : i ∈ r0 :: R' := by
        rcases List.mem_append.1 hiRT with h1 | h1
        · exact h1
        · exfalso
          have hb := hcross i h1 oi hoi r0 (hn1 r0 List.mem_cons_self) listed hcl hdeps
          have := (hun r0 (hlt r0 hr0)).2 hr0
          rw [hb] at this; cases this
      obtain ⟨R1, R2, hRR⟩ := List.append_of_mem hiR
      rw [hRR] at hR hord hn1 hun hlt h
      clear hRR hiR hr0 ready0
      rw [List.append_assoc, List.cons_append] at hord
      have hord' := List.pairwise_append.1 hord
      have hnot : i ∉ R1 ++ (R2 ++ T) := by
        intro hmem
        rcases List.mem_append.1 hmem with h1 | h1
        · have := hord'.2.2 i h1 i List.mem_cons_self; omega
        · have := (List.pairwise_cons.1 hord'.2.1).1 i h1; omega
      have hb := bubble hr (P := P) (Q := fun a w => wpR F n P ops C2 Q (items ops kd T) a w) hsel hdf hoi R2 R1 a w hC (fun m hm => by
        have hmlt : m < i := hord'.2.2 m hm i List.mem_cons_self
        have hms := hlt m (List.mem_append_left _ (List.mem_append_left _ hm))
        refine ⟨ops[m], by simp [hms], ?_⟩
        rcases (hfine i oi hoi).pair m ops[m] hmlt (by simp [hms]) with hbef | h2
        · have h1 := hbef listed hcl hdeps
          have h2 := (hun m hms).2 (List.mem_append_left _ (List.mem_append_left _ hm))
          rw [h1] at h2; cases h2
        · exact h2) h
      refine wpOp_of_opM hoi (fun c => hdf i oi c hoi) hC (fun a' w' hC' hk => ih (R1 ++ R2) _ a' w' ?_ ?_ ?_ ?_ ?_ ?_ ?_ hC' hk) hb
      · simp at hR ⊢; omega
      · simp [hsz]
      · rw [List.append_assoc]; exact List.pairwise_append.2 ⟨hord'.1, (List.pairwise_cons.1 hord'.2.1).2, fun x hx y hy => hord'.2.2 x hx y (List.mem_cons_of_mem _ hy)⟩
      · intro j hj
        refine hn1 j ?_
        rcases List.mem_append.1 hj with h1 | h1
        · exact List.mem_append_left _ h1
        · exact List.mem_append_right _ (List.mem_cons_of_mem _ h1)
      · intro j hj
        by_cases hji : i = j
        · subst hji
          have : i < listed.size := by omega
          simp only [Array.getD_eq_getD_getElem?, Array.getElem?_setIfInBounds_self_of_lt this, Option.getD_some]
          rw [List.append_assoc]
          simpa using hnot
        · rw [getD_set_ne false hji, hun j hj]
          simp only [List.mem_append, List.mem_cons]
          constructor
          · rintro ((h | h | h) | h)
            · exact .inl (.inl h)
            · exact absurd h.symm hji
            · exact .inl (.inr h)
            · exact .inr h
          · rintro ((h | h) | h)
            · exact .inl (.inl h)
            · exact .inl (.inr (.inr h))
            · exact .inr h
      · intro j hj
        refine hlt j ?_
        simp only [List.mem_append, List.mem_cons] at hj ⊢
        rcases hj with (h1 | h1) | h1
        · exact .inl (.inl h1)
        · exact .inl (.inr (.inr h1))
        · exact .inr h1
      · intro j oj hoj hl2 e he hbe
        by_cases hij : i = j
        · subst hij
          have : oj = oi := Option.some.inj (hoj.symm.trans hoi)
          subst this
          exact getD_set_true (hdeps e he hbe)
        · rw [getD_set_ne false hij] at hl2
          exact getD_set_true (hcl j oj hoj hl2 e he hbe)

/-- **IN TWO STAGES**: the first n1 operations over the class C, the rest over any world. -/
theorem region2 (hr : F.depth = none) {id : Nat} {l : List Oper} {Q' : Exit → Act → World → Prop} {a : Act} {w : World} (n1 : Nat) (ks : List Nat) (C : World → Prop) (hm : P.follows .mixedOrders = true) (hB : (okB l ks && crossL l.toArray n1 l 0 [] && Nat.ble n1 l.length && noDefer l.toArray) = true)
    (hC : C w.drew) (h : wpR F n P l.toArray C (fun a w => wpR F n P l.toArray (fun _ => True) (fun a' w' => Q' .normal a' w') ((l.zip ks).drop n1) a w) ((l.zip ks).take n1) a w.drew) : (Code.region id l.toArray true).wpIn F n P Q' a w := by
  simp only [okB, Bool.and_eq_true] at hB
  obtain ⟨⟨⟨⟨⟨hsel, hlen⟩, hok⟩, hcr⟩, hn⟩, hnd⟩ := hB
  have hn1 : n1 ≤ l.length := by simpa using hn
  have hlen' : ks.length = l.length := Nat.eq_of_beq_eq_true hlen
  have hz : ∀ i, (l.zip ks)[i]? = (l.toArray[0 + i]?).map fun o => (o, (fun i => ks.getD i 0) (0 + i)) := by
    intro i
    rw [Nat.zero_add]
    rcases Nat.lt_or_ge i l.length with hi | hi
    · have hi' : i < ks.length := by omega
      simp [List.getElem?_zip_eq_some, hi, hi', List.getD]
    · have hi' : ks.length ≤ i := by omega
      have hzl : (l.zip ks).length ≤ i := by simp; omega
      simp [List.getElem?_eq_none hzl, hi]
  have hfine := okL_spec (ops := l.toArray) (kd := fun i => ks.getD i 0) (l.zip ks) 0 [] [] hz rfl (fun m hm => by omega) (fun m _ hm => by omega) hok
  have hfine' : ∀ i o, l.toArray[i]? = some o → Fine l.toArray (fun i => ks.getD i 0) i o := fun i o ho => hfine i o (Nat.zero_le _) ho
  have hcross := crossL_spec (ops := l.toArray) (n1 := n1) l 0 [] (fun i => by simp) (fun m _ hm => by omega) (fun i o ho => (hfine' i o ho).low) hcr
  have e : items l.toArray (fun i => ks.getD i 0) (List.range l.length) = l.zip ks := by
    apply List.ext_getElem?
    intro i
    rw [hz i, Nat.zero_add]
    rcases Nat.lt_or_ge i l.length with hi | hi
    · simp [items, hi, List.getD]
    · simp [items, hi]
  have e1 : items l.toArray (fun i => ks.getD i 0) (List.range n1) = (l.zip ks).take n1 := by
    rw [← e]; unfold items
    rw [← List.map_take]
    congr 1
    rw [List.take_range, Nat.min_eq_left hn1]
  have e2 : items l.toArray (fun i => ks.getD i 0) ((List.range l.length).drop n1) = (l.zip ks).drop n1 := by
    rw [← e]; unfold items
    rw [← List.map_drop]
  have hall : List.range n1 ++ (List.range l.length).drop n1 = List.range l.length := by
    have h3 : List.range n1 = (List.range l.length).take n1 := by rw [List.take_range, Nat.min_eq_left hn1]
    rw [h3]; exact List.take_append_drop _ _
  refine wpIn_region_any hm ?_
  refine two_of_wpR hr (C := C) (C2 := fun _ => True) (Q := fun a' w' => Q' .normal a' w') (kd := fun i => ks.getD i 0) (fun _ _ _ h => h) (fun _ => trivial) (Region.noSelect_spec hsel) (fun j o c ho => noDefer_spec hnd j o ho c) hfine' ((List.range l.length).drop n1) n1
    (fun i hi o ho m hm => hcross i o (Nat.zero_le _) (by
      obtain ⟨q, hq, rfl⟩ := List.getElem_of_mem hi
      simp at hq ⊢) ho m hm) _ (List.range n1) _ a _ (by rw [hall]; simp) (by simp) (by rw [hall]; exact List.pairwise_lt_range) (fun j hj => List.mem_range.1 hj) ?_ (by rw [hall]; simp) ?_ hC (by rw [e1, e2]; exact h)
  · intro j hj
    rw [hall]
    simp only [List.size_toArray] at hj
    simp [hj]
  · intro j oj _ hl
    exfalso
    rcases Nat.lt_or_ge j l.length with h' | h' <;> simp [h'] at hl
end
end Go.MixI
