/- A region that draws its order: operations that leave a value in whatever world that meets S (calls that change nothing among them) are taken first, in a given order; those that are left come in a forced order. -/
import Derived.OrdersHeld
import Derived.Tactics
namespace Go.Proofs.Ytcieopcihbgfdaa.Calm
open Go
set_option linter.unusedVariables false
section
variable {P : Program} {ops : Array Oper} {Q : Exit → Act → World → Prop} {md : Region.Mode} {S : World → Prop}
def Calm (P : Program) (ops : Array Oper) (S : World → Prop) (o : Oper) (v : Value) (a : Act) : Prop :=
  (Region.wanted o (yielded ops a.tmps) = true ∧ ((∀ w, S w → (execOp a.eval o).run P w = .ok (.value v) w) ∨
    ∃ f args, (∀ w, S w → (execOp a.eval o).run P w = .ok (.enter f args) w) ∧ ∀ w, S w → Calls P f args w fun e w' => e = .returned v ∧ w = w')) ∨
  (Region.wanted o (yielded ops a.tmps) = false ∧ v = undef)
theorem Calm.wpOp {i : Nat} {o : Oper} {v : Value} {a : Act} (hi : ops[i]? = some o) (hy : Calm P ops S o v a) {K : Act → World → Prop} {w : World} (hS : S w) (h : K (a.put o.dst v) w) : wpOp P ops Q i K a w := by
  unfold Go.wpOp
  simp only [hi]
  rcases hy with ⟨hw, hv | ⟨f, args, hv, hc⟩⟩ | ⟨hw, rfl⟩
  · rw [if_pos hw]
    left
    unfold Oper.wp
    rw [hv w hS]
    exact h
  · rw [if_pos hw]
    left
    unfold Oper.wp
    rw [hv w hS, Oper.upon_enter]
    refine (hc w hS).mono fun e w'' hh => ?_
    obtain ⟨rfl, rfl⟩ := hh
    exact h
  · rw [hw, if_neg (by simp)]
    exact h
theorem Calm.of_same {o : Oper} {v : Value} {a a' : Act} (hy : Calm P ops S o v a) (he : execOp a'.eval o = execOp a.eval o) (hw : Region.wanted o (yielded ops a'.tmps) = Region.wanted o (yielded ops a.tmps)) : Calm P ops S o v a' := by
  unfold Calm at *
  rw [he, hw]
  exact hy
theorem calm_put {j : Nat} {oi oj : Oper} {v : Value} (hj : ops[j]? = some oj) (hap : oi.apart ops oj = true) (hsi : ∀ cs b, oi.op ≠ .select cs b) (hsj : ∀ cs b, oj.op ≠ .select cs b)
    (hQ : ∀ c a w, Q (.panic c) (a.put oi.dst v) w → Q (.panic c) a w) {K : Act → World → Prop} {a : Act} {w : World} (hy : Calm P ops S oi v a) (h : wpOp P ops Q j K (a.put oi.dst v) w) :
    wpOp P ops Q j (fun a' w' => Calm P ops S oi v a' ∧ K (a'.put oi.dst v) w') a w := by
  obtain ⟨h1, h2, h3⟩ := Oper.apart_spec hap
  have keep : ∀ (a : Act), Calm P ops S oi v a → ∀ u, Calm P ops S oi v (a.put oj.dst u) := fun a hy u => hy.of_same (execOp_put oi hsi a oj.dst u h3) (wanted_put oi a oj.dst u h3)
  have keepD : ∀ d, Calm P ops S oi v { a with defers := d :: a.defers } := fun d => hy.of_same rfl rfl
  unfold wpOp at *
  simp only [hj] at *
  rw [wanted_put oj a oi.dst v h1] at h
  split
  · rename_i hw
    rw [if_pos hw] at h
    rcases h with h | ⟨hasks, hlets⟩
    case inr => exact .inr ⟨by unfold Oper.asks at *; rw [execOp_put oj hsj a oi.dst v h1] at hasks; exact hasks, hlets⟩
    left
    unfold Oper.wp at *
    rw [execOp_put oj hsj a oi.dst v h1] at h
    generalize (execOp a.eval oj).run P w = r at *
    cases r with
    | ok n w' =>
      cases n <;> simp only [Oper.upon] at h ⊢
      case value u => exact ⟨keep a hy u, by rw [← Act.put_comm a v u h2]; exact h⟩
      case skip => exact ⟨keep a hy _, by rw [← Act.put_comm a v undef h2]; exact h⟩
      case defer d =>
        refine ⟨keep _ (keepD d) _, ?_⟩
        rw [← Act.put_comm _ v undef h2, ← Act.put_defers]
        exact h
      case enter f args =>
        refine Calls.mono h fun e w'' he => ?_
        cases e with
        | returned u => exact ⟨keep a hy u, by rw [← Act.put_comm a v u h2]; exact he⟩
        | panicked c => exact hQ _ _ _ he
        | outgrown => exact he
      case row row args => exact Rows.mono h fun u w'' he => ⟨keep a hy u, by rw [← Act.put_comm a v u h2]; exact he⟩
    | halt x w' =>
      cases x <;> simp only [Oper.upon] at h ⊢
      case panic u => exact hQ _ _ _ h
  · rename_i hw
    rw [if_neg hw] at h
    exact ⟨keep a hy _, by rw [← Act.put_comm a v undef h2]; exact h⟩
theorem calm_first {i : Nat} {oi : Oper} {v : Value} (hi : ops[i]? = some oi) (hsel : ∀ (j : Nat) (o : Oper) cs b, ops[j]? = some o → o.op ≠ .select cs b) (hQ : ∀ c a w, Q (.panic c) (a.put oi.dst v) w → Q (.panic c) a w) :
    ∀ (fuel : Nat) (listed : Array Bool) (a : Act) (w : World),
      (∀ j oj, ops[j]? = some oj → j ≠ i → listed.getD j true = false → (∀ e ∈ oj.after, Region.binds md e = true → e.on ≠ i) → oi.apart ops oj = true) →
      i ∈ Region.ready md ops listed → Calm P ops S oi v a → S w → wpAnyH P md ops Q S fuel (listed.setIfInBounds i true) (a.put oi.dst v) w → wpAnyH P md ops Q S (fuel + 1) listed a w := by
  intro fuel
  induction fuel with
  | zero =>
    intro listed a w hfree hr hy hS H
    refine ⟨fun h => (by rw [h] at hr; cases hr), fun j hj => ?_⟩
    by_cases hji : j = i
    · subst hji
      exact hy.wpOp hi hS ⟨hS, H⟩
    · have hm := ready_mono hj hji
      rw [H.1] at hm
      cases hm
  | succ fuel ih =>
    intro listed a w hfree hr hy hS H
    refine ⟨fun h => (by rw [h] at hr; cases hr), fun j hj => ?_⟩
    by_cases hji : j = i
    · subst hji
      exact hy.wpOp hi hS ⟨hS, H⟩
    · have h1 := H.2 j (ready_mono hj hji)
      obtain ⟨hjun, oj, hoj, hall⟩ := mem_ready.1 hj
      have hnot : ∀ e ∈ oj.after, Region.binds md e = true → e.on ≠ i := fun e he hb heq => by
        have h1 := hall e he hb
        have h0 := (mem_ready.1 hr).1
        rw [heq] at h1
        rcases Nat.lt_or_ge i listed.size with h' | h'
        · simp [h'] at h0 h1
          rw [h0] at h1
          cases h1
        · simp [Array.getElem?_eq_none h'] at h1
      have h2 := calm_put hoj (hfree j oj hoj hji hjun hnot) (fun cs b => hsel i oi cs b hi) (fun cs b => hsel j oj cs b hoj) hQ hy h1
      have hfree' : ∀ k ok, ops[k]? = some ok → k ≠ i → (listed.setIfInBounds j true).getD k true = false →
          (∀ e ∈ ok.after, Region.binds md e = true → e.on ≠ i) → oi.apart ops ok = true := fun k ok hk hki hun hno => by
        refine hfree k ok hk hki ?_ hno
        by_cases hjk : j = k
        · subst hjk
          exact hjun
        · rw [getD_set_ne true hjk] at hun
          exact hun
      refine wpOp_mono (fun a' w' h3 => ⟨h3.2.1, ih (listed.setIfInBounds j true) a' w' hfree' (ready_mono hr (Ne.symm hji)) h3.1 h3.2.1 ?_⟩) h2
      rw [Array.setIfInBounds_comm _ _ hji]
      exact h3.2.2
/-- The calm operations, in order; then what follows. -/
def wpCalm (P : Program) (ops : Array Oper) (S : World → Prop) (L : Act → Prop) : List Nat → Act → Prop
  | [], a => L a
  | i :: rest, a => ∃ o v, ops[i]? = some o ∧ Calm P ops S o v a ∧ wpCalm P ops S L rest (a.put o.dst v)
/-- The others, in their forced order; S behind each. -/
def wpTail (P : Program) (ops : Array Oper) (Q : Exit → Act → World → Prop) (S : World → Prop) : List Nat → Act → World → Prop
  | [], a, w => Q .normal a w
  | i :: rest, a, w => wpOp P ops Q i (fun a' w' => S w' ∧ wpTail P ops Q S rest a' w') a w
def seqI (md : Region.Mode) (ops : Array Oper) : List Nat → Array Bool → Bool
  | [], listed => (Region.ready md ops listed).isEmpty
  | j :: js, listed => decide (Region.ready md ops listed = [j]) && seqI md ops js (listed.setIfInBounds j true)
def lexI (md : Region.Mode) (ops : Array Oper) (js : List Nat) : List Nat → Array Bool → Bool
  | [], listed => seqI md ops js listed
  | i :: is, listed => (Region.ready md ops listed).contains i && Region.free md ops listed i && lexI md ops js is (listed.setIfInBounds i true)
theorem tail_any : ∀ (js : List Nat) (listed : Array Bool) (a : Act) (w : World), seqI md ops js listed = true → wpTail P ops Q S js a w → wpAnyH P md ops Q S js.length listed a w
  | [], listed, a, w, hB, h => ⟨by simpa [seqI] using hB, h⟩
  | j :: js, listed, a, w, hB, h => by
    simp only [seqI, Bool.and_eq_true, decide_eq_true_eq] at hB
    refine ⟨fun h1 => (by rw [hB.1] at h1; cases h1), fun i hi => ?_⟩
    rw [hB.1] at hi
    have hij : i = j := by simpa using hi
    subst hij
    exact wpOp_mono (fun a' w' h' => ⟨h'.1, tail_any js _ a' w' hB.2 h'.2⟩) h
theorem calm_any (hs : Region.noSelect ops = true) (hQ : ∀ c a w, ¬ Q (.panic c) a w) {js : List Nat} {w : World} (hS : S w) : ∀ (is : List Nat) (listed : Array Bool) (a : Act),
    lexI md ops js is listed = true → wpCalm P ops S (fun a' => wpTail P ops Q S js a' w) is a → wpAnyH P md ops Q S (is.length + js.length) listed a w
  | [], listed, a, hB, h => by
    rw [List.length_nil, Nat.zero_add]
    exact tail_any js listed a w hB h
  | i :: is, listed, a, hB, h => by
    simp only [lexI, Bool.and_eq_true] at hB
    obtain ⟨⟨hr, hf⟩, hB'⟩ := hB
    obtain ⟨o, v, h0, hy, h⟩ := h
    have hlen : (i :: is).length + js.length = (is.length + js.length) + 1 := by simp only [List.length_cons]; omega
    rw [hlen]
    exact calm_first h0 (Region.noSelect_spec hs) (fun c a w hh => absurd hh (hQ c _ w)) (is.length + js.length) listed a w (Region.free_spec h0 hf) (by simpa using hr) hy hS
      (calm_any hs hQ hS is _ _ hB' h)
/-- No panic is let through. -/
def Tame (K : Act → World → Prop) : Exit → Act → World → Prop
  | .normal, a, w => K a w
  | _, _, _ => False
def calmB (ops : Array Oper) (is js : List Nat) : Bool := Region.noSelect ops && decide (is.length + js.length = ops.size) && lexI .any ops js is (Array.replicate ops.size false)
theorem wp_region_calm {id : Nat} {a : Act} {w : World} (S : World → Prop) (is js : List Nat) (hm : P.follows .mixedOrders = true) (hB : calmB ops is js = true) (hS : S w.drew)
    (h : wpCalm P ops S (fun a' => wpTail P ops (Tame (Q .normal)) S js a' w.drew) is a) : (Code.region id ops true).wp P Q a w := by
  simp only [calmB, Bool.and_eq_true, decide_eq_true_eq] at hB
  obtain ⟨⟨hsel, hn⟩, hlex⟩ := hB
  refine Code.wp_mono (Q := Tame (Q .normal)) (fun e a w he => ?_) ?_
  · cases e <;> first | exact he | exact absurd he (by simp [Tame])
  have H := calm_any (md := .any) (Q := Tame (Q .normal)) hsel (fun c a w hh => hh) hS is (Array.replicate ops.size false) a hlex h
  rw [hn] at H
  exact wp_region_held hm H
theorem wp_region_calm_then {id : Nat} {a : Act} {w : World} {K : Act → World → Prop} {Q' : Exit → Act → World → Prop} (S : World → Prop) (is js : List Nat) (hm : P.follows .mixedOrders = true) (hB : calmB ops is js = true) (hS : S w.drew)
    (h : wpCalm P ops S (fun a' => wpTail P ops (Tame K) S js a' w.drew) is a) : (Code.region id ops true).wp P (Exit.then K Q') a w := wp_region_calm S is js hm hB hS h
/-! ### The steps: the calm ones -/
theorem value_ {L : Act → Prop} {i : Nat} {o : Oper} {rest : List Nat} {a : Act} {v : Value} {n : Tmp} (hi : ops[i]? = some o) (hN : o.dst = some n) (hw : Region.wanted o (yielded ops a.tmps) = true) (hrun : ∀ w, S w → (execOp a.eval o).run P w = .ok (.value v) w) {a' : Act} (ha : a.put (some n) v = a')
    (h : wpCalm P ops S L rest a') : wpCalm P ops S L (i :: rest) a := by
  subst ha
  rw [← hN] at h
  exact ⟨o, v, hi, Or.inl ⟨hw, Or.inl hrun⟩, h⟩
theorem off_ {L : Act → Prop} {i : Nat} {o : Oper} {rest : List Nat} {a : Act} {n : Tmp} (hi : ops[i]? = some o) (hN : o.dst = some n) (hw : Region.wanted o (yielded ops a.tmps) = false) {a' : Act} (ha : a.put (some n) undef = a')
    (h : wpCalm P ops S L rest a') : wpCalm P ops S L (i :: rest) a := by
  subst ha
  rw [← hN] at h
  exact ⟨o, undef, hi, Or.inr ⟨hw, rfl⟩, h⟩
theorem enters {f : FuncId} {fn : Func} (hf : P.funcs[f]? = some fn) (hname : (fn.name == "runtime.NumGoroutine") = false) (hb : fn.body.isSome = true) (args : Array Value) (w : World) : (callFunc f args).run P w = .ok (.enter f args) w := by
  have h1 : fn.name ≠ "runtime.NumGoroutine" := by simpa using hname
  obtain ⟨c, hc⟩ := Option.isSome_iff_exists.1 hb
  simp [callFunc, hf, h1, hc]
theorem call_ {L : Act → Prop} {i : Nat} {o : Oper} {rest : List Nat} {a : Act} {v : Value} {n : Tmp} {f : FuncId} {fn : Func} {as : Array Operand} {ts : Array TypeId} (hi : ops[i]? = some o) (hN : o.dst = some n) (hf : P.funcs[f]? = some fn) (hname : (fn.name == "runtime.NumGoroutine") = false) (hb : fn.body.isSome = true) (args : Array Value)
    (hw : Region.wanted o (yielded ops a.tmps) = true) (hop : o.op = .call { callee := .value (.func f), args := as, argTypes := ts }) (hargs : as.map a.eval = args)
    (hc : ∀ w, S w → Calls P f args w fun e w' => e = .returned v ∧ w = w') {a' : Act} (ha : a.put (some n) v = a') (h : wpCalm P ops S L rest a') : wpCalm P ops S L (i :: rest) a := by
  subst ha
  rw [← hN] at h
  refine ⟨o, v, hi, Or.inl ⟨hw, Or.inr ⟨f, args, fun w _ => ?_, hc⟩⟩, h⟩
  have he := enters hf hname hb args w
  unfold execOp
  simp [hop, resolve, Deferred.ofValue, invoke, Act.eval, hargs, he]
theorem nil_ {L : Act → Prop} {a : Act} (h : L a) : wpCalm P ops S L [] a := h
/-! ### The steps of the tail -/
theorem t_value {i : Nat} {o : Oper} {rest : List Nat} {a : Act} {v : Value} {n : Tmp} {w : World} (hi : ops[i]? = some o) (hN : o.dst = some n) (hw : Region.wanted o (yielded ops a.tmps) = true) {w1 : World} (hrun : (execOp a.eval o).run P w = .ok (.value v) w1) (hS : S w1) {a' : Act} (ha : a.put (some n) v = a')
    (h : wpTail P ops Q S rest a' w1) : wpTail P ops Q S (i :: rest) a w := by
  subst ha
  rw [← hN] at h
  unfold wpTail wpOp
  simp only [hi]
  rw [if_pos hw]
  left
  unfold Oper.wp
  rw [hrun]
  exact ⟨hS, h⟩
theorem t_store {i : Nat} {o : Oper} {rest : List Nat} {a : Act} {w : World} (hi : ops[i]? = some o) (hw : Region.wanted o (yielded ops a.tmps) = true) (hN : o.dst = none) {w1 : World} (hrun : (execOp a.eval o).run P w = .ok .skip w1) (hS : S w1)
    (h : wpTail P ops Q S rest a w1) : wpTail P ops Q S (i :: rest) a w := by
  unfold wpTail wpOp
  simp only [hi]
  rw [if_pos hw]
  left
  unfold Oper.wp
  rw [hrun]
  show S w1 ∧ wpTail P ops Q S rest (a.put o.dst undef) w1
  rw [hN]
  exact ⟨hS, h⟩
theorem t_call {i : Nat} {o : Oper} {rest : List Nat} {a : Act} {f : FuncId} {fn : Func} {as : Array Operand} {ts : Array TypeId} {w : World} {n : Tmp} (hi : ops[i]? = some o) (hN : o.dst = some n) (hf : P.funcs[f]? = some fn) (hname : (fn.name == "runtime.NumGoroutine") = false) (hb : fn.body.isSome = true) (args : Array Value)
    (hw : Region.wanted o (yielded ops a.tmps) = true) (hop : o.op = .call { callee := .value (.func f), args := as, argTypes := ts }) (hargs : as.map a.eval = args)
    (hc : Calls P f args w fun e w' => ∃ v, e = .returned v ∧ S w' ∧ wpTail P ops Q S rest (a.put (some n) v) w') : wpTail P ops Q S (i :: rest) a w := by
  rw [← hN] at hc
  unfold wpTail wpOp
  simp only [hi]
  rw [if_pos hw]
  left
  have he := enters hf hname hb args w
  have hrun : (execOp a.eval o).run P w = .ok (.enter f args) w := by
    unfold execOp
    simp [hop, resolve, Deferred.ofValue, invoke, Act.eval, hargs, he]
  unfold Oper.wp
  rw [hrun, Oper.upon_enter]
  refine hc.mono fun e w'' hh => ?_
  obtain ⟨v, rfl, h1, h2⟩ := hh
  exact ⟨h1, h2⟩
theorem t_nil {K : Act → World → Prop} {a : Act} {w : World} (h : K a w) : wpTail P ops (Tame K) S [] a w := h
end
end Go.Proofs.Ytcieopcihbgfdaa.Calm
