/- A region that draws its order, gated: calm operations (values, calls that change nothing) are taken first, in a given order; each has a condition of its own on the world, asked only of what may come up ahead of it; those that are left come in a forced order. -/
import Derived.Test.YtcieopcihbgfdaaCalm
namespace Go.Proofs.Ytcieopcihbgfdaa.Calm
open Go
set_option linter.unusedVariables false
section
variable {P : Program} {ops : Array Oper} {Q : Exit → Act → World → Prop} {md : Region.Mode}
/-- Those that wait for operation i. -/
def desc (md : Region.Mode) (ops : Array Oper) (i : Nat) : List Nat := (List.range ops.size).foldl (fun acc j => match ops[j]? with | some o => if o.after.any (fun e => Region.binds md e && (e.on == i || acc.contains e.on)) then acc ++ [j] else acc | none => acc) []
def closedD (md : Region.Mode) (ops : Array Oper) (i : Nat) (D : List Nat) : Bool := D.all fun j => match ops[j]? with | some o => o.after.any (fun e => Region.binds md e && (e.on == i || D.contains e.on)) | none => false
/-- What stands behind operation j: nothing changed, if it is calm; the conditions of those that may still come up. -/
def Tst (IS : List Nat) (D : Nat → List Nat) (S : Nat → World → Prop) (j : Nat) (w w' : World) : Prop := if IS.contains j = true then w = w' else ∀ i ∈ IS, (D i).contains j = false → S i w'
def wpAnyG (P : Program) (md : Region.Mode) (ops : Array Oper) (Q : Exit → Act → World → Prop) (T : Nat → World → World → Prop) : Nat → Array Bool → Act → World → Prop
  | 0, listed, a, w => Region.ready md ops listed = [] ∧ Q .normal a w
  | fuel + 1, listed, a, w => (Region.ready md ops listed = [] → Q .normal a w) ∧ ∀ i ∈ Region.ready md ops listed, wpOp P ops Q i (fun a' w' => T i w w' ∧ wpAnyG P md ops Q T fuel (listed.setIfInBounds i true) a' w') a w
theorem wpAny_of_G {T : Nat → World → World → Prop} : ∀ (fuel : Nat) (listed : Array Bool) (a : Act) (w : World), wpAnyG P md ops Q T fuel listed a w → wpAny P md ops Q fuel listed a w
  | 0, _, _, _, h => h
  | fuel + 1, _, _, _, h => ⟨h.1, fun i hi => wpOp_mono (fun a' w' h' => wpAny_of_G fuel _ a' w' h'.2) (h.2 i hi)⟩
theorem calmG_first {IS : List Nat} {D : Nat → List Nat} {S : Nat → World → Prop} {i : Nat} {oi : Oper} {v : Value} (hi : ops[i]? = some oi) (hIS : IS.contains i = true) (hcl : closedD md ops i (D i) = true) (hsel : ∀ (j : Nat) (o : Oper) cs b, ops[j]? = some o → o.op ≠ .select cs b) (hQ : ∀ c a w, Q (.panic c) (a.put oi.dst v) w → Q (.panic c) a w) :
    ∀ (fuel : Nat) (listed : Array Bool) (a : Act) (w : World),
      (∀ j oj, ops[j]? = some oj → j ≠ i → listed.getD j true = false → (∀ e ∈ oj.after, Region.binds md e = true → e.on ≠ i) → oi.apart ops oj = true) →
      i ∈ Region.ready md ops listed → Calm P ops (S i) oi v a → S i w → (∀ d ∈ D i, listed.getD d true = false) → wpAnyG P md ops Q (Tst IS D S) fuel (listed.setIfInBounds i true) (a.put oi.dst v) w → wpAnyG P md ops Q (Tst IS D S) (fuel + 1) listed a w := by
  have same : ∀ w, Tst IS D S i w w := fun w => by unfold Tst; rw [if_pos hIS]
  intro fuel
  induction fuel with
  | zero =>
    intro listed a w hfree hr hy hS hd H
    refine ⟨fun h => (by rw [h] at hr; cases hr), fun j hj => ?_⟩
    by_cases hji : j = i
    · subst hji
      exact hy.wpOp hi hS ⟨same w, H⟩
    · have hm := ready_mono hj hji
      rw [H.1] at hm
      cases hm
  | succ fuel ih =>
    intro listed a w hfree hr hy hS hd H
    refine ⟨fun h => (by rw [h] at hr; cases hr), fun j hj => ?_⟩
    by_cases hji : j = i
    · subst hji
      exact hy.wpOp hi hS ⟨same w, H⟩
    · have h1 := H.2 j (ready_mono hj hji)
      obtain ⟨hjun, oj, hoj, hall⟩ := mem_ready.1 hj
      have hiun : ∀ e ∈ oj.after, Region.binds md e = true → e.on ≠ i := fun e he hb heq => by
        have h1 := hall e he hb
        have h0 := (mem_ready.1 hr).1
        rw [heq] at h1
        rcases Nat.lt_or_ge i listed.size with h' | h'
        · simp [h'] at h0 h1
          rw [h0] at h1
          cases h1
        · simp [Array.getElem?_eq_none h'] at h1
      have hjD : (D i).contains j = false := by
        cases hc : (D i).contains j with
        | false => rfl
        | true =>
          exfalso
          have hm : j ∈ D i := by simpa using hc
          have hq := (List.all_eq_true.1 hcl) j hm
          simp only [hoj] at hq
          obtain ⟨e, he, hq⟩ := Array.any_eq_true'.1 hq
          simp only [Bool.and_eq_true, Bool.or_eq_true, beq_iff_eq] at hq
          rcases hq.2 with hq2 | hq2
          · exact hiun e he hq.1 hq2
          · have hm2 : e.on ∈ D i := by simpa using hq2
            have h3 := hd e.on hm2
            have h4 := hall e he hq.1
            rw [Array.getD_eq_getD_getElem?] at h3
            cases hx : listed[e.on]? with
            | none =>
              rw [hx] at h3
              cases h3
            | some b =>
              rw [hx] at h3
              have h3' : b = false := h3
              subst h3'
              simp [hx] at h4
      have h2 := calm_put hoj (hfree j oj hoj hji hjun hiun) (fun cs b => hsel i oi cs b hi) (fun cs b => hsel j oj cs b hoj) hQ hy h1
      have hfree' : ∀ k ok, ops[k]? = some ok → k ≠ i → (listed.setIfInBounds j true).getD k true = false →
          (∀ e ∈ ok.after, Region.binds md e = true → e.on ≠ i) → oi.apart ops ok = true := fun k ok hk hki hun hno => by
        refine hfree k ok hk hki ?_ hno
        by_cases hjk : j = k
        · subst hjk
          exact hjun
        · rw [getD_set_ne true hjk] at hun
          exact hun
      have hd' : ∀ d ∈ D i, (listed.setIfInBounds j true).getD d true = false := fun d hm => by
        have hne : j ≠ d := fun he => by
          subst he
          have : (D i).contains j = true := by simpa using hm
          rw [hjD] at this
          cases this
        rw [getD_set_ne true hne]
        exact hd d hm
      refine wpOp_mono (fun a' w' h3 => ⟨h3.2.1, ih (listed.setIfInBounds j true) a' w' hfree' (ready_mono hr (Ne.symm hji)) h3.1 ?_ hd' ?_⟩) h2
      · have ht := h3.2.1
        unfold Tst at ht
        by_cases hc : IS.contains j = true
        · rw [if_pos hc] at ht
          rw [← ht]
          exact hS
        · rw [if_neg hc] at ht
          exact ht i (by simpa using hIS) hjD
      · rw [Array.setIfInBounds_comm _ _ hji]
        exact h3.2.2
/-- The calm operations, in order; then what follows. -/
def wpCalmG (P : Program) (ops : Array Oper) (S : Nat → World → Prop) (L : Act → Prop) : List Nat → Act → Prop
  | [], a => L a
  | i :: rest, a => ∃ o v, ops[i]? = some o ∧ Calm P ops (S i) o v a ∧ wpCalmG P ops S L rest (a.put o.dst v)
/-- Those of IS that do not lie ahead of j. -/
def pend (md : Region.Mode) (ops : Array Oper) (IS : List Nat) (j : Nat) : List Nat := IS.filter fun i => !(desc md ops i).contains j
def allS (S : Nat → World → Prop) (w : World) : List Nat → Prop
  | [] => True
  | i :: l => S i w ∧ allS S w l
theorem allS_mem {S : Nat → World → Prop} {w : World} : ∀ {l : List Nat}, allS S w l → ∀ i ∈ l, S i w
  | i :: l, h, k, hk => by
    rcases List.mem_cons.1 hk with rfl | hk
    · exact h.1
    · exact allS_mem h.2 k hk
/-- The others, in their forced order. -/
def wpTailG (P : Program) (ops : Array Oper) (Q : Exit → Act → World → Prop) (S : Nat → World → Prop) (IS : List Nat) (Kt : Act → World → Prop) : List Nat → Act → World → Prop
  | [], a, w => Kt a w
  | j :: rest, a, w => wpOp P ops Q j (fun a' w' => allS S w' (pend .any ops IS j) ∧ wpTailG P ops Q S IS Kt rest a' w') a w
/-- A run of calm ones, a run of others, and so on. -/
def wpPh (P : Program) (ops : Array Oper) (Q : Exit → Act → World → Prop) (S : Nat → World → Prop) (IS : List Nat) : List (List Nat × List Nat) → Act → World → Prop
  | [], a, w => Q .normal a w
  | (is, js) :: rest, a, w => allS S w is ∧ wpCalmG P ops S (fun a' => wpTailG P ops Q S IS (wpPh P ops Q S IS rest) js a' w) is a
def setAll : List Nat → Array Bool → Array Bool
  | [], listed => listed
  | i :: is, listed => setAll is (listed.setIfInBounds i true)
def seqT (ops : Array Oper) : List Nat → Array Bool → Bool
  | [], _ => true
  | j :: js, listed => decide (Region.ready .any ops listed = [j]) && seqT ops js (listed.setIfInBounds j true)
def lexT (ops : Array Oper) : List Nat → Array Bool → Bool
  | [], _ => true
  | i :: is, listed => (Region.ready .any ops listed).contains i && Region.free .any ops listed i && closedD .any ops i (desc .any ops i) && (desc .any ops i).all (fun d => !(listed.getD d true)) && lexT ops is (listed.setIfInBounds i true)
def phB (ops : Array Oper) : List (List Nat × List Nat) → Array Bool → Bool
  | [], listed => (Region.ready .any ops listed).isEmpty
  | (is, js) :: rest, listed => lexT ops is listed && seqT ops js (setAll is listed) && phB ops rest (setAll js (setAll is listed))
def countP : List (List Nat × List Nat) → Nat
  | [] => 0
  | (is, js) :: rest => is.length + (js.length + countP rest)
theorem tailG_any {IS : List Nat} {S : Nat → World → Prop} {Kt : Act → World → Prop} {n : Nat} : ∀ (js : List Nat) (listed : Array Bool) (a : Act) (w : World), (∀ j ∈ js, IS.contains j = false) → seqT ops js listed = true → (∀ a w, Kt a w → wpAnyG P .any ops Q (Tst IS (desc .any ops) S) n (setAll js listed) a w) → wpTailG P ops Q S IS Kt js a w → wpAnyG P .any ops Q (Tst IS (desc .any ops) S) (js.length + n) listed a w
  | [], listed, a, w, _, hB, hk, h => by
    rw [List.length_nil, Nat.zero_add]
    exact hk a w h
  | j :: js, listed, a, w, hn, hB, hk, h => by
    simp only [seqT, Bool.and_eq_true, decide_eq_true_eq] at hB
    have hlen : (j :: js).length + n = (js.length + n) + 1 := by simp only [List.length_cons]; omega
    rw [hlen]
    refine ⟨fun h1 => (by rw [hB.1] at h1; cases h1), fun i hi => ?_⟩
    rw [hB.1] at hi
    have hij : i = j := by simpa using hi
    subst hij
    refine wpOp_mono (fun a' w' h' => ⟨?_, tailG_any js _ a' w' (fun k hk => hn k (List.mem_cons_of_mem _ hk)) hB.2 hk h'.2⟩) h
    unfold Tst
    rw [if_neg (by rw [hn i List.mem_cons_self]; simp)]
    intro k hk hc
    refine allS_mem h'.1 k ?_
    unfold pend
    rw [List.mem_filter]
    exact ⟨hk, by rw [hc]; rfl⟩
theorem calmG_any {IS : List Nat} (hs : Region.noSelect ops = true) (hQ : ∀ c a w, ¬ Q (.panic c) a w) {S : Nat → World → Prop} {L : Act → Prop} {n : Nat} {w : World} : ∀ (is : List Nat) (listed : Array Bool) (a : Act), (∀ i ∈ is, i ∈ IS) → (∀ i ∈ is, S i w) →
    lexT ops is listed = true → (∀ a, L a → wpAnyG P .any ops Q (Tst IS (desc .any ops) S) n (setAll is listed) a w) → wpCalmG P ops S L is a → wpAnyG P .any ops Q (Tst IS (desc .any ops) S) (is.length + n) listed a w
  | [], listed, a, _, _, hB, hk, h => by
    rw [List.length_nil, Nat.zero_add]
    exact hk a h
  | i :: is, listed, a, hm, hS, hB, hk, h => by
    simp only [lexT, Bool.and_eq_true] at hB
    obtain ⟨⟨⟨⟨hr, hf⟩, hc⟩, hd⟩, hB'⟩ := hB
    obtain ⟨o, v, h0, hy, h⟩ := h
    have hlen : (i :: is).length + n = (is.length + n) + 1 := by simp only [List.length_cons]; omega
    rw [hlen]
    have hi := hm i List.mem_cons_self
    exact calmG_first h0 (by simpa using hi) hc (Region.noSelect_spec hs) (fun c a w hh => absurd hh (hQ c _ w)) (is.length + n) listed a w (Region.free_spec h0 hf) (by simpa using hr) hy (hS i List.mem_cons_self)
      (fun d hdm => by have := List.all_eq_true.1 hd d hdm; simpa using this)
      (calmG_any hs hQ is _ _ (fun k hk => hm k (List.mem_cons_of_mem _ hk)) (fun k hk => hS k (List.mem_cons_of_mem _ hk)) hB' hk h)
theorem phG_any {IS : List Nat} (hs : Region.noSelect ops = true) (hQ : ∀ c a w, ¬ Q (.panic c) a w) {S : Nat → World → Prop} : ∀ (ph : List (List Nat × List Nat)) (listed : Array Bool) (a : Act) (w : World), (∀ p ∈ ph, (∀ i ∈ p.1, i ∈ IS) ∧ ∀ j ∈ p.2, IS.contains j = false) →
    phB ops ph listed = true → wpPh P ops Q S IS ph a w → wpAnyG P .any ops Q (Tst IS (desc .any ops) S) (countP ph) listed a w
  | [], listed, a, w, _, hB, h => ⟨by simpa [phB] using hB, h⟩
  | (is, js) :: rest, listed, a, w, hm, hB, h => by
    simp only [phB, Bool.and_eq_true] at hB
    have hm0 := hm (is, js) List.mem_cons_self
    refine calmG_any hs hQ is listed a hm0.1 (allS_mem h.1) hB.1.1 (fun a' hl => ?_) h.2
    refine tailG_any js _ a' w hm0.2 hB.1.2 (fun a'' w'' hk => ?_) hl
    exact phG_any hs hQ rest _ a'' w'' (fun p hp => hm p (List.mem_cons_of_mem _ hp)) hB.2 hk
def allI : List (List Nat × List Nat) → List Nat
  | [] => []
  | (is, _) :: rest => is ++ allI rest
def phGB (ops : Array Oper) (ph : List (List Nat × List Nat)) : Bool := Region.noSelect ops && decide (countP ph = ops.size) && ph.all (fun p => p.1.all (fun i => (allI ph).contains i) && p.2.all (fun j => !(allI ph).contains j)) && phB ops ph (Array.replicate ops.size false)
theorem wp_region_phG {id : Nat} {a : Act} {w : World} (S : Nat → World → Prop) (ph : List (List Nat × List Nat)) (hm : P.follows .mixedOrders = true) (hB : phGB ops ph = true)
    (h : wpPh P ops (Tame (Q .normal)) S (allI ph) ph a w.drew) : (Code.region id ops true).wp P Q a w := by
  simp only [phGB, Bool.and_eq_true, decide_eq_true_eq] at hB
  obtain ⟨⟨⟨hsel, hn⟩, hd⟩, hlex⟩ := hB
  refine Code.wp_mono (Q := Tame (Q .normal)) (fun e a w he => ?_) ?_
  · cases e <;> first | exact he | exact absurd he (by simp [Tame])
  have H := phG_any (Q := Tame (Q .normal)) (IS := allI ph) hsel (fun c a w hh => hh) ph (Array.replicate ops.size false) a w.drew (fun p hp => by
    have h1 := List.all_eq_true.1 hd p hp
    simp only [Bool.and_eq_true] at h1
    exact ⟨fun i hi => by have := List.all_eq_true.1 h1.1 i hi; simpa using this, fun j hj => by have := List.all_eq_true.1 h1.2 j hj; simpa using this⟩) hlex h
  rw [hn] at H
  exact wp_region_any hm (wpAny_of_G _ _ _ _ H)
/-! ### The steps: the calm ones -/
variable {S : Nat → World → Prop} {IS : List Nat} {Kt : Act → World → Prop}
theorem g_value {L : Act → Prop} {i : Nat} {o : Oper} {rest : List Nat} {a : Act} {v : Value} {n : Tmp} (hi : ops[i]? = some o) (hN : o.dst = some n) (hw : Region.wanted o (yielded ops a.tmps) = true) (hrun : ∀ w, S i w → (execOp a.eval o).run P w = .ok (.value v) w) {a' : Act} (ha : a.put (some n) v = a')
    (h : wpCalmG P ops S L rest a') : wpCalmG P ops S L (i :: rest) a := by
  subst ha
  rw [← hN] at h
  exact ⟨o, v, hi, Or.inl ⟨hw, Or.inl hrun⟩, h⟩
theorem g_off {L : Act → Prop} {i : Nat} {o : Oper} {rest : List Nat} {a : Act} {n : Tmp} (hi : ops[i]? = some o) (hN : o.dst = some n) (hw : Region.wanted o (yielded ops a.tmps) = false) {a' : Act} (ha : a.put (some n) undef = a')
    (h : wpCalmG P ops S L rest a') : wpCalmG P ops S L (i :: rest) a := by
  subst ha
  rw [← hN] at h
  exact ⟨o, undef, hi, Or.inr ⟨hw, rfl⟩, h⟩
theorem g_call {L : Act → Prop} {i : Nat} {o : Oper} {rest : List Nat} {a : Act} {v : Value} {n : Tmp} {f : FuncId} {fn : Func} {as : Array Operand} {ts : Array TypeId} (hi : ops[i]? = some o) (hN : o.dst = some n) (hf : P.funcs[f]? = some fn) (hname : (fn.name == "runtime.NumGoroutine") = false) (hb : fn.body.isSome = true) (args : Array Value)
    (hw : Region.wanted o (yielded ops a.tmps) = true) (hop : o.op = .call { callee := .value (.func f), args := as, argTypes := ts }) (hargs : as.map a.eval = args)
    (hc : ∀ w, S i w → Calls P f args w fun e w' => e = .returned v ∧ w = w') {a' : Act} (ha : a.put (some n) v = a') (h : wpCalmG P ops S L rest a') : wpCalmG P ops S L (i :: rest) a := by
  subst ha
  rw [← hN] at h
  refine ⟨o, v, hi, Or.inl ⟨hw, Or.inr ⟨f, args, fun w _ => ?_, hc⟩⟩, h⟩
  have he := enters hf hname hb args w
  unfold execOp
  simp [hop, resolve, Deferred.ofValue, invoke, Act.eval, hargs, he]
theorem g_nil {L : Act → Prop} {a : Act} (h : L a) : wpCalmG P ops S L [] a := h
/-! ### The steps of the tail -/
theorem h_value {i : Nat} {o : Oper} {rest : List Nat} {a : Act} {v : Value} {n : Tmp} {w : World} (hi : ops[i]? = some o) (hN : o.dst = some n) (hw : Region.wanted o (yielded ops a.tmps) = true) {w1 : World} (hrun : (execOp a.eval o).run P w = .ok (.value v) w1) {pl : List Nat} (hp : pend .any ops IS i = pl) (hS : allS S w1 pl) {a' : Act} (ha : a.put (some n) v = a')
    (h : wpTailG P ops Q S IS Kt rest a' w1) : wpTailG P ops Q S IS Kt (i :: rest) a w := by
  subst ha hp
  rw [← hN] at h
  unfold wpTailG wpOp
  simp only [hi]
  rw [if_pos hw]
  left
  unfold Oper.wp
  rw [hrun]
  exact ⟨hS, h⟩
theorem h_store {i : Nat} {o : Oper} {rest : List Nat} {a : Act} {w : World} (hi : ops[i]? = some o) (hw : Region.wanted o (yielded ops a.tmps) = true) (hN : o.dst = none) {w1 : World} (hrun : (execOp a.eval o).run P w = .ok .skip w1) {pl : List Nat} (hp : pend .any ops IS i = pl) (hS : allS S w1 pl)
    (h : wpTailG P ops Q S IS Kt rest a w1) : wpTailG P ops Q S IS Kt (i :: rest) a w := by
  subst hp
  unfold wpTailG wpOp
  simp only [hi]
  rw [if_pos hw]
  left
  unfold Oper.wp
  rw [hrun]
  show allS S w1 _ ∧ wpTailG P ops Q S IS Kt rest (a.put o.dst undef) w1
  rw [hN]
  exact ⟨hS, h⟩
theorem h_call {i : Nat} {o : Oper} {rest : List Nat} {a : Act} {f : FuncId} {fn : Func} {as : Array Operand} {ts : Array TypeId} {w : World} {n : Tmp} (hi : ops[i]? = some o) (hN : o.dst = some n) (hf : P.funcs[f]? = some fn) (hname : (fn.name == "runtime.NumGoroutine") = false) (hb : fn.body.isSome = true) (args : Array Value)
    (hw : Region.wanted o (yielded ops a.tmps) = true) (hop : o.op = .call { callee := .value (.func f), args := as, argTypes := ts }) (hargs : as.map a.eval = args) {pl : List Nat} (hp : pend .any ops IS i = pl)
    (hc : Calls P f args w fun e w' => ∃ v, e = .returned v ∧ allS S w' pl ∧ wpTailG P ops Q S IS Kt rest (a.put (some n) v) w') : wpTailG P ops Q S IS Kt (i :: rest) a w := by
  subst hp
  rw [← hN] at hc
  unfold wpTailG wpOp
  simp only [hi]
  rw [if_pos hw]
  left
  have he := enters hf hname hb args w
  have hrun : (execOp a.eval o).run P w = .ok (.enter f args) w := by
    unfold execOp
    simp [hop, resolve, Deferred.ofValue, invoke, Act.eval, hargs, he]
  unfold Oper.wp
  rw [hrun, Oper.upon_enter]
  refine hc.mono fun e w'' hh => ?_
  obtain ⟨v, rfl, h1, h2⟩ := hh
  exact ⟨h1, h2⟩
/-- A step by a law of the form 'if wanted then Oper.wp ..' (R_append_step and its like). -/
theorem h_law {i : Nat} {o : Oper} {rest : List Nat} {a : Act} {w : World} (hi : ops[i]? = some o) {pl : List Nat} (hp : pend .any ops IS i = pl)
    (h : if Region.wanted o (yielded ops a.tmps) = true then Oper.wp P o a w (fun a' w' => allS S w' pl ∧ wpTailG P ops Q S IS Kt rest a' w') Q else (fun a' w' => allS S w' pl ∧ wpTailG P ops Q S IS Kt rest a' w') (a.put o.dst undef) w) : wpTailG P ops Q S IS Kt (i :: rest) a w := by
  subst hp
  unfold wpTailG wpOp
  simp only [hi]
  split
  · rename_i hw
    rw [if_pos hw] at h
    exact Or.inl h
  · rename_i hw
    rw [if_neg hw] at h
    exact h
/-! ### Conditions by a short list -/
def SC (C : List (Nat × (World → Prop))) (i : Nat) (w : World) : Prop := ∀ p ∈ C, p.1 = i → p.2 w
theorem SC_nil {i : Nat} {w : World} : SC [] i w ↔ True := ⟨fun _ => trivial, fun _ p hp => by cases hp⟩
theorem SC_cons {C : List (Nat × (World → Prop))} {k i : Nat} {F : World → Prop} {w : World} : SC ((k, F) :: C) i w ↔ (k = i → F w) ∧ SC C i w :=
  ⟨fun h => ⟨h (k, F) List.mem_cons_self, fun p hp => h p (List.mem_cons_of_mem _ hp)⟩, fun h p hp he => by
    rcases List.mem_cons.1 hp with rfl | hp
    · exact h.1 he
    · exact h.2 p hp he⟩
def allC (w : World) : List (Nat × (World → Prop)) → Prop
  | [] => True
  | (_, F) :: C => F w ∧ allC w C
theorem allC_mem {w : World} : ∀ {C : List (Nat × (World → Prop))}, allC w C → ∀ p ∈ C, p.2 w
  | (k, F) :: C, h, p, hp => by
    rcases List.mem_cons.1 hp with rfl | hp
    · exact h.1
    · exact allC_mem h.2 p hp
theorem allS_of {w : World} {C : List (Nat × (World → Prop))} (h : allC w C) : ∀ (l : List Nat), allS (SC C) w l
  | [] => trivial
  | i :: l => ⟨fun p hp _ => allC_mem h p hp, allS_of h l⟩
def okC (ops : Array Oper) (j : Nat) (w : World) : List (Nat × (World → Prop)) → Prop
  | [] => True
  | (i, F) :: C => ((desc .any ops i).contains j = true ∨ F w) ∧ okC ops j w C
theorem okC_mem {w : World} {j : Nat} : ∀ {C : List (Nat × (World → Prop))}, okC ops j w C → ∀ p ∈ C, (desc .any ops p.1).contains j = true ∨ p.2 w
  | (k, F) :: C, h, p, hp => by
    rcases List.mem_cons.1 hp with rfl | hp
    · exact h.1
    · exact okC_mem h.2 p hp
theorem allS_pend {w : World} {j : Nat} {C : List (Nat × (World → Prop))} (h : okC ops j w C) (IS : List Nat) : allS (SC C) w (pend .any ops IS j) := by
  have key : ∀ l : List Nat, (∀ i ∈ l, (desc .any ops i).contains j = false) → allS (SC C) w l := by
    intro l
    induction l with
    | nil => exact fun _ => trivial
    | cons i l ih =>
      intro hl
      refine ⟨fun p hp he => ?_, ih fun k hk => hl k (List.mem_cons_of_mem _ hk)⟩
      rcases okC_mem h p hp with h1 | h1
      · rw [he, hl i List.mem_cons_self] at h1
        cases h1
      · exact h1
  refine key _ fun i hi => ?_
  unfold pend at hi
  rw [List.mem_filter] at hi
  simpa using hi.2
/-- The conditions of those that come up now. -/
def okI (C : List (Nat × (World → Prop))) (w : World) (is : List Nat) : Prop := match C with
  | [] => True
  | (i, F) :: C => (is.contains i = false ∨ F w) ∧ okI C w is
theorem okI_mem {w : World} {is : List Nat} : ∀ {C : List (Nat × (World → Prop))}, okI C w is → ∀ p ∈ C, is.contains p.1 = false ∨ p.2 w
  | (k, F) :: C, h, p, hp => by
    rcases List.mem_cons.1 hp with rfl | hp
    · exact h.1
    · exact okI_mem h.2 p hp
theorem okI_allS {C : List (Nat × (World → Prop))} {w : World} {is : List Nat} (h : okI C w is) : allS (SC C) w is := by
  have key : ∀ l : List Nat, (∀ i ∈ l, is.contains i = true) → allS (SC C) w l := by
    intro l
    induction l with
    | nil => exact fun _ => trivial
    | cons i l ih =>
      intro hl
      refine ⟨fun p hp he => ?_, ih fun k hk => hl k (List.mem_cons_of_mem _ hk)⟩
      rcases okI_mem h p hp with h1 | h1
      · rw [he, hl i List.mem_cons_self] at h1
        cases h1
      · exact h1
  exact key is fun i hi => by simpa using hi
theorem okI_nil {w : World} {is : List Nat} : okI [] w is := trivial
theorem okI_cons {C : List (Nat × (World → Prop))} {i : Nat} {F : World → Prop} {w : World} {is : List Nat} (h : is.contains i = false ∨ F w) (t : okI C w is) : okI ((i, F) :: C) w is := ⟨h, t⟩
theorem wp_region_phC {id : Nat} {a : Act} {w : World} (C : List (Nat × (World → Prop))) (ph : List (List Nat × List Nat)) (hm : P.follows .mixedOrders = true) (hB : phGB ops ph = true)
    (h : wpPh P ops (Tame (Q .normal)) (SC C) (allI ph) ph a w.drew) : (Code.region id ops true).wp P Q a w := wp_region_phG (SC C) ph hm hB h
theorem wp_region_calmC {id : Nat} {a : Act} {w : World} (C : List (Nat × (World → Prop))) (is js : List Nat) (hm : P.follows .mixedOrders = true) (hB : phGB ops [(is, js)] = true) (hS : allC w.drew C)
    (h : wpCalmG P ops (SC C) (fun a' => wpTailG P ops (Tame (Q .normal)) (SC C) (is ++ []) (Q .normal) js a' w.drew) is a) : (Code.region id ops true).wp P Q a w :=
  wp_region_phC C [(is, js)] hm hB ⟨allS_of hS is, h⟩
theorem c_value {C : List (Nat × (World → Prop))} {i : Nat} {o : Oper} {rest : List Nat} {a : Act} {v : Value} {n : Tmp} {w : World} (hi : ops[i]? = some o) (hN : o.dst = some n) (hw : Region.wanted o (yielded ops a.tmps) = true) {w1 : World} (hrun : (execOp a.eval o).run P w = .ok (.value v) w1) (hS : okC ops i w1 C) {a' : Act} (ha : a.put (some n) v = a')
    (h : wpTailG P ops Q (SC C) IS Kt rest a' w1) : wpTailG P ops Q (SC C) IS Kt (i :: rest) a w := h_value hi hN hw hrun rfl (allS_pend hS IS) ha h
theorem c_store {C : List (Nat × (World → Prop))} {i : Nat} {o : Oper} {rest : List Nat} {a : Act} {w : World} (hi : ops[i]? = some o) (hw : Region.wanted o (yielded ops a.tmps) = true) (hN : o.dst = none) {w1 : World} (hrun : (execOp a.eval o).run P w = .ok .skip w1) (hS : okC ops i w1 C)
    (h : wpTailG P ops Q (SC C) IS Kt rest a w1) : wpTailG P ops Q (SC C) IS Kt (i :: rest) a w := h_store hi hw hN hrun rfl (allS_pend hS IS) h
theorem c_call {C : List (Nat × (World → Prop))} {i : Nat} {o : Oper} {rest : List Nat} {a : Act} {f : FuncId} {fn : Func} {as : Array Operand} {ts : Array TypeId} {w : World} {n : Tmp} (hi : ops[i]? = some o) (hN : o.dst = some n) (hf : P.funcs[f]? = some fn) (hname : (fn.name == "runtime.NumGoroutine") = false) (hb : fn.body.isSome = true) (args : Array Value)
    (hw : Region.wanted o (yielded ops a.tmps) = true) (hop : o.op = .call { callee := .value (.func f), args := as, argTypes := ts }) (hargs : as.map a.eval = args)
    (hc : Calls P f args w fun e w' => ∃ v, e = .returned v ∧ okC ops i w' C ∧ wpTailG P ops Q (SC C) IS Kt rest (a.put (some n) v) w') : wpTailG P ops Q (SC C) IS Kt (i :: rest) a w :=
  h_call hi hN hf hname hb args hw hop hargs rfl (hc.mono fun e w' ⟨v, h1, h2, h3⟩ => ⟨v, h1, allS_pend h2 IS, h3⟩)
theorem wp_law_mono {o : Oper} {a : Act} {w : World} {K K' : Act → World → Prop} (hk : ∀ a w, K a w → K' a w) (h : if Region.wanted o (yielded ops a.tmps) = true then Oper.wp P o a w K Q else K (a.put o.dst undef) w) : if Region.wanted o (yielded ops a.tmps) = true then Oper.wp P o a w K' Q else K' (a.put o.dst undef) w := by
  split
  · rename_i hw
    rw [if_pos hw] at h
    exact Oper.wp_mono hk h
  · rename_i hw
    rw [if_neg hw] at h
    exact hk _ _ h
theorem c_law {C : List (Nat × (World → Prop))} {i : Nat} {o : Oper} {rest : List Nat} {a : Act} {w : World} (hi : ops[i]? = some o)
    (h : if Region.wanted o (yielded ops a.tmps) = true then Oper.wp P o a w (fun a' w' => okC ops i w' C ∧ wpTailG P ops Q (SC C) IS Kt rest a' w') Q else (fun a' w' => okC ops i w' C ∧ wpTailG P ops Q (SC C) IS Kt rest a' w') (a.put o.dst undef) w) : wpTailG P ops Q (SC C) IS Kt (i :: rest) a w :=
  h_law hi rfl (wp_law_mono (fun _ _ hh => ⟨allS_pend hh.1 IS, hh.2⟩) h)
theorem okC_nil {j : Nat} {w : World} : okC ops j w [] := trivial
theorem okC_cons {i j : Nat} {w : World} {F : World → Prop} {C : List (Nat × (World → Prop))} (h : (desc .any ops i).contains j = true ∨ F w) (t : okC ops j w C) : okC ops j w ((i, F) :: C) := ⟨h, t⟩
theorem allC_nil {w : World} : allC w [] := trivial
theorem allC_cons {i : Nat} {w : World} {F : World → Prop} {C : List (Nat × (World → Prop))} (h : F w) (t : allC w C) : allC w ((i, F) :: C) := ⟨h, t⟩
theorem put_to {js : List Nat} {a a' : Act} {w : World} (ha : a = a') (h : wpTailG P ops Q S IS Kt js a' w) : wpTailG P ops Q S IS Kt js a w := by
  subst ha
  exact h
theorem put_dst {js : List Nat} {a a' : Act} {w : World} {o : Oper} {v : Value} {n : Tmp} (hN : o.dst = some n) (ha : a.put (some n) v = a') (h : wpTailG P ops Q S IS Kt js a' w) : wpTailG P ops Q S IS Kt js (a.put o.dst v) w := by
  subst ha
  rw [hN]
  exact h
theorem h_nil {a : Act} {w : World} (h : Kt a w) : wpTailG P ops Q S IS Kt [] a w := h
theorem ph_end {K : Act → World → Prop} {a : Act} {w : World} (h : K a w) : wpPh P ops (Tame K) S IS [] a w := h
theorem ph_next {C : List (Nat × (World → Prop))} {is js : List Nat} {rest : List (List Nat × List Nat)} {a : Act} {w : World} (hS : okI C w is) (h : wpCalmG P ops (SC C) (fun a' => wpTailG P ops Q (SC C) IS (wpPh P ops Q (SC C) IS rest) js a' w) is a) : wpPh P ops Q (SC C) IS ((is, js) :: rest) a w := ⟨okI_allS hS, h⟩
end
end Go.Proofs.Ytcieopcihbgfdaa.Calm
