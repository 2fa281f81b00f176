/- A map from int64 to bool that a call makes, as a function. -/
import Derived.Test.YtligpakpgifkdaaProg
import Derived.WalkKit
import Derived.Maps.Own
import Derived.Maps.OwnOps
import Derived.Maps.Views
namespace Go.Proofs.Ytligpakpgifkdaa.BMap
open Go.RowKit Go.Maps
theorem law : Keyed Try.prog 2 := int_keyed Try.underlying2
theorem zeroB (w : World) : (zeroValue 4).run Try.prog w = .ok (.bool false) w := by kernel_rfl
/-- Block g is a map of at most n entries that answers f. -/
def BMap (w : World) (g n : Nat) (f : Int → Bool) : Prop := ∃ D : DataW Unit, w.ownsMap Try.prog 2 (plainElem Try.prog 4) g n D ∧ Maps.IsMap D ∧ ∀ k, D.atKey (.int .i64 k) (.lit (.bool false)) = .lit (.bool (f k))
theorem BMap.lt {w : World} {g n : Nat} {f : Int → Bool} (h : BMap w g n f) : g < w.heap.size := by obtain ⟨D, h1, _⟩ := h; exact h1.lt
theorem BMap.kept {w w' : World} {g n : Nat} {f : Int → Bool} {row : Option Nat} (h : BMap w g n f) (hg : w.grownBy w' row) (hne : some g ≠ row) : BMap w' g n f := by
  obtain ⟨D, h1, h2⟩ := h
  exact ⟨D, h1.kept hg hne, h2⟩
theorem BMap.same {w w' : World} {g n : Nat} {f : Int → Bool} (h : BMap w g n f) (hg : w'.heap[g]? = w.heap[g]?) : BMap w' g n f := by
  obtain ⟨D, ⟨es, clock, hb, F, hs, hD⟩, h2⟩ := h
  exact ⟨D, ⟨es, clock, hg.trans hb, F, hs, hD⟩, h2⟩
theorem made (w : World) : BMap (w.alloc (.map #[] 0)) w.heap.size 0 (fun _ => false) := ⟨.map [], World.ownsMap_made _ _ _ _, ⟨[], rfl⟩, fun _ => rfl⟩
theorem bool_inv {v : Value} {z : DataW Unit × List MemPlace} (h : plainElem Try.prog 4 v = some z) : ∃ b, v = .bool b ∧ z = (.lit (.bool b), []) := by
  unfold plainElem at h
  rw [Try.underlying4] at h
  cases v <;> simp at h
  exact ⟨_, rfl, h.symm⟩
theorem lookup {w : World} {g n : Nat} {f : Int → Bool} (h : BMap w g n f) {k : Int} (hk : (Lit.int .i64 k).wf = true) : (Instr.lookup 38 (.map (some g)) (.int .i64 k) false).run Try.prog w = .ok (.bool (f k)) w := by
  obtain ⟨D, h1, _, h2⟩ := h
  obtain ⟨v, ps, hrun, hv⟩ := h1.lookup law Try.underlying38 (zeroB w) (plainElem_bool Try.underlying4 false) (keyOf_int_mk Try.underlying2 hk)
  obtain ⟨b, rfl, hz⟩ := bool_inv hv
  have e : D.atKey (.int .i64 k) (.lit (.bool false)) = .lit (.bool b) := congrArg Prod.fst hz
  rw [h2 k] at e
  have e2 : f k = b := by simpa using e
  rw [hrun, e2]
theorem update {w : World} {g n : Nat} {f : Int → Bool} (h : BMap w g n f) (hn : n < maxLen) {k : Int} (hk : (Lit.int .i64 k).wf = true) (b : Bool) : ∃ w', (Instr.mapUpdate 38 (.map (some g)) (.int .i64 k) (.bool b)).run Try.prog w = .ok () w' ∧ BMap w' g (n + 1) (fun j => if j = k then b else f j) ∧ w.grownBy w' (some g) := by
  obtain ⟨D, h1, hM, h2⟩ := h
  obtain ⟨w', hrun, ho, hg⟩ := h1.update law Try.underlying38 hn (keyOf_int_mk Try.underlying2 hk) (plainElem_bool Try.underlying4 b)
  refine ⟨w', hrun, ⟨_, ho, ?_, fun j => ?_⟩, hg⟩
  · obtain ⟨es, clock, _, _, _, e⟩ := ho
    exact ⟨_, e⟩
  · dsimp only
    by_cases hj : j = k
    · subst hj
      rw [if_pos rfl]
      exact Maps.atKey_put_same hM (by trivial) _ _
    · rw [if_neg hj, Maps.atKey_put_other (by simpa using hj)]
      exact h2 j
section
variable {ops : Array Oper} {rest : List Oper} {o : Oper} {a : Act} {Q : Exit → Act → World → Prop}
theorem lookup_arm {w : World} (hg : o.guard = none) (m x : Operand) (hop : o.op = Op.lookup 38 m x false) {g n : Nat} {f : Int → Bool} (h : BMap w g n f) (k : Int) (hk : (Lit.int .i64 k).wf = true) (hm : a.eval m = .map (some g)) (hx : a.eval x = .int .i64 k)
    (hK : wpList Try.prog ops Q rest (a.put o.dst (.bool (f k))) w) : wpList Try.prog ops Q (o :: rest) a w := by
  refine wpList_plain hg fun K' hK' => ?_
  have hrun := lookup h hk
  unfold Oper.wp
  simp [execOp, hop, hm, hx, hrun, Result.andThen]
  exact hK' _ _ hK
theorem update_arm {w : World} (hg : o.guard = none) (m x v : Operand) (hop : o.op = Op.mapUpdate 38 m x v ∨ o.op = Op.insert 38 m x v) {g n : Nat} {f : Int → Bool} (h : BMap w g n f) (hn : n < maxLen) (k : Int) (hk : (Lit.int .i64 k).wf = true) (b : Bool) (hm : a.eval m = .map (some g)) (hx : a.eval x = .int .i64 k) (hv : a.eval v = .bool b)
    (hK : ∀ w', BMap w' g (n + 1) (fun j => if j = k then b else f j) → w.grownBy w' (some g) → wpList Try.prog ops Q rest (a.put o.dst undef) w') : wpList Try.prog ops Q (o :: rest) a w := by
  refine wpList_plain hg fun K' hK' => ?_
  obtain ⟨w', hrun, r1, r2⟩ := update h hn hk b
  unfold Oper.wp
  rcases hop with hop | hop
  all_goals
    simp [execOp, hop, hm, hx, hv, hrun, Result.andThen]
    exact hK' _ _ (hK w' r1 r2)
end
end Go.Proofs.Ytligpakpgifkdaa.BMap
