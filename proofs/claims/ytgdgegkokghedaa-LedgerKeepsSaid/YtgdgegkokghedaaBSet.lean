/- A map from int64 to bool that a call makes and into which only 'true' is put, as a set of whole numbers: which are in, and how many. -/
import Derived.Test.YtgdgegkokghedaaProg
import Derived.WalkKit
import Derived.Maps.OwnSet
namespace Go.Proofs.Ytgdgegkokghedaa.BSet
open Go.RowKit Go.Maps Go.MapKept
theorem law : Keyed Try.prog 2 := int_keyed Try.underlying2
theorem zeroB (w : World) : (zeroValue 4).run Try.prog w = .ok (.bool false) w := by kernel_rfl
/-- Block g is a map whose keys are those of l, each once, all true. -/
structure BSet (w : World) (g : Nat) (l : List Int) : Prop where
  out : ∃ D : DataW Unit, w.ownsMap Try.prog 2 (plainElem Try.prog 4) g l.length D ∧ Tidy D ∧ Maps.size D = l.length ∧ (∀ k, Maps.has D (.int .i64 k) = decide (k ∈ l)) ∧ ∀ k, D.atKey (.int .i64 k) (.lit (.bool false)) = .lit (.bool (decide (k ∈ l)))
theorem BSet.lt {w : World} {g : Nat} {l : List Int} (h : BSet w g l) : g < w.heap.size := by obtain ⟨D, h1, _⟩ := h.out; exact h1.lt
theorem BSet.same {w w' : World} {g : Nat} {l : List Int} (h : BSet w g l) (hg : w'.heap[g]? = w.heap[g]?) : BSet w' g l := by
  obtain ⟨D, ⟨es, clock, hb, F, hs, hD⟩, h2⟩ := h.out
  exact ⟨D, ⟨es, clock, hg.trans hb, F, hs, hD⟩, h2⟩
theorem BSet.blk {w : World} {g : Nat} {l : List Int} (h : BSet w g l) : ∃ es clock, w.heap[g]? = some (.map es clock) := by
  obtain ⟨D, ⟨es, clock, hb, _⟩, _⟩ := h.out
  exact ⟨es, clock, hb⟩
theorem made (w : World) : BSet (w.alloc (.map #[] 0)) w.heap.size [] := ⟨.map [], World.ownsMap_made _ _ _ _, tidy_empty, rfl, fun _ => rfl, fun _ => rfl⟩
theorem bool_inv {v : Value} {z : DataW Unit × List MemPlace} (h : plainElem Try.prog 4 v = some z) : ∃ b, v = .bool b ∧ z = (.lit (.bool b), []) := by
  unfold plainElem at h
  rw [Try.underlying4] at h
  cases v <;> simp at h
  exact ⟨_, rfl, h.symm⟩
theorem lookup {w : World} {g : Nat} {l : List Int} (h : BSet w g l) {k : Int} (hk : (Lit.int .i64 k).wf = true) : (Instr.lookup 51 (.map (some g)) (.int .i64 k) false).run Try.prog w = .ok (.bool (decide (k ∈ l))) w := by
  obtain ⟨D, h1, _, _, _, h2⟩ := h.out
  obtain ⟨v, ps, hrun, hv⟩ := h1.lookup law Try.underlying51 (zeroB w) (plainElem_bool Try.underlying4 false) (keyOf_int_mk Try.underlying2 hk)
  obtain ⟨b, rfl, hz⟩ := bool_inv hv
  have e : D.atKey (.int .i64 k) (.lit (.bool false)) = .lit (.bool b) := congrArg Prod.fst hz
  rw [h2 k] at e
  have e2 : decide (k ∈ l) = b := by
    injection e with e
    injection e
  rw [hrun, e2]
theorem update {w : World} {g : Nat} {l : List Int} (h : BSet w g l) (hn : l.length < maxLen) {k : Int} (hk : (Lit.int .i64 k).wf = true) (hnew : k ∉ l) : ∃ w', (Instr.mapUpdate 51 (.map (some g)) (.int .i64 k) (.bool true)).run Try.prog w = .ok () w' ∧ BSet w' g (k :: l) ∧ w.mapTurned w' g := by
  obtain ⟨D, h1, hT, hS, hH, h2⟩ := h.out
  obtain ⟨w', hrun, ho, hg⟩ := h1.store law Try.underlying51 hn (keyOf_int_mk Try.underlying2 hk) (plainElem_bool Try.underlying4 true)
  refine ⟨w', hrun, ⟨_, ho, Tidy.put hT (by trivial) _, ?_, fun j => ?_, fun j => ?_⟩, hg⟩
  · rw [size_put hT, hH k, decide_eq_false hnew, hS]
    rfl
  · by_cases hj : j = k
    · subst hj
      rw [has_put_same hT.isMap (by trivial)]
      simp
    · rw [has_put_other (by simpa using hj), hH j]
      simp [hj]
  · by_cases hj : j = k
    · subst hj
      rw [atKey_put_same hT.isMap (by trivial)]
      simp
    · rw [atKey_put_other (by simpa using hj), h2 j]
      simp [hj]
section
variable {ops : Array Oper} {rest : List Oper} {o : Oper} {a : Act} {Q : Exit → Act → World → Prop}
theorem lookup_arm {w : World} (hg : o.guard = none) (m x : Operand) (hop : o.op = Op.lookup 51 m x false) {g : Nat} {l : List Int} (h : BSet w g l) (k : Int) (hk : (Lit.int .i64 k).wf = true) (hm : a.eval m = .map (some g)) (hx : a.eval x = .int .i64 k)
    {r : Bool} (hr : decide (k ∈ l) = r) (hK : wpList Try.prog ops Q rest (a.put o.dst (.bool r)) w) : wpList Try.prog ops Q (o :: rest) a w := by
  subst hr
  refine wpList_plain hg fun K' hK' => ?_
  have hrun := lookup h hk
  unfold Oper.wp
  simp [execOp, hop, hm, hx, hrun, Result.andThen]
  exact hK' _ _ (by simpa using hK)
theorem update_arm {w : World} (hg : o.guard = none) (m x v : Operand) (hop : o.op = Op.mapUpdate 51 m x v ∨ o.op = Op.insert 51 m x v) {g : Nat} {l : List Int} (h : BSet w g l) (hn : l.length < maxLen) (k : Int) (hk : (Lit.int .i64 k).wf = true) (hnew : k ∉ l) (hm : a.eval m = .map (some g)) (hx : a.eval x = .int .i64 k) (hv : a.eval v = .bool true)
    (hK : ∀ w', BSet w' g (k :: l) → w.mapTurned w' g → wpList Try.prog ops Q rest (a.put o.dst undef) w') : wpList Try.prog ops Q (o :: rest) a w := by
  refine wpList_plain hg fun K' hK' => ?_
  obtain ⟨w', hrun, r1, r2⟩ := update h hn hk hnew
  unfold Oper.wp
  rcases hop with hop | hop
  all_goals
    simp [execOp, hop, hm, hx, hv, hrun, Result.andThen]
    exact hK' _ _ (hK w' r1 r2)
theorem len_arm {w : World} (hg : o.guard = none) (m : Operand) (hop : o.op = Op.call { callee := Callee.builtin Builtin.len, args := #[m], argTypes := #[51] }) {g : Nat} {l : List Int} (h : BSet w g l) (hm : a.eval m = .map (some g))
    {n : Nat} (hl : l.length = n) (hK : wpList Try.prog ops Q rest (a.put o.dst (.int .i64 n)) w) : wpList Try.prog ops Q (o :: rest) a w := by
  obtain ⟨D, h1, hT, hS, hH, h2⟩ := h.out
  exact wpList_len_own w hg m _ hop _ _ Try.underlying51 _ g _ D hm h1 (by rw [hS, hl]; exact hK)
end
end Go.Proofs.Ytgdgegkokghedaa.BSet
