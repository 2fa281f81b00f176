/- A map from int64 to values that a call makes, as a function and a number of keys. -/
import Derived.Test.YtcieopcihbgfdaaProg
import Derived.WalkKit
import Derived.Maps.OwnSet
import Derived.Maps.RangeWalk
namespace Go.Proofs.Ytcieopcihbgfdaa.VM
open Go.RowKit Go.Maps Go.MapKept
set_option linter.unusedVariables false
theorem law : Keyed Try.prog 2 := int_keyed Try.underlying2
def RV (v : Value) : Option (DataW Value × List MemPlace) := some (.held v, [])
def put (f : Int → Option Value) (k : Int) (v : Value) : Int → Option Value := fun j => if j = k then some v else f j
def del (f : Int → Option Value) (k : Int) : Int → Option Value := fun j => if j = k then none else f j
/-- Block g is a map of n keys that answers f. -/
structure VMap (w : World) (g n : Nat) (f : Int → Option Value) : Prop where
  out : ∃ D : DataW Value, w.ownsMap Try.prog 2 RV g n D ∧ Tidy D ∧ Maps.size D = n ∧ (∀ k, Maps.has D (.int .i64 k) = (f k).isSome) ∧ ∀ k z, D.atKey (.int .i64 k) z = match f k with | some v => .held v | none => z
theorem VMap.lt {w : World} {g n : Nat} {f : Int → Option Value} (h : VMap w g n f) : g < w.heap.size := by obtain ⟨D, h1, _⟩ := h.out; exact h1.lt
theorem VMap.same {w w' : World} {g n : Nat} {f : Int → Option Value} (h : VMap w g n f) (hg : w'.heap[g]? = w.heap[g]?) : VMap w' g n f := by
  obtain ⟨D, ⟨es, clock, hb, F, hs, hD⟩, h2⟩ := h.out
  exact ⟨D, ⟨es, clock, hg.trans hb, F, hs, hD⟩, h2⟩
theorem VMap.congr {w : World} {g n : Nat} {f f' : Int → Option Value} (h : VMap w g n f) (e : ∀ k, f' k = f k) : VMap w g n f' := by
  have : f' = f := funext e
  rw [this]; exact h
theorem VMap.blk {w : World} {g n : Nat} {f : Int → Option Value} (h : VMap w g n f) : ∃ es clock, w.heap[g]? = some (.map es clock) := by
  obtain ⟨D, ⟨es, clock, hb, _⟩, _⟩ := h.out
  exact ⟨es, clock, hb⟩
theorem VMap.ne {w : World} {g n b t : Nat} {f : Int → Option Value} {cells : Array Value} {fr : Nat × Nat} (h : VMap w g n f) (hb : w.heap[b]? = some (.cells cells t fr)) : g ≠ b := by
  rintro rfl
  obtain ⟨es, clock, he⟩ := h.blk
  rw [he] at hb
  cases hb
theorem made (w : World) : VMap (w.alloc (.map #[] 0)) w.heap.size 0 (fun _ => none) := ⟨.map [], World.ownsMap_made _ _ _ _, tidy_empty, rfl, fun _ => rfl, fun _ _ => rfl⟩
section
variable {T E : TypeId} {z : Value}
theorem lookup {w : World} {g n : Nat} {f : Int → Option Value} (h : VMap w g n f) (ht : Try.prog.underlying T = some (.map 2 E)) (hz : (zeroValue E).run Try.prog w = .ok z w) {k : Int} (hk : (Lit.int .i64 k).wf = true) : (Instr.lookup T (.map (some g)) (.int .i64 k) false).run Try.prog w = .ok ((f k).getD z) w := by
  obtain ⟨D, h1, _, _, _, h2⟩ := h.out
  obtain ⟨v, ps, hrun, hv⟩ := h1.lookup law ht hz (show RV z = some (.held z, []) from rfl) (keyOf_int_mk Try.underlying2 hk)
  rw [h2 k] at hv
  rw [hrun]
  unfold RV at hv
  cases hf : f k with
  | none => rw [hf] at hv; simp only [Option.some.injEq, Prod.mk.injEq, DataW.held.injEq] at hv; rw [hv.1]; rfl
  | some u => rw [hf] at hv; simp only [Option.some.injEq, Prod.mk.injEq, DataW.held.injEq] at hv; rw [hv.1]; rfl
theorem lookup_ok {w : World} {g n : Nat} {f : Int → Option Value} (h : VMap w g n f) (ht : Try.prog.underlying T = some (.map 2 E)) (hz : (zeroValue E).run Try.prog w = .ok z w) {k : Int} (hk : (Lit.int .i64 k).wf = true) : (Instr.lookup T (.map (some g)) (.int .i64 k) true).run Try.prog w = .ok (.tuple #[(f k).getD z, .bool (f k).isSome]) w := by
  obtain ⟨D, h1, _, _, h3, h2⟩ := h.out
  obtain ⟨v, ps, hrun, hv⟩ := h1.look_ok law ht hz (show RV z = some (.held z, []) from rfl) (keyOf_int_mk Try.underlying2 hk)
  rw [h2 k] at hv
  rw [hrun, h3 k]
  unfold RV at hv
  cases hf : f k with
  | none => rw [hf] at hv; simp only [Option.some.injEq, Prod.mk.injEq, DataW.held.injEq] at hv; rw [hv.1]; rfl
  | some u => rw [hf] at hv; simp only [Option.some.injEq, Prod.mk.injEq, DataW.held.injEq] at hv; rw [hv.1]; rfl
theorem update {w : World} {g n : Nat} {f : Int → Option Value} (h : VMap w g n f) (ht : Try.prog.underlying T = some (.map 2 E)) (hn : n < maxLen) {k : Int} (hk : (Lit.int .i64 k).wf = true) (v : Value) : ∃ w', (Instr.mapUpdate T (.map (some g)) (.int .i64 k) v).run Try.prog w = .ok () w' ∧ VMap w' g (if (f k).isSome = true then n else n + 1) (put f k v) ∧ w.mapTurned w' g := by
  obtain ⟨D, h1, hT, hS, hH, h2⟩ := h.out
  obtain ⟨w', hrun, ho, hg⟩ := h1.store law ht hn (keyOf_int_mk Try.underlying2 hk) (show RV v = some (.held v, []) from rfl)
  have hsz : Maps.size (D.put (.int .i64 k) (.held v)) = if (f k).isSome = true then n else n + 1 := by rw [size_put hT, hH k, hS]
  refine ⟨w', hrun, ⟨_, ?_, Tidy.put hT (by trivial) _, hsz, fun j => ?_, fun j z => ?_⟩, hg⟩
  · obtain ⟨es, clock, hb, F, hs, hD⟩ := ho
    refine ⟨es, clock, hb, F, ?_, hD⟩
    have e1 : Maps.size (D.put (.int .i64 k) (.held v)) = es.size := by rw [hD]; simp [Maps.size, length_sorted]
    rw [← e1, hsz]
    exact Nat.le_refl _
  · unfold put
    by_cases hj : j = k
    · subst hj
      rw [has_put_same hT.isMap (by trivial), if_pos rfl]; rfl
    · rw [has_put_other (by simpa using hj), hH j, if_neg hj]
  · unfold put
    by_cases hj : j = k
    · subst hj
      rw [atKey_put_same hT.isMap (by trivial), if_pos rfl]
    · rw [atKey_put_other (by simpa using hj), h2 j, if_neg hj]
theorem drop {w : World} {g n : Nat} {f : Int → Option Value} (h : VMap w g n f) (ht : Try.prog.underlying T = some (.map 2 E)) {k : Int} (hk : (Lit.int .i64 k).wf = true) (ty : TypeId) : ∃ w', (Builtin.delete_ #[T, 2] ty #[.map (some g), .int .i64 k]).run Try.prog w = .ok (.tuple #[]) w' ∧ VMap w' g (if (f k).isSome = true then n - 1 else n) (del f k) ∧ w.mapTurned w' g := by
  obtain ⟨D, h1, hT, hS, hH, h2⟩ := h.out
  obtain ⟨w', hrun, ho, hg⟩ := h1.drop law ht (keyOf_int_mk Try.underlying2 hk) ty
  have hsz : Maps.size (D.del (.int .i64 k)) = if (f k).isSome = true then n - 1 else n := by
    have := size_del hT (k := .int .i64 k)
    rw [hH k, hS] at this
    split
    · rename_i c; rw [if_pos c] at this; omega
    · rename_i c; rw [if_neg c] at this; omega
  refine ⟨w', hrun, ⟨_, ?_, Tidy.del hT _, hsz, fun j => ?_, fun j z => ?_⟩, hg⟩
  · obtain ⟨es, clock, hb, F, hs, hD⟩ := ho
    refine ⟨es, clock, hb, F, ?_, hD⟩
    have e1 : Maps.size (D.del (.int .i64 k)) = es.size := by rw [hD]; simp [Maps.size, length_sorted]
    rw [← e1, hsz]
    exact Nat.le_refl _
  · unfold del
    by_cases hj : j = k
    · subst hj
      rw [has_del_same, if_pos rfl]; rfl
    · rw [has_del_other (by simpa using hj), hH j, if_neg hj]
  · unfold del
    by_cases hj : j = k
    · subst hj
      rw [atKey_del_same, if_pos rfl]
    · rw [atKey_del_other (by simpa using hj), h2 j, if_neg hj]
variable {ops : Array Oper} {rest : List Oper} {o : Oper} {a : Act} {Q : Exit → Act → World → Prop}
theorem lookup_arm {w : World} (hg : o.guard = none) (m x : Operand) (hop : o.op = Op.lookup T m x false) {g n : Nat} {f : Int → Option Value} (h : VMap w g n f) (ht : Try.prog.underlying T = some (.map 2 E)) (hz : (zeroValue E).run Try.prog w = .ok z w) (k : Int) (hk : (Lit.int .i64 k).wf = true) (hm : a.eval m = .map (some g)) (hx : a.eval x = .int .i64 k)
    {r : Value} (hr : (f k).getD z = r) (hK : wpList Try.prog ops Q rest (a.put o.dst r) w) : wpList Try.prog ops Q (o :: rest) a w := by
  subst hr
  refine wpList_plain hg fun K' hK' => ?_
  have hrun := lookup h ht hz hk
  unfold Oper.wp
  simp [execOp, hop, hm, hx, hrun, Result.andThen]
  exact hK' _ _ hK
theorem look_arm {w : World} (hg : o.guard = none) (m x : Operand) (hop : o.op = Op.lookup T m x true) {g n : Nat} {f : Int → Option Value} (h : VMap w g n f) (ht : Try.prog.underlying T = some (.map 2 E)) (hz : (zeroValue E).run Try.prog w = .ok z w) (k : Int) (hk : (Lit.int .i64 k).wf = true) (hm : a.eval m = .map (some g)) (hx : a.eval x = .int .i64 k)
    {r : Value} {b : Bool} (hr : (f k).getD z = r) (hb : (f k).isSome = b) (hK : wpList Try.prog ops Q rest (a.put o.dst (.tuple #[r, .bool b])) w) : wpList Try.prog ops Q (o :: rest) a w := by
  subst hr hb
  refine wpList_plain hg fun K' hK' => ?_
  have hrun := lookup_ok h ht hz hk
  unfold Oper.wp
  simp [execOp, hop, hm, hx, hrun, Result.andThen]
  exact hK' _ _ hK
theorem update_arm {w : World} (hg : o.guard = none) (m x v : Operand) (hop : o.op = Op.mapUpdate T m x v ∨ o.op = Op.insert T m x v) {g n : Nat} {f : Int → Option Value} (h : VMap w g n f) (ht : Try.prog.underlying T = some (.map 2 E)) (hn : n < maxLen) (k : Int) (hk : (Lit.int .i64 k).wf = true) (u : Value) (hm : a.eval m = .map (some g)) (hx : a.eval x = .int .i64 k) (hv : a.eval v = u)
    (hK : ∀ w', VMap w' g (if (f k).isSome = true then n else n + 1) (put f k u) → w.mapTurned w' g → wpList Try.prog ops Q rest (a.put o.dst undef) w') : wpList Try.prog ops Q (o :: rest) a w := by
  refine wpList_plain hg fun K' hK' => ?_
  obtain ⟨w', hrun, r1, r2⟩ := update h ht hn hk u
  unfold Oper.wp
  rcases hop with hop | hop
  all_goals
    simp [execOp, hop, hm, hx, hv, hrun, Result.andThen]
    exact hK' _ _ (hK w' r1 r2)
theorem delete_arm {w : World} (hg : o.guard = none) (m x : Operand) (hop : o.op = Op.call { callee := Callee.builtin Builtin.delete, args := #[m, x], argTypes := #[T, 2] }) {g n : Nat} {f : Int → Option Value} (h : VMap w g n f) (ht : Try.prog.underlying T = some (.map 2 E)) (k : Int) (hk : (Lit.int .i64 k).wf = true) (hm : a.eval m = .map (some g)) (hx : a.eval x = .int .i64 k)
    (hK : ∀ w', VMap w' g (if (f k).isSome = true then n - 1 else n) (del f k) → w.mapTurned w' g → wpList Try.prog ops Q rest (a.put o.dst (.tuple #[])) w') : wpList Try.prog ops Q (o :: rest) a w := by
  refine wpList_plain hg fun K' hK' => ?_
  obtain ⟨w', hrun, r1, r2⟩ := drop h ht hk o.type
  unfold Oper.wp
  simp [execOp, hop, resolve, invoke, builtin, hm, hx, hrun, Result.andThen]
  exact hK' _ _ (hK w' r1 r2)
end
end Go.Proofs.Ytcieopcihbgfdaa.VM
