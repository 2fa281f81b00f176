/- Layer 20: a range over a map of values. -/
import Derived.Test.YtcieopcihbgfdaaVMap
namespace Go.Proofs.Ytcieopcihbgfdaa.VM
open Go.RowKit Go.Maps Go.MapKept
set_option linter.unusedVariables false
structure VRange (w : World) (b r n : Nat) (f : Int → Option Value) (left : Int → Bool) (cnt : Nat) : Prop where
  out : ∃ (D : DataW Value) (L : Lit → Bool), w.ranges Try.prog 2 RV b r n D L cnt ∧ (∀ k, L (.int .i64 k) = left k) ∧ ∀ k z, D.atKey (.int .i64 k) z = match f k with | some v => .held v | none => z
theorem same_int (j k : Int) : (Lit.int .i64 j).sameKey (.int .i64 k) = decide (j = k) := by
  by_cases h : j = k
  · subst h; simp [Lit.sameKey]
  · rw [decide_eq_false h]; simp [Lit.sameKey, h]
section
variable {T E : TypeId} {ops : Array Oper} {rest : List Oper} {o : Oper} {a : Act} {Q : Exit → Act → World → Prop}
theorem range_arm {w : World} (hg : o.guard = none) (m : Operand) (hop : o.op = Op.range T m) {g n : Nat} {f : Int → Option Value} (h : VMap w g n f) (ht : Try.prog.underlying T = some (.map 2 E)) (hm : a.eval m = .map (some g))
    (hK : ∀ w' cnt, VRange w' g w.heap.size n f (fun k => (f k).isSome) cnt → w.grownBy w' none → w'.heap.size = w.heap.size + 1 → wpList Try.prog ops Q rest (a.put o.dst (.pointer (some ⟨w.heap.size, 0, none⟩))) w') : wpList Try.prog ops Q (o :: rest) a w := by
  obtain ⟨D, h1, hT, hS, hH, h2⟩ := h.out
  exact wpList_range_own w hg m T hop 2 E law ht RV g n D hm h1 (fun w' hr hgr hsz => hK w' _ ⟨D, _, hr, hH, h2⟩ hgr hsz)
theorem next_arm {w : World} (hg : o.guard = none) (it : Operand) (hop : o.op = Op.next it false) {b r n cnt : Nat} {f : Int → Option Value} {left : Int → Bool} (h : VRange w b r n f left cnt) (hit : a.eval it = .pointer (some ⟨r, 0, none⟩))
    (hDone : (∀ k, left k = false) → wpList Try.prog ops Q rest (a.put o.dst (.tuple #[.bool false])) w)
    (hMore : ∀ (k : Int) (v : Value) (w' : World) (cnt' : Nat), (Lit.int .i64 k).wf = true → left k = true → f k = some v → VRange w' b r n f (fun j => left j && !decide (j = k)) cnt' → cnt' < cnt → w.grownBy w' (some r) → w'.heap.size = w.heap.size → (Instr.entry (.pointer (some ⟨r, 0, none⟩))).run Try.prog w' = .ok (.tuple #[.int .i64 k, v]) w' → wpList Try.prog ops Q rest (a.put o.dst (.tuple #[.bool true, .int .i64 k, v])) w') :
    wpList Try.prog ops Q (o :: rest) a w := by
  obtain ⟨D, L, h1, h2, h3⟩ := h.out
  refine wpList_next_ranges w hg it hop 2 law RV (Value.int .i64) (fun v => v) (fun key kl hk => by obtain ⟨x, rfl, _⟩ := keyOf_int_inv Try.underlying2 hk; exact ⟨x, rfl⟩) (fun v y hv => ⟨v, rfl⟩) b r n D L cnt hit h1 (fun _ hl => hDone (fun k => by rw [← h2 k]; exact hl _)) ?_
  intro k v kl y w' cnt' hkey hlk hv hat hr hlt hgr hsz hen
  obtain ⟨k', e1, rfl, hwf⟩ := keyOf_int_inv Try.underlying2 hkey
  cases e1
  unfold RV at hv
  injection hv with hv
  subst hv
  have hf : f k = some v := by
    have e2 := (h3 k (.map [])).symm.trans (hat (.map []))
    dsimp only at e2
    cases hfk : f k with
    | none => rw [hfk] at e2; cases e2
    | some u => rw [hfk] at e2; injection e2 with e2; rw [e2]
  exact hMore k v w' cnt' hwf (by rw [← h2 k]; exact hlk) hf ⟨D, _, hr, fun j => by rw [h2 j, same_int], h3⟩ hlt hgr hsz hen
end
theorem VRange.left_eq {w : World} {b r n cnt : Nat} {f : Int → Option Value} {left : Int → Bool} (h : VRange w b r n f left cnt) : w.rangeLeft b r = cnt := by
  obtain ⟨D, L, h1, _⟩ := h.out
  exact h1.left_eq
end Go.Proofs.Ytcieopcihbgfdaa.VM
