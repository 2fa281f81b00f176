/- Layer 20: queues beside other blocks. -/
import Derived.Test.YtcieopcihbgfdaaAls20
namespace Go.Proofs.Ytcieopcihbgfdaa.Fq
open Go.RowKit Go.Proofs.YtcieopcihbgfdaaW.PrintWords Go.Proofs.YtcieopcihbgfdaaW.PrintLast Go.Proofs.YtcieopcihbgfdaaW.PrintMore Go.Proofs.Ytcieopcihbgfdaa.PFairDoes Go.Proofs.Ytcieopcihbgfdaa Go.Proofs.Ytcieopcihbgfdaa.Fair
set_option linter.unusedVariables false
theorem FO.again2 {w0 W w : World} {ok0 ok1 : Nat → Prop} {g : Nat} {s : FS} (h : FO w0 W w ok0 g s) (hok : ∀ k, ok0 k → k < w.heap.size → ok1 k) (hok2 : ∀ k, W.heap.size ≤ k → k < w.heap.size → ok1 k) : FO w0 w w ok1 g s := by
  obtain ⟨m, vr, qb, ow, h⟩ := h
  have key : ∀ k, (ok0 k ∨ W.heap.size ≤ k) → k < w.heap.size → ok1 k ∨ w.heap.size ≤ k := fun k hk hlt => by
    rcases hk with hk | hk
    · exact .inl (hok k hk hlt)
    · exact .inl (hok2 k hk hlt)
  refine ⟨m, vr, qb, ow, h.bel, Kept.refl _ _, h.blk, key g h.okg (blk_lt h.blk), key m h.okm h.mp.lt, h.geg, h.gem, h.mp, Kd.Q_mono (Kd.Q_bound h.row) (fun k hk => key k hk.1 hk.2.2.1), fun x hx => ?_⟩
  have hX := h.qs x hx
  obtain ⟨v, hb, hq⟩ := hX.blk
  exact ⟨key _ hX.okb hX.lt, hX.own, hX.ge, v, hb, Kd.Q_mono (Kd.Q_bound hq) (fun k hk => ⟨key k hk.1.1 hk.2.2.1, hk.1.2⟩)⟩
/-- Other blocks have turned. -/
theorem FO.other {w0 W W1 : World} {ok : Nat → Prop} {g : Nat} {s : FS} (h : FO w0 W W ok g s) (hb : Below w0.heap.size w0 W1) (hm : ∀ k, ok k → k < W.heap.size → W1.heap[k]? = W.heap[k]?) : FO w0 W1 W1 ok g s := by
  obtain ⟨m, vr, qb, ow, h⟩ := h
  have lt : ∀ {k}, (ok k ∨ W.heap.size ≤ k) → k < W.heap.size → ok k := fun hk hlt => by
    rcases hk with hk | hk
    · exact hk
    · omega
  refine ⟨m, vr, qb, ow, hb, Kept.refl _ _, (hm g (lt h.okg (blk_lt h.blk)) (blk_lt h.blk)).trans h.blk, .inl (lt h.okg (blk_lt h.blk)), .inl (lt h.okm h.mp.lt), h.geg, h.gem, h.mp.same (hm m (lt h.okm h.mp.lt) h.mp.lt), ?_, fun x hx => ?_⟩
  · exact Kd.Q_mono (Kd.Q_move (Kd.Q_mono (Kd.Q_bound h.row) (ok' := fun k => ok k ∧ k < W.heap.size) (fun k hk => ⟨lt hk.1 hk.2.2.1, hk.2.2.1⟩)) (fun k hk => hm k hk.1 hk.2)) (fun k hk => .inl hk.1)
  · have hX := h.qs x hx
    obtain ⟨v, hb', hq⟩ := hX.blk
    exact ⟨.inl (lt hX.okb hX.lt), hX.own, hX.ge, v, (hm _ (lt hX.okb hX.lt) hX.lt).trans hb', Kd.Q_mono (Kd.Q_move (Kd.Q_mono (Kd.Q_bound hq) (ok' := fun k => (ok k ∧ ow k = x.id) ∧ k < W.heap.size) (fun k hk => ⟨⟨lt hk.1.1 hk.2.2.1, hk.1.2⟩, hk.2.2.1⟩)) (fun k hk => hm k hk.1.1 hk.2)) (fun k hk => ⟨.inl hk.1.1, hk.1.2⟩)⟩
end Go.Proofs.Ytcieopcihbgfdaa.Fq
