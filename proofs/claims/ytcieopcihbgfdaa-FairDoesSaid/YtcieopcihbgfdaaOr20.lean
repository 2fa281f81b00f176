/- Layer 20: queues beside a map of rows of strings. -/
import Derived.Test.YtcieopcihbgfdaaOrd20
namespace Go.Proofs.Ytcieopcihbgfdaa.Fq
open Go.RowKit Go.Proofs.YtcieopcihbgfdaaW.PrintWords Go.Proofs.YtcieopcihbgfdaaW.PrintLast Go.Proofs.YtcieopcihbgfdaaW.PrintMore Go.Proofs.Ytcieopcihbgfdaa.PFairDoes Go.Proofs.Ytcieopcihbgfdaa Go.Proofs.Ytcieopcihbgfdaa.Fair
set_option linter.unusedVariables false
def nil_ : Value := .slice none 0 0
structure OR (w0 wr : World) (mine : Nat → Prop) (g gm n : Nat) (f : Int → Option Value) (ow : Nat → Int) (s : FS) (ls : Int → List ByteArray) : Prop where
  bd : ∀ b, mine b → w0.heap.size ≤ b ∧ b < wr.heap.size
  fo : FO w0 wr wr (fun b => w0.heap.size ≤ b ∧ ¬ mine b) g s
  mg : mine gm
  mp : VM.VMap wr gm n f
  rows : ∀ k, Kd.string.Q 9 wr w0.heap.size (fun b => mine b ∧ ow b = k) ((f k).getD nil_) (ls k)
section
variable {w0 W w' : World} {mine : Nat → Prop} {g gm n : Nat} {f : Int → Option Value} {ow : Nat → Int} {s s' : FS} {ls : Int → List ByteArray}
theorem OR.bel (h : OR w0 W mine g gm n f ow s ls) : Below w0.heap.size w0 W := h.fo.bel
/-- A call of the queues' has been. -/
theorem OR.call (h : OR w0 W mine g gm n f ow s ls) (h1 : FO w0 W w' (fun b => w0.heap.size ≤ b ∧ ¬ mine b) g s') : OR w0 w' mine g gm n f ow s' ls ∧ ∀ b, mine b → w'.heap[b]? = W.heap[b]? := by
  have hs := h.bel.size
  have hk := h1.keep
  have key : ∀ b, mine b → w'.heap[b]? = W.heap[b]? := fun b hb => hk.2 b (h.bd b hb).2 (fun e => e.2 hb)
  refine ⟨⟨fun b hb => ⟨(h.bd b hb).1, Nat.lt_of_lt_of_le (h.bd b hb).2 hk.1⟩, FO.again2 h1 (fun k hk _ => hk) (fun k hk _ => ⟨by omega, fun hm => by have := (h.bd k hm).2; omega⟩), h.mg, h.mp.same (key gm h.mg), fun k => Kd.Q_move (h.rows k) (fun b hb => key b hb.1)⟩, key⟩
theorem OR.below (h : OR w0 W mine g gm n f ow s ls) (hb : Below W.heap.size W w') : OR w0 w' mine g gm n f ow s ls := (h.call (FO.below h.fo hb)).1
/-- A block of the law's own is laid. -/
theorem OR.alloc (h : OR w0 W mine g gm n f ow s ls) (o : Obj) : OR w0 (W.alloc o) (fun b => mine b ∨ b = W.heap.size) g gm n f ow s ls := by
  have hs := h.bel.size
  have hb : Below W.heap.size W (W.alloc o) := below_alloc (Below.refl _ _) _
  have hsz : (W.alloc o).heap.size = W.heap.size + 1 := by simp
  have h1 : FO w0 W W (fun b => w0.heap.size ≤ b ∧ ¬ (mine b ∨ b = W.heap.size)) g s := FO.again2 h.fo (fun k hk hlt => ⟨hk.1, fun e => e.elim hk.2 (fun e => by omega)⟩) (fun k hk hlt => by omega)
  refine ⟨fun b hm => ?_, FO.other h1 (below_step h.bel hb) (fun k _ hlt => hb.block k hlt), .inl h.mg, h.mp.same (hb.block gm h.mp.lt), fun k => Kd.Q_mono (Kd.Q_below (h.rows k) hb) (fun b hb => ⟨.inl hb.1, hb.2⟩)⟩
  rcases hm with hm | hm
  · have := h.bd b hm; omega
  · omega
/-- A row is turned, and stored. -/
theorem OR.turn (h : OR w0 W mine g gm n f ow s ls) {w1 w2 : World} {k : Int} {v1 : Value} {l1 : List ByteArray} {n2 : Nat} (hb : Below w0.heap.size w0 w1) (hg : W.grownBy w1 ((f k).getD nil_).ownBlock) (hQ : Kd.string.Q 9 w1 w0.heap.size (fun b => (mine b ∨ W.heap.size ≤ b) ∧ (if W.heap.size ≤ b then k else ow b) = k) v1 l1)
    (hM : VM.VMap w2 gm n2 (VM.put f k v1)) (ht : w1.mapTurned w2 gm) :
    OR w0 w2 (fun b => mine b ∨ (W.heap.size ≤ b ∧ b < w1.heap.size)) g gm n2 (VM.put f k v1) (fun b => if W.heap.size ≤ b then k else ow b) s (upd ls k l1) := by
  have hs := h.bel.size
  have hgm := h.mp.lt
  have hs1 := hg.size
  have hgr := ht.grown
  have hs2 := hgr.size
  have own : ∀ b, ((f k).getD nil_).ownBlock = some b → mine b ∧ ow b = k := fun b hb => (h.rows k).1 b hb
  have e1 : ∀ b, b < W.heap.size → ¬ (mine b ∧ ow b = k) → w1.heap[b]? = W.heap[b]? := fun b hlt hn => hg.block b hlt (fun e => hn (own b e.symm))
  have e2 : ∀ b, b < w1.heap.size → b ≠ gm → w2.heap[b]? = w1.heap[b]? := fun b hlt hn => hgr.block b hlt (fun e => hn (by injection e))
  have hb2 : Below w0.heap.size w0 w2 := hb.grown hgr hb.size (fun b e => by injection e with e; rw [← e]; exact (h.bd gm h.mg).1)
  have h1 : FO w0 W W (fun b => (w0.heap.size ≤ b ∧ ¬ mine b) ∧ b < W.heap.size) g s := FO.again2 h.fo (fun b hb hlt => ⟨hb, hlt⟩) (fun b hb hlt => by omega)
  have h2 : FO w0 w2 w2 (fun b => (w0.heap.size ≤ b ∧ ¬ mine b) ∧ b < W.heap.size) g s := FO.other h1 hb2 (fun b hb hlt => (e2 b (Nat.lt_of_lt_of_le hlt hs1) (fun e => hb.1.2 (by rw [e]; exact h.mg))).trans (e1 b hlt (fun e => hb.1.2 e.1)))
  refine ⟨fun b hm => ?_, FO.again2 h2 (fun b hb hlt => ⟨hb.1.1, fun e => e.elim hb.1.2 (fun e => by omega)⟩) (fun b hb hlt => by omega), .inl h.mg, hM, fun j => ?_⟩
  · rcases hm with hm | hm
    · have := h.bd b hm
      omega
    · omega
  · by_cases hj : j = k
    · subst hj
      have ev : (VM.put f j v1 j).getD nil_ = v1 := by unfold VM.put; rw [if_pos rfl]; rfl
      rw [ev, upd_same]
      refine Kd.Q_mono (Kd.Q_step (Kd.Q_bound hQ) (fun b hb hlt => e2 b hlt (fun e => ?_))) (fun b hb => ⟨hb.1.1.imp id (fun h => ⟨h, hb.2.2.1⟩), hb.1.2⟩)
      obtain ⟨_, _, _, q, hq, c, hc⟩ := hb
      rw [e, hg.block gm hgm (fun e => by obtain ⟨c, hc⟩ := Kd.Q_typed (h.rows j) gm e.symm; exact h.mp.ne hc rfl)] at hc
      exact h.mp.ne hc rfl
    · have ev : (VM.put f k v1 j).getD nil_ = (f j).getD nil_ := by unfold VM.put; rw [if_neg hj]
      rw [ev, upd_other _ _ hj]
      have hlt1 : ∀ b, ((mine b ∧ ow b = j) ∧ w0.heap.size ≤ b ∧ b < W.heap.size ∧ ∃ q, q ∈ 9 :: Kd.string.E ∧ ∃ cells, W.heap[b]? = some (.cells cells q (0, 0))) → w2.heap[b]? = W.heap[b]? := fun b hb => by
        obtain ⟨⟨hm, ho⟩, _, hlt, q, hq, c, hc⟩ := hb
        exact (e2 b (Nat.lt_of_lt_of_le hlt hs1) (fun e => h.mp.ne hc e.symm)).trans (e1 b hlt (fun e => hj (ho.symm.trans e.2)))
      refine Kd.Q_mono (Kd.Q_move (Kd.Q_bound (h.rows j)) hlt1) (fun b hb => ⟨.inl hb.1.1, ?_⟩)
      have := (h.bd b hb.1.1).2
      show (if W.heap.size ≤ b then k else ow b) = j
      rw [if_neg (by omega)]
      exact hb.1.2
end
theorem OR.ls {w0 W : World} {mine : Nat → Prop} {g gm n : Nat} {f : Int → Option Value} {ow : Nat → Int} {s : FS} {ls ls' : Int → List ByteArray} (h : OR w0 W mine g gm n f ow s ls) (e : ∀ k, ls' k = ls k) : OR w0 W mine g gm n f ow s ls' := by
  have : ls' = ls := funext e
  rw [this]; exact h
end Go.Proofs.Ytcieopcihbgfdaa.Fq
