/- Layer 20: rows that are laid. gen/mk_r20.py writes this text. -/
import Derived.Test.YtcieopcihbgfdaaRq20
import Derived.Test.YtcieopcihbgfdaaCalmT
namespace Go.Proofs.Ytcieopcihbgfdaa.Rf
open Go.RowKit Go.Proofs.YtcieopcihbgfdaaW.PrintWords Go.Proofs.YtcieopcihbgfdaaW.PrintLast Go.Proofs.YtcieopcihbgfdaaW.PrintMore Go.Proofs.Ytcieopcihbgfdaa.PFairDoes Go.Proofs.Ytcieopcihbgfdaa Go.Proofs.Ytcieopcihbgfdaa.Fair Go.Proofs.Ytcieopcihbgfdaa.Fq
set_option linter.unusedVariables false
set_option linter.unusedSimpArgs false
theorem lit_empty {α : Type} (d : Kd α) (W : World) (e : Nat) (ok : Nat → Prop) (hok : ok W.heap.size) : d.R e (W.alloc (.cells #[] e)) W.heap.size ok (.slice (some ⟨W.heap.size, 0, none⟩) 0 0) [] :=
  ⟨fun k hk => by injection hk with hk; rw [← hk]; exact hok, [], ⟨by simp, .inr ⟨W.heap.size, 0, #[], rfl, Nat.le_refl _, by simpa using heap_alloc_new W _, Nat.le_refl _, by unfold maxLen; omega, by simp, by simp⟩⟩, Reps.none _ _⟩
theorem lit_one {α : Type} (d : Kd α) {W : World} {bl e : Nat} {p : α} {cs : List Value} {base : Nat} {okp : Nat → Prop} (hb : W.heap[bl]? = some (.cells cs.toArray e (0, 0))) (hp : d.M W base okp p cs) : ReadsRow (d.M W base okp) d.sz W (some ⟨bl, 0, none⟩) 1 [p] := by
  refine ⟨rfl, by omega, fun _ => ⟨_, rfl, fun j q hj => ?_⟩⟩
  cases j with
  | zero =>
    have hq : p = q := by simpa using hj
    subst hq
    refine ⟨cs, d.K_len (d.K_of_M hp), hp, fun i u hu => ?_⟩
    rw [add_at, Nat.zero_mul, Nat.zero_add, Nat.zero_add, cell_of_row W bl _ cs.toArray e (0, 0) hb]
    simpa using hu
  | succ j => simp at hj
/-- A fresh row, beneath a wider claim. -/
theorem q_fresh {α : Type} {d : Kd α} {e base base' : Nat} {w : World} {v : Value} {xs : List α} {ok ok' : Nat → Prop} (h : d.R e w base ok v xs) (hb : base' ≤ base) (hok : ∀ k, ok k → base ≤ k → ok' k) (hok2 : ∀ k, ok k → ok' k) : d.Q e w base' ok' v xs := Kd.Q_lower (Kd.Q_mono (Kd.Q_of_R h) hok2) hb
theorem lit_str (W : World) (t : ByteArray) : Kd.string.R 9 (W.alloc (.cells #[.string t] 9)) W.heap.size (fun k => k = W.heap.size) (.slice (some ⟨W.heap.size, 0, none⟩) 1 1) [t] :=
  ⟨fun k hk => by injection hk with hk; exact hk.symm, [.string t], ⟨rfl, .inr ⟨W.heap.size, 1, #[.string t], rfl, Nat.le_refl _, by simpa using heap_alloc_new W _, Nat.le_refl _, by unfold maxLen; omega, rfl, rfl⟩⟩, Kd.reps_scalar [t]⟩
theorem infoQ : (Try.prog.info? 60).map (fun i => (i.zero, i.size, i.bytes)) = some (some (.agg #[.int .i64 0, .slice none 0 0, .int .i64 0]), 3, 40) := by kernel_rfl
/-- Where the packets of an element lie, another row is stored. -/
theorem RH.setf {w0 W w : World} {ok : Nat → Prop} {g : Nat} {lim qu : Int} {b o n c : Nat} {sv : Bool} {st : List Qu} (h : RH w0 W w ok g lim qu (.slice (some ⟨b, o, none⟩) n c) sv st) (i : Nat) (hi : i < st.length) {v2 : Value} {l2 : List ByteArray} (hQ : Kd.string.Q 9 w w0.heap.size (fun k => ok k ∨ W.heap.size ≤ k) v2 l2) :
    RH w0 W (w.setCell ⟨b, o + i * 3 + 1, none⟩ v2) ok g lim qu (.slice (some ⟨b, o, none⟩) n c) sv (st.set i ⟨st[i].id, l2, st[i].d⟩) := by
  have hf := Q_field (d := rq) h.row i hi 1 (by decide) v2 ⟨st[i].id, l2, st[i].d⟩ (fun cs hM => by
    obtain ⟨vl, rfl, _⟩ := hM
    refine ⟨v2, rfl, ?_⟩
    have hty := Kd.Q_typed h.row b rfl
    obtain ⟨cb, hcb⟩ := hty
    exact Kd.Q_types hQ hcb (fun q hq => by
      rcases List.mem_cons.1 hq with rfl | hq
      · decide
      · cases hq))
  obtain ⟨cb, hcb⟩ := Kd.Q_typed h.row b rfl
  have hge : w0.heap.size ≤ b := Kd.Q_base h.row b rfl
  have hok : ok b ∨ W.heap.size ≤ b := h.row.1 b rfl
  exact ⟨below_set h.bel hge, kept_one h.keep (Nat.le_of_eq (by simp)) hok (fun k _ hk => Below.heap_setCell w _ _ k hk), (Below.heap_setCell w _ _ g (fun e => ty_ne hcb h.blk (by decide) e.symm)).trans h.blk, h.geg, h.okg, hf⟩
/-- An element was laid behind the row, and the row is stored. -/
theorem RH.app {w0 W w w1 : World} {ok : Nat → Prop} {g : Nat} {lim qu : Int} {v v1 : Value} {sv : Bool} {st st1 : List Qu} (h : RH w0 W w ok g lim qu v sv st) (hb : Below w0.heap.size w0 w1) (hg : w.grownBy w1 v.ownBlock) (hQ : rq.Q 60 w1 w0.heap.size (fun k => ok k ∨ W.heap.size ≤ k) v1 st1) : RH w0 W (w1.setCell ⟨g, 2, none⟩ v1) ok g lim qu v1 sv st1 := by
  have e1 : w1.heap[g]? = w.heap[g]? := hg.block g (blk_lt h.blk) (rq_type h.row h.blk (by decide))
  have hk1 : Kept W w1 ok := by
    refine ⟨Nat.le_trans h.keep.1 hg.size, fun i hi hn => (hg.block i (Nat.lt_of_lt_of_le hi h.keep.1) (fun e => ?_)).trans (h.keep.2 i hi hn)⟩
    rcases h.row.1 i e.symm with h1 | h1
    · exact hn h1
    · omega
  exact ⟨below_set hb h.geg, kept_one hk1 (Nat.le_of_eq (by simp)) h.okg (fun k _ hk => Below.heap_setCell w1 _ _ k hk), blk_set (e1.trans h.blk) 2 _, h.geg, h.okg, rq_set hQ (e1.trans h.blk) (by decide) (by decide) 2 _⟩
end Go.Proofs.Ytcieopcihbgfdaa.Rf
