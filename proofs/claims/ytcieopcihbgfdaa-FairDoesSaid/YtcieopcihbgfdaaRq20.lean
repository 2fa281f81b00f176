/- Layer 20: the reference's queues in memory. -/
import Derived.Test.YtcieopcihbgfdaaOr20
namespace Go.Proofs.Ytcieopcihbgfdaa.Rf
open Go.RowKit Go.Proofs.YtcieopcihbgfdaaW.PrintWords Go.Proofs.YtcieopcihbgfdaaW.PrintLast Go.Proofs.YtcieopcihbgfdaaW.PrintMore Go.Proofs.Ytcieopcihbgfdaa.PFairDoes Go.Proofs.Ytcieopcihbgfdaa Go.Proofs.Ytcieopcihbgfdaa.Fair Go.Proofs.Ytcieopcihbgfdaa.Fq
set_option linter.unusedVariables false
/-- An element of the round, its packets in a row that is read. -/
def rq : Kd Qu where
  sz := 3
  E := [9]
  K := fun w x cs => ∃ A c, cs = [.int .i64 x.id, .slice A x.l.length c, .int .i64 x.d] ∧ x.l.length ≤ c ∧ Kd.string.C w A x.l.length x.l
  M := fun w base ok x cs => ∃ v, cs = [.int .i64 x.id, v, .int .i64 x.d] ∧ Kd.string.Q 9 w base ok v x.l
  K_len := fun ⟨_, _, h, _⟩ => by rw [h]; rfl
  K_one := fun ⟨A, c, h, _⟩ u hu => by
    rw [h] at hu
    rcases List.mem_cons.1 hu with rfl | hu
    · rfl
    · rcases List.mem_cons.1 hu with rfl | hu
      · rfl
      · rw [List.mem_singleton.1 hu]; rfl
  K_below := fun hb ⟨A, c, h, hl, hC⟩ => ⟨A, c, h, hl, Kd.C_below hC hb⟩
  K_of_M := fun ⟨v, h, hQ⟩ => by
    obtain ⟨A, c, rfl, hl, hC⟩ := Kd.Q_reads hQ
    exact ⟨A, c, h, hl, hC⟩
  M_mono := fun hok ⟨v, h, hQ⟩ => ⟨v, h, Kd.Q_mono hQ hok⟩
  M_bound := fun ⟨v, h, hQ⟩ => ⟨v, h, Kd.Q_mono (Kd.Q_bound hQ) (fun k hk => hk)⟩
  M_move := fun hm ⟨v, h, hQ⟩ => ⟨v, h, Kd.Q_move hQ hm⟩
  M_lower := fun hb ⟨v, h, hQ⟩ => ⟨v, h, Kd.Q_lower hQ hb⟩
/-- A cell of an element of a row that may begin inside its block is stored. -/
theorem Q_field {α : Type} {d : Kd α} {e base g o n cap : Nat} {ok : Nat → Prop} {W : World} {xs : List α} (h : d.Q e W base ok (.slice (some ⟨g, o, none⟩) n cap) xs) (i : Nat) (hi : i < xs.length) (j : Nat) (hj : j < d.sz) (u : Value) (x : α)
    (hx : ∀ (cs : List Value), d.M W base (fun k => ok k ∧ k ≠ g) xs[i] cs → d.M W base (fun k => ok k ∧ k ≠ g) x (cs.set j u)) :
    d.Q e (W.setCell ⟨g, o + i * d.sz + j, none⟩ u) base ok (.slice (some ⟨g, o, none⟩) n cap) (xs.set i x) := by
  obtain ⟨rfl, _⟩ := Kd.Q_reads' h
  obtain ⟨h0, inner, ⟨hlen0, hown⟩, hlen, hrep⟩ := h
  have hm : i * d.sz + d.sz ≤ xs.length * d.sz := by rw [← Nat.succ_mul]; exact Nat.mul_le_mul_right _ hi
  have hown2 : ∀ k, some k ≠ (Value.slice (some ⟨g, o, none⟩) xs.length cap).ownBlock ↔ k ≠ g := fun k => ⟨fun h e => h (by rw [e]; rfl), fun h e => h (by injection e)⟩
  have hmov : ∀ (y : α) (cs : List Value), d.M W base (fun k => ok k ∧ k ≠ g) y cs → d.M (W.setCell ⟨g, o + i * d.sz + j, none⟩ u) base (fun k => ok k ∧ some k ≠ (Value.slice (some ⟨g, o, none⟩) xs.length cap).ownBlock) y cs := fun y cs hM =>
    d.M_mono (fun k hk => ⟨hk.1, (hown2 k).2 hk.2⟩) (d.M_move (fun k hk => Below.heap_setCell W _ _ k hk.2) hM)
  have hrep2 : ∀ k p, xs[k]? = some p → d.M W base (fun k => ok k ∧ k ≠ g) p ((inner.drop (k * d.sz)).take d.sz) := fun k p hp => d.M_mono (fun k hk => ⟨hk.1, (hown2 k).1 hk.2⟩) (hrep k p hp)
  refine ⟨h0, inner.set (i * d.sz + j) u, ⟨by rw [List.length_set, List.length_set]; exact hlen0, ?_⟩, by rw [List.length_set, List.length_set]; exact hlen, fun k p hp => ?_⟩
  · rcases hown with ⟨hz, _⟩ | ⟨g', off, cap', cur, he, hg, hh, hnc, hmx, hcs, ht⟩
    · omega
    · have he2 := he
      injection he2 with ha _ hc
      injection ha with ha
      injection ha with hg1 ho _
      subst hg1; subst hc; subst ho
      rw [List.length_set]
      refine .inr ⟨g, off, cap, _, rfl, hg, blk_set hh _ u, hnc, hmx, by rw [Array.size_setIfInBounds]; exact hcs, ?_⟩
      rw [Array.toList_setIfInBounds, ← ht, List.drop_set, if_neg (by omega), List.take_set]
      congr 1
      omega
  · by_cases hk : k = i
    · subst hk
      have hpx : p = x := by
        rw [List.getElem?_set_self hi] at hp
        exact (Option.some.inj hp).symm
      subst hpx
      have e1 : ((inner.set (k * d.sz + j) u).drop (k * d.sz)).take d.sz = ((inner.drop (k * d.sz)).take d.sz).set j u := by
        rw [List.drop_set, if_neg (by omega), List.take_set, show k * d.sz + j - k * d.sz = j by omega]
      rw [e1]
      exact hmov _ _ (hx _ (hrep2 k _ (List.getElem?_eq_getElem hi)))
    · rw [List.getElem?_set_ne (Ne.symm hk)] at hp
      have e1 : ((inner.set (i * d.sz + j) u).drop (k * d.sz)).take d.sz = (inner.drop (k * d.sz)).take d.sz := by
        rw [List.drop_set]
        rcases Nat.lt_or_ge i k with hlt | hge
        · have h1 : i * d.sz + d.sz ≤ k * d.sz := by rw [← Nat.succ_mul]; exact Nat.mul_le_mul_right _ hlt
          rw [if_pos (by omega)]
        · have hlt : k < i := by omega
          have h1 : k * d.sz + d.sz ≤ i * d.sz := by rw [← Nat.succ_mul]; exact Nat.mul_le_mul_right _ hlt
          rw [if_neg (by omega), List.take_set, List.set_eq_of_length_le]
          rw [List.length_take]
          omega
      rw [e1]
      exact hmov _ _ (hrep2 k _ hp)
/-- A row's elements, as they lie. -/
theorem Q_readsM {α : Type} {d : Kd α} {e base n c : Nat} {ok : Nat → Prop} {w : World} {A : Option Addr} {xs : List α} (h : d.Q e w base ok (.slice A n c) xs) : ReadsRow (d.M w base (fun k => ok k ∧ some k ≠ (Value.slice A n c).ownBlock)) d.sz w A n xs := by
  obtain ⟨_, inner, ho, hr⟩ := h
  obtain ⟨A', c', he, hl⟩ := q_slice ho
  injection he with h1 h2 h3
  subst h1; subst h2; subst h3
  refine ⟨rfl, q_max ho, fun hp => ?_⟩
  obtain ⟨ad, ha, hc⟩ := q_cells ho hp
  refine ⟨ad, ha, fun j p hj => ⟨(inner.drop (j * d.sz)).take d.sz, ?_, hr.2 j p hj, fun i u hu => ?_⟩⟩
  · have hjl := (List.getElem?_eq_some_iff.1 hj).1
    have h1 : j * d.sz + d.sz ≤ inner.length := by rw [hr.1, ← Nat.succ_mul]; exact Nat.mul_le_mul_right _ hjl
    rw [List.length_take, List.length_drop]
    omega
  · refine hc _ u ?_
    rw [List.getElem?_take] at hu
    split at hu
    · rw [List.getElem?_drop] at hu
      exact hu
    · cases hu
/-- The whole. -/
structure RH (w0 W w : World) (ok : Nat → Prop) (g : Nat) (lim qu : Int) (v : Value) (sv : Bool) (st : List Qu) : Prop where
  bel : Below w0.heap.size w0 w
  keep : Kept W w ok
  blk : w.heap[g]? = some (.cells #[.int .i64 lim, .int .i64 qu, v, .bool sv] 58 (0, 0))
  geg : w0.heap.size ≤ g
  okg : ok g ∨ W.heap.size ≤ g
  row : rq.Q 60 w w0.heap.size (fun k => ok k ∨ W.heap.size ≤ k) v st
def RO (w0 W w : World) (ok : Nat → Prop) (g : Nat) (s : FS) : Prop := ∃ v, RH w0 W w ok g s.lim s.qu v s.sv s.st
theorem rq_type {w : World} {ok : Nat → Prop} {B : Nat} {v : Value} {st : List Qu} (h : rq.Q 60 w B ok v st) {k t : Nat} {c : Array Value} (hb : w.heap[k]? = some (.cells c t (0, 0))) (ht : t ≠ 60) : some k ≠ v.ownBlock := fun e => by
  obtain ⟨cc, hc⟩ := Kd.Q_typed h k e.symm
  exact ty_ne hc hb (fun e => ht e.symm) rfl
section
variable {w0 W w w1 : World} {ok : Nat → Prop} {g : Nat} {lim qu : Int} {v : Value} {sv : Bool} {st : List Qu}
theorem RH.below (h : RH w0 W w ok g lim qu v sv st) (hb : Below w.heap.size w w1) : RH w0 W w1 ok g lim qu v sv st :=
  ⟨below_step h.bel hb, ⟨Nat.le_trans h.keep.1 hb.size, fun i hi hn => (hb.block i (Nat.lt_of_lt_of_le hi h.keep.1)).trans (h.keep.2 i hi hn)⟩, blk_below h.blk hb, h.geg, h.okg, Kd.Q_below h.row hb⟩
theorem RH.cells (h : RH w0 W w ok g lim qu v sv st) : w.cell? ⟨g, 0, none⟩ = some (.int .i64 lim) ∧ w.cell? ⟨g, 1, none⟩ = some (.int .i64 qu) ∧ w.cell? ⟨g, 2, none⟩ = some v ∧ w.cell? ⟨g, 3, none⟩ = some (.bool sv) ∧ w.frozen? ⟨g, 2, none⟩ = false ∧ w.frozen? ⟨g, 3, none⟩ = false :=
  ⟨(blk_cell h.blk 0).trans rfl, (blk_cell h.blk 1).trans rfl, (blk_cell h.blk 2).trans rfl, (blk_cell h.blk 3).trans rfl, blk_frozen h.blk 2, blk_frozen h.blk 3⟩
theorem rq_set {B : Nat} (h : rq.Q 60 w B ok v st) {k t : Nat} {c : Array Value} (hb : w.heap[k]? = some (.cells c t (0, 0))) (ht : t ≠ 60) (ht2 : t ≠ 9) (j : Nat) (u : Value) : rq.Q 60 (w.setCell ⟨k, j, none⟩ u) B ok v st :=
  Kd.Q_set h hb (fun q hq e => by
    rcases List.mem_cons.1 hq with rfl | hq
    · exact ht e.symm
    · rw [List.mem_singleton.1 hq] at e; exact ht2 e.symm) j u
theorem RH.setsv (h : RH w0 W w ok g lim qu v sv st) (b : Bool) : RH w0 W (w.setCell ⟨g, 3, none⟩ (.bool b)) ok g lim qu v b st :=
  ⟨below_set h.bel h.geg, kept_one h.keep (Nat.le_of_eq (by simp)) h.okg (fun k _ hk => Below.heap_setCell w _ _ k hk), blk_set h.blk 3 _, h.geg, h.okg, rq_set h.row h.blk (by decide) (by decide) 3 _⟩
/-- Another row is stored. -/
theorem RH.setrow (h : RH w0 W w ok g lim qu v sv st) {v1 : Value} {st1 : List Qu} (hQ : rq.Q 60 w w0.heap.size (fun k => ok k ∨ W.heap.size ≤ k) v1 st1) : RH w0 W (w.setCell ⟨g, 2, none⟩ v1) ok g lim qu v1 sv st1 :=
  ⟨below_set h.bel h.geg, kept_one h.keep (Nat.le_of_eq (by simp)) h.okg (fun k _ hk => Below.heap_setCell w _ _ k hk), blk_set h.blk 2 _, h.geg, h.okg, rq_set hQ h.blk (by decide) (by decide) 2 _⟩
/-- Blocks that are not read have turned, or new ones were laid (an append to a row of one's own). -/
theorem RH.grown (h : RH w0 W w ok g lim qu v sv st) (hb : Below w0.heap.size w0 w1) (hg : w.grownBy w1 none) : RH w0 W w1 ok g lim qu v sv st :=
  h.below ⟨hg.os, hg.tape, hg.output, hg.size, fun k hk => hg.block k hk (by simp)⟩
end
theorem RO.again2 {w0 W w : World} {ok0 ok1 : Nat → Prop} {g : Nat} {s : FS} (h : RO w0 W w ok0 g s) (hok : ∀ k, ok0 k → k < w.heap.size → ok1 k) (hok2 : ∀ k, W.heap.size ≤ k → k < w.heap.size → ok1 k) : RO w0 w w ok1 g s := by
  obtain ⟨v, h⟩ := h
  have key : ∀ k, (ok0 k ∨ W.heap.size ≤ k) → k < w.heap.size → ok1 k ∨ w.heap.size ≤ k := fun k hk hlt => by
    rcases hk with hk | hk
    · exact .inl (hok k hk hlt)
    · exact .inl (hok2 k hk hlt)
  exact ⟨v, h.bel, Kept.refl _ _, h.blk, h.geg, key g h.okg (blk_lt h.blk), Kd.Q_mono (Kd.Q_bound h.row) (fun k hk => key k hk.1 hk.2.2.1)⟩
theorem RO.other {w0 W W1 : World} {ok : Nat → Prop} {g : Nat} {s : FS} (h : RO w0 W W ok g s) (hb : Below w0.heap.size w0 W1) (hm : ∀ k, ok k → k < W.heap.size → W1.heap[k]? = W.heap[k]?) : RO w0 W1 W1 ok g s := by
  obtain ⟨v, h⟩ := h
  have lt : ∀ {k}, (ok k ∨ W.heap.size ≤ k) → k < W.heap.size → ok k := fun hk hlt => by
    rcases hk with hk | hk
    · exact hk
    · omega
  exact ⟨v, hb, Kept.refl _ _, (hm g (lt h.okg (blk_lt h.blk)) (blk_lt h.blk)).trans h.blk, h.geg, .inl (lt h.okg (blk_lt h.blk)),
    Kd.Q_mono (Kd.Q_move (Kd.Q_mono (Kd.Q_bound h.row) (ok' := fun k => ok k ∧ k < W.heap.size) (fun k hk => ⟨lt hk.1 hk.2.2.1, hk.2.2.1⟩)) (fun k hk => hm k hk.1 hk.2)) (fun k hk => .inl hk.1)⟩
theorem RO.below {w0 W w w1 : World} {ok : Nat → Prop} {g : Nat} {s : FS} (h : RO w0 W w ok g s) (hb : Below w.heap.size w w1) : RO w0 W w1 ok g s := by
  obtain ⟨v, h⟩ := h
  exact ⟨v, h.below hb⟩
theorem RO.bel {w0 W w : World} {ok : Nat → Prop} {g : Nat} {s : FS} (h : RO w0 W w ok g s) : Below w0.heap.size w0 w := by
  obtain ⟨v, h⟩ := h
  exact h.bel
theorem RO.keep {w0 W w : World} {ok : Nat → Prop} {g : Nat} {s : FS} (h : RO w0 W w ok g s) : Kept W w ok := by
  obtain ⟨v, h⟩ := h
  exact h.keep
/-- The cells of one element. -/
theorem rq_at {w : World} {B : Nat} {ok : Nat → Prop} {b o n c : Nat} {st : List Qu} (h : rq.Q 60 w B ok (.slice (some ⟨b, o, none⟩) n c) st) (i : Nat) (hi : i < st.length) : ∃ vl, w.cell? ⟨b, o + i * 3, none⟩ = some (.int .i64 st[i].id) ∧ w.cell? ⟨b, o + i * 3 + 1, none⟩ = some vl ∧ w.cell? ⟨b, o + i * 3 + 2, none⟩ = some (.int .i64 st[i].d) ∧ Kd.string.Q 9 w B (fun k => ok k ∧ k ≠ b) vl st[i].l := by
  obtain ⟨hn, _, hp⟩ := Q_readsM h
  subst hn
  obtain ⟨ad, ha, hc⟩ := hp (by omega)
  injection ha with ha
  subst ha
  obtain ⟨cs, hl, ⟨vl, rfl, hQ⟩, hcell⟩ := hc i _ (List.getElem?_eq_getElem hi)
  have f0 := hcell 0 _ rfl
  have f1 := hcell 1 _ rfl
  have f2 := hcell 2 _ rfl
  rw [add_at] at f0 f1 f2
  exact ⟨vl, f0, f1, f2, Kd.Q_mono hQ (fun k hk => ⟨hk.1, fun e => hk.2 (by rw [e]; rfl)⟩)⟩
theorem rq_slice {w : World} {B : Nat} {ok : Nat → Prop} {v : Value} {st : List Qu} (h : rq.Q 60 w B ok v st) (hn : 0 < st.length) : ∃ b o c, v = .slice (some ⟨b, o, none⟩) st.length c := by
  obtain ⟨_, inner, ho, _⟩ := h
  rcases ho.2 with ⟨h0, _⟩ | ⟨g, off, cap, cur, hv, _⟩
  · omega
  · exact ⟨g, _, cap, hv⟩
end Go.Proofs.Ytcieopcihbgfdaa.Rf
