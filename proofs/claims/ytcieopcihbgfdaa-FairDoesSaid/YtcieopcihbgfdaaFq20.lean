/- Layer 20: fair.Queues in memory. -/
import Derived.Test.YtcieopcihbgfdaaPFairDoesx
import Derived.Test.YtcieopcihbgfdaaPFairDoesx0
import Derived.Test.YtcieopcihbgfdaaPFairDoesx1
import Derived.Test.YtcieopcihbgfdaaVMap
import Derived.Test.YtcieopcihbgfdaaFair0
import Derived.Test.YtcieopcihbgfdaaCalmG
import Derived.BigRegion
import Derived.BigQuiet
import Derived.LoopN
import Derived.Laws.EntriesVeiled
namespace Go.Proofs.Ytcieopcihbgfdaa.Fq
open Go.RowKit Go.Proofs.YtcieopcihbgfdaaW.PrintWords Go.Proofs.YtcieopcihbgfdaaW.PrintLast Go.Proofs.YtcieopcihbgfdaaW.PrintMore Go.Proofs.Ytcieopcihbgfdaa.PFairDoes Go.Proofs.Ytcieopcihbgfdaa Go.Proofs.Ytcieopcihbgfdaa.Fair
set_option linter.unusedVariables false
set_option linter.unusedSimpArgs false
theorem Q_tstep {α : Type} {d : Kd α} {e : Nat} {w w1 : World} {B : Nat} {ok : Nat → Prop} {v : Value} {xs : List α} (h : d.Q e w B ok v xs) (hE : d.E = []) (hm : ∀ k, ok k → k < w.heap.size → (∃ cells, w.heap[k]? = some (.cells cells e (0, 0))) → w1.heap[k]? = w.heap[k]?) : d.Q e w1 B ok v xs := by
  refine Kd.Q_mono (Kd.Q_step (Kd.Q_bound h) (fun k hk hlt => hm k hk.1 hlt ?_)) (fun k hk => hk.1)
  obtain ⟨_, _, _, q, hq, cells, hc⟩ := hk
  rw [hE] at hq
  obtain rfl := List.mem_singleton.1 hq
  exact ⟨cells, hc⟩
theorem ty_ne {w : World} {k k' t t' : Nat} {c c' : Array Value} (h : w.heap[k]? = some (.cells c t (0, 0))) (h' : w.heap[k']? = some (.cells c' t' (0, 0))) (hne : t ≠ t') : k ≠ k' := blk_ne h h' hne
structure QB (w : World) (B : Nat) (ok : Nat → Prop) (qb : Int → Nat) (ow : Nat → Int) (x : Qu) : Prop where
  okb : ok (qb x.id)
  own : ow (qb x.id) = x.id
  ge : B ≤ qb x.id
  blk : ∃ v, w.heap[qb x.id]? = some (.cells #[v, .int .i64 x.d] 54 (0, 0)) ∧ Kd.string.Q 9 w B (fun k => ok k ∧ ow k = x.id) v x.l
theorem QB.lt {w : World} {B : Nat} {ok : Nat → Prop} {qb : Int → Nat} {ow : Nat → Int} {x : Qu} (h : QB w B ok qb ow x) : qb x.id < w.heap.size := by
  obtain ⟨v, hb, _⟩ := h.blk
  exact blk_lt hb
theorem QB.step {w w1 : World} {B : Nat} {ok : Nat → Prop} {qb : Int → Nat} {ow : Nat → Int} {x : Qu} (h : QB w B ok qb ow x) (hb : w1.heap[qb x.id]? = w.heap[qb x.id]?) (hm : ∀ k, ok k → ow k = x.id → k < w.heap.size → (∃ cells, w.heap[k]? = some (.cells cells 9 (0, 0))) → w1.heap[k]? = w.heap[k]?) : QB w1 B ok qb ow x := by
  obtain ⟨v, h1, h2⟩ := h.blk
  exact ⟨h.okb, h.own, h.ge, v, hb.trans h1, Q_tstep h2 rfl (fun k hk hlt ht => hm k hk.1 hk.2 hlt ht)⟩
/-- Everything, with the map and the round apart. -/
structure FH (w0 W w : World) (ok0 : Nat → Prop) (g m : Nat) (vr : Value) (qb : Int → Nat) (ow : Nat → Int) (lim qu : Int) (sv : Bool) (rd : List Int) (n : Nat) (f : Int → Option Value) (st : List Qu) : Prop where
  bel : Below w0.heap.size w0 w
  keep : Kept W w ok0
  blk : w.heap[g]? = some (.cells #[.int .i64 lim, .int .i64 qu, .map (some m), vr, .bool sv] 50 (0, 0))
  okg : ok0 g ∨ W.heap.size ≤ g
  okm : ok0 m ∨ W.heap.size ≤ m
  geg : w0.heap.size ≤ g
  gem : w0.heap.size ≤ m
  mp : VM.VMap w m n f
  row : (Kd.int .i64).Q 2 w w0.heap.size (fun k => ok0 k ∨ W.heap.size ≤ k) vr rd
  qs : ∀ x ∈ st, QB w w0.heap.size (fun k => ok0 k ∨ W.heap.size ≤ k) qb ow x
section
variable {w0 W w w1 : World} {ok0 : Nat → Prop} {g m : Nat} {vr : Value} {qb : Int → Nat} {ow : Nat → Int} {lim qu : Int} {sv : Bool} {rd : List Int} {n : Nat} {f : Int → Option Value} {st : List Qu}
theorem FH.size (h : FH w0 W w ok0 g m vr qb ow lim qu sv rd n f st) : w0.heap.size ≤ w.heap.size := h.bel.size
theorem FH.below (h : FH w0 W w ok0 g m vr qb ow lim qu sv rd n f st) (hb : Below w.heap.size w w1) : FH w0 W w1 ok0 g m vr qb ow lim qu sv rd n f st :=
  ⟨below_step h.bel hb, ⟨Nat.le_trans h.keep.1 hb.size, fun i hi hn => (hb.block i (Nat.lt_of_lt_of_le hi h.keep.1)).trans (h.keep.2 i hi hn)⟩, blk_below h.blk hb, h.okg, h.okm, h.geg, h.gem, h.mp.same (hb.block m h.mp.lt), Kd.Q_below h.row hb,
    fun x hx => (h.qs x hx).step (hb.block _ (h.qs x hx).lt) (fun k _ _ hlt _ => hb.block k hlt)⟩
theorem FH.cells (h : FH w0 W w ok0 g m vr qb ow lim qu sv rd n f st) : w.cell? ⟨g, 0, none⟩ = some (.int .i64 lim) ∧ w.cell? ⟨g, 1, none⟩ = some (.int .i64 qu) ∧ w.cell? ⟨g, 2, none⟩ = some (.map (some m)) ∧ w.cell? ⟨g, 3, none⟩ = some vr ∧ w.cell? ⟨g, 4, none⟩ = some (.bool sv) ∧ w.frozen? ⟨g, 3, none⟩ = false ∧ w.frozen? ⟨g, 4, none⟩ = false :=
  ⟨(blk_cell h.blk 0).trans rfl, (blk_cell h.blk 1).trans rfl, (blk_cell h.blk 2).trans rfl, (blk_cell h.blk 3).trans rfl, (blk_cell h.blk 4).trans rfl, blk_frozen h.blk 3, blk_frozen h.blk 4⟩
/-- One block of the state's was written: w1. -/
theorem kept_one {b : Nat} (hk : Kept W w ok0) (hsz : w.heap.size ≤ w1.heap.size) (hb : ok0 b ∨ W.heap.size ≤ b) (hm : ∀ k, k < w.heap.size → k ≠ b → w1.heap[k]? = w.heap[k]?) : Kept W w1 ok0 := by
  refine ⟨Nat.le_trans hk.1 hsz, fun i hi hn => (hm i (Nat.lt_of_lt_of_le hi hk.1) ?_).trans (hk.2 i hi hn)⟩
  rintro rfl
  rcases hb with hb | hb
  · exact hn hb
  · omega
theorem FH.setsv (h : FH w0 W w ok0 g m vr qb ow lim qu sv rd n f st) (b : Bool) : FH w0 W (w.setCell ⟨g, 4, none⟩ (.bool b)) ok0 g m vr qb ow lim qu b rd n f st := by
  have hh : ∀ k, k ≠ g → (w.setCell ⟨g, 4, none⟩ (.bool b)).heap[k]? = w.heap[k]? := fun k hk => Below.heap_setCell w _ _ k hk
  refine ⟨below_set h.bel h.geg, kept_one h.keep (Nat.le_of_eq (by simp)) h.okg (fun k _ hk => hh k hk), blk_set h.blk 4 _, h.okg, h.okm, h.geg, h.gem, h.mp.same (hh m (h.mp.ne h.blk)), Q_tstep h.row rfl (fun k _ _ ⟨c, hc⟩ => hh k (ty_ne hc h.blk (by decide))), fun x hx => (h.qs x hx).step ?_ (fun k _ _ _ ⟨c, hc⟩ => hh k (ty_ne hc h.blk (by decide)))⟩
  obtain ⟨v, hb, _⟩ := (h.qs x hx).blk
  exact hh _ (ty_ne hb h.blk (by decide))
/-- The round was turned, and stored. -/
theorem FH.setrow (h : FH w0 W w ok0 g m vr qb ow lim qu sv rd n f st) {vr1 : Value} {rd1 : List Int} (hb : Below w0.heap.size w0 w1) (hg : w.grownBy w1 vr.ownBlock) (hQ : (Kd.int .i64).Q 2 w1 w0.heap.size (fun k => ok0 k ∨ W.heap.size ≤ k) vr1 rd1) :
    FH w0 W (w1.setCell ⟨g, 3, none⟩ vr1) ok0 g m vr1 qb ow lim qu sv rd1 n f st := by
  have hty := Kd.Q_typed h.row
  have ho : ∀ k, k < w.heap.size → (∀ cells, w.heap[k]? ≠ some (.cells cells 2 (0, 0))) → w1.heap[k]? = w.heap[k]? := fun k hk hn => hg.block k hk (fun e => by obtain ⟨c, hc⟩ := hty k e.symm; exact hn c hc)
  have b1 : w1.heap[g]? = some (.cells #[.int .i64 lim, .int .i64 qu, .map (some m), vr, .bool sv] 50 (0, 0)) := (ho g (blk_lt h.blk) (fun c hc => ty_ne hc h.blk (by decide) rfl)).trans h.blk
  have hh : ∀ k, k ≠ g → (w1.setCell ⟨g, 3, none⟩ vr1).heap[k]? = w1.heap[k]? := fun k hk => Below.heap_setCell w1 _ _ k hk
  have hk1 : Kept W w1 ok0 := by
    refine ⟨Nat.le_trans h.keep.1 hg.size, fun i hi hn => (hg.block i (Nat.lt_of_lt_of_le hi h.keep.1) (fun e => ?_)).trans (h.keep.2 i hi hn)⟩
    rcases h.row.1 i e.symm with h1 | h1
    · exact hn h1
    · omega
  have hnot : ∀ {k : Nat} {c : Array Value} {t : Nat}, w.heap[k]? = some (.cells c t (0, 0)) → t ≠ 2 → ∀ cells, w.heap[k]? ≠ some (.cells cells 2 (0, 0)) := fun hc ht cells he => by rw [hc] at he; injection he with he; injection he with _ he; exact ht he
  refine ⟨below_set hb h.geg, kept_one hk1 (Nat.le_of_eq (by simp)) h.okg (fun k _ hk => hh k hk), blk_set b1 3 _, h.okg, h.okm, h.geg, h.gem, h.mp.same ((hh m (h.mp.ne h.blk)).trans (ho m h.mp.lt (fun c hc => h.mp.ne hc rfl))), Q_tstep hQ rfl (fun k _ _ ⟨c, hc⟩ => hh k (ty_ne hc b1 (by decide))), fun x hx => ?_⟩
  obtain ⟨v, hb', hq⟩ := (h.qs x hx).blk
  have e1 := ho _ (blk_lt hb') (hnot hb' (by decide))
  exact (h.qs x hx).step ((hh _ (ty_ne hb' h.blk (by decide))).trans e1) (fun k _ _ hlt ⟨c, hc⟩ => (hh k (ty_ne hc h.blk (by decide))).trans (ho k hlt (hnot hc (by decide))))
theorem FH.setm (h : FH w0 W w ok0 g m vr qb ow lim qu sv rd n f st) {n1 : Nat} {f1 : Int → Option Value} (hM : VM.VMap w1 m n1 f1) (ht : w.mapTurned w1 m) : FH w0 W w1 ok0 g m vr qb ow lim qu sv rd n1 f1 st := by
  have hg := ht.grown
  have ho : ∀ {k : Nat} {c : Array Value} {t : Nat} {fr : Nat × Nat}, w.heap[k]? = some (.cells c t fr) → w1.heap[k]? = w.heap[k]? := fun hc => hg.block _ (blk_lt hc) (fun e => by injection e with e; subst e; exact h.mp.ne hc rfl)
  refine ⟨h.bel.grown hg h.bel.size (fun k e => by injection e with e; rw [← e]; exact h.gem), kept_one h.keep hg.size h.okm (fun k hk hn => hg.block k hk (fun e => hn (by injection e))), (ho h.blk).trans h.blk, h.okg, h.okm, h.geg, h.gem, hM, Q_tstep h.row rfl (fun k _ _ ⟨c, hc⟩ => ho hc), fun x hx => ?_⟩
  obtain ⟨v, hb', hq⟩ := (h.qs x hx).blk
  exact (h.qs x hx).step (ho hb') (fun k _ _ hlt ⟨c, hc⟩ => ho hc)
/-- One queue's block is stored into, its row (v1, l1) known behind an event that may have grown it. -/
theorem FH.setq (h : FH w0 W w ok0 g m vr qb ow lim qu sv rd n f st) {x : Qu} (hx : x ∈ st) {v : Value} (hv : w.heap[qb x.id]? = some (.cells #[v, .int .i64 x.d] 54 (0, 0))) (hvq : Kd.string.Q 9 w w0.heap.size (fun k => (ok0 k ∨ W.heap.size ≤ k) ∧ ow k = x.id) v x.l)
    (hb : Below w0.heap.size w0 w1) (hg : w.grownBy w1 v.ownBlock) {j : Nat} {u v1 : Value} {l1 : List ByteArray} {d1 : Int} (hj : (#[v, .int .i64 x.d] : Array Value).setIfInBounds j u = #[v1, .int .i64 d1]) {ow1 : Nat → Int} (how : ∀ k, k < w.heap.size → ow1 k = ow k)
    (hQ : Kd.string.Q 9 w1 w0.heap.size (fun k => (ok0 k ∨ W.heap.size ≤ k) ∧ ow1 k = x.id) v1 l1) {st1 : List Qu} (hst : ∀ y ∈ st1, y = ⟨x.id, l1, d1⟩ ∨ (y ∈ st ∧ y.id ≠ x.id)) :
    FH w0 W (w1.setCell ⟨qb x.id, j, none⟩ u) ok0 g m vr qb ow1 lim qu sv rd n f st1 := by
  have hX := h.qs x hx
  have hty := Kd.Q_typed hvq
  have ho : ∀ k, k < w.heap.size → (∀ cells, w.heap[k]? ≠ some (.cells cells 9 (0, 0))) → w1.heap[k]? = w.heap[k]? := fun k hk hn => hg.block k hk (fun e => by obtain ⟨c, hc⟩ := hty k e.symm; exact hn c hc)
  have hnot : ∀ {k : Nat} {c : Array Value} {t : Nat}, w.heap[k]? = some (.cells c t (0, 0)) → t ≠ 9 → ∀ cells, w.heap[k]? ≠ some (.cells cells 9 (0, 0)) := fun hc ht cells he => by rw [hc] at he; injection he with he; injection he with _ he; exact ht he
  have b1 : w1.heap[qb x.id]? = some (.cells #[v, .int .i64 x.d] 54 (0, 0)) := (ho _ (blk_lt hv) (hnot hv (by decide))).trans hv
  have hh : ∀ k, k ≠ qb x.id → (w1.setCell ⟨qb x.id, j, none⟩ u).heap[k]? = w1.heap[k]? := fun k hk => Below.heap_setCell w1 _ _ k hk
  have hk1 : Kept W w1 ok0 := by
    refine ⟨Nat.le_trans h.keep.1 hg.size, fun i hi hn => (hg.block i (Nat.lt_of_lt_of_le hi h.keep.1) (fun e => ?_)).trans (h.keep.2 i hi hn)⟩
    rcases (hvq.1 i e.symm).1 with h1 | h1
    · exact hn h1
    · omega
  have b2 := blk_set b1 j u
  rw [hj] at b2
  refine ⟨below_set hb hX.ge, kept_one hk1 (Nat.le_of_eq (by simp)) hX.okb (fun k _ hk => hh k hk), ?_, h.okg, h.okm, h.geg, h.gem, h.mp.same ((hh m (h.mp.ne hv)).trans (ho m h.mp.lt (fun c hc => h.mp.ne hc rfl))), ?_, fun y hy => ?_⟩
  · exact (hh g (ty_ne h.blk hv (by decide))).trans ((ho g (blk_lt h.blk) (hnot h.blk (by decide))).trans h.blk)
  · exact Q_tstep h.row rfl (fun k _ hlt ⟨c, hc⟩ => (hh k (ty_ne hc hv (by decide))).trans (ho k hlt (hnot hc (by decide))))
  · rcases hst y hy with rfl | ⟨hy1, hne⟩
    · exact ⟨hX.okb, (how _ hX.lt).trans hX.own, hX.ge, v1, b2, Q_tstep hQ rfl (fun k _ _ ⟨c, hc⟩ => hh k (ty_ne hc b1 (by decide)))⟩
    · have hY := h.qs y hy1
      obtain ⟨vy, hby, hqy⟩ := hY.blk
      have hqne : qb y.id ≠ qb x.id := fun e => hne (by rw [← hY.own, ← hX.own, e])
      refine ⟨hY.okb, (how _ hY.lt).trans hY.own, hY.ge, vy, (hh _ hqne).trans ((ho _ (blk_lt hby) (hnot hby (by decide))).trans hby), ?_⟩
      have hq2 : Kd.string.Q 9 (w1.setCell ⟨qb x.id, j, none⟩ u) w0.heap.size (fun k => ((ok0 k ∨ W.heap.size ≤ k) ∧ ow k = y.id) ∧ k < w.heap.size) vy y.l := by
        refine Q_tstep (Kd.Q_mono (Kd.Q_bound hqy) (fun k hk => ⟨hk.1, hk.2.2.1⟩)) rfl (fun k hk hlt ⟨c, hc⟩ => (hh k (ty_ne hc hv (by decide))).trans (hg.block k hlt (fun e => ?_)))
        exact hne (by rw [← hk.1.2, (hvq.1 k e.symm).2])
      exact Kd.Q_mono hq2 (fun k hk => ⟨hk.1.1, (how k hk.2).trans hk.1.2⟩)
/-- A new queue's block was laid. -/
theorem FH.newq (h : FH w0 W w ok0 g m vr qb ow lim qu sv rd n f st) (id : Int) (hid : ∀ y ∈ st, y.id ≠ id) {gb : Nat} (hb : Below w.heap.size w w1) (hx : w1.heap[gb]? = some (.cells #[.slice none 0 0, .int .i64 0] 54 (0, 0))) (hge : w.heap.size ≤ gb) :
    FH w0 W w1 ok0 g m vr (fun k => if k = id then gb else qb k) (fun k => if k = gb then id else ow k) lim qu sv rd n f (⟨id, [], 0⟩ :: st) := by
  have h2 := h.below hb
  have hs0 := h.bel.size
  have hs1 := h.keep.1
  refine ⟨h2.bel, h2.keep, h2.blk, h2.okg, h2.okm, h2.geg, h2.gem, h2.mp, h2.row, fun y hy => ?_⟩
  rcases List.mem_cons.1 hy with rfl | hy
  · refine ⟨by (try dsimp only); rw [if_pos rfl]; exact .inr (by omega), by (try dsimp only); rw [if_pos rfl, if_pos rfl], by (try dsimp only); rw [if_pos rfl]; omega, .slice none 0 0, by (try dsimp only); rw [if_pos rfl]; exact hx, Kd.Q_nil _ _ _ _ _⟩
  · have hY := h2.qs y hy
    have hlt := (h.qs y hy).lt
    have hne := hid y hy
    obtain ⟨vy, hby, hqy⟩ := hY.blk
    refine ⟨by (try dsimp only); rw [if_neg hne]; exact hY.okb, by (try dsimp only); rw [if_neg hne, if_neg (by omega)]; exact hY.own, by (try dsimp only); rw [if_neg hne]; exact hY.ge, vy, by (try dsimp only); rw [if_neg hne]; exact hby, ?_⟩
    obtain ⟨v0, hb0, hq0⟩ := (h.qs y hy).blk
    have e := (blk_below hb0 hb).symm.trans hby
    injection e with e
    injection e with e
    obtain rfl : v0 = vy := by injection e with e; injection e
    exact Kd.Q_mono (Kd.Q_below (Kd.Q_bound hq0) hb) (fun k hk => ⟨hk.1.1, by have := hk.2.2.1; rw [if_neg (by omega)]; exact hk.1.2⟩)
/-- The same, with names. -/
theorem FH.newq' (h : FH w0 W w ok0 g m vr qb ow lim qu sv rd n f st) (id : Int) (hid : ∀ y ∈ st, y.id ≠ id) {gb : Nat} (hb : Below w.heap.size w w1) (hx : w1.heap[gb]? = some (.cells #[.slice none 0 0, .int .i64 0] 54 (0, 0))) (hge : w.heap.size ≤ gb) :
    ∃ qb2 ow2, qb2 id = gb ∧ (∀ k, k ≠ id → qb2 k = qb k) ∧ FH w0 W w1 ok0 g m vr qb2 ow2 lim qu sv rd n f (⟨id, [], 0⟩ :: st) :=
  ⟨_, _, if_pos rfl, fun k hk => if_neg hk, h.newq id hid hb hx hge⟩
/-- A queue's block behind an event that may have grown its row. -/
theorem FH.qat (h : FH w0 W w ok0 g m vr qb ow lim qu sv rd n f st) {b : Nat} {v : Value} {d : Int} {e : Nat} {α : Type} {k : Kd α} {ok : Nat → Prop} {xs : List α} (hv : w.heap[b]? = some (.cells #[v, .int .i64 d] 54 (0, 0))) (hq : k.Q e w w0.heap.size ok v xs) (he : e ≠ 54) (hg : w.grownBy w1 v.ownBlock) :
    w1.heap[b]? = some (.cells #[v, .int .i64 d] 54 (0, 0)) :=
  (hg.block b (blk_lt hv) (fun e1 => by obtain ⟨c, hc⟩ := Kd.Q_typed hq b e1.symm; exact ty_ne hc hv he rfl)).trans hv
theorem FH.gat (h : FH w0 W w ok0 g m vr qb ow lim qu sv rd n f st) (hg : w.grownBy w1 vr.ownBlock) : w1.heap[g]? = some (.cells #[.int .i64 lim, .int .i64 qu, .map (some m), vr, .bool sv] 50 (0, 0)) :=
  (hg.block g (blk_lt h.blk) (fun e1 => by obtain ⟨c, hc⟩ := Kd.Q_typed h.row g e1.symm; exact ty_ne hc h.blk (by decide) rfl)).trans h.blk
theorem FH.sub (h : FH w0 W w ok0 g m vr qb ow lim qu sv rd n f st) {st1 : List Qu} (hs : ∀ y ∈ st1, y ∈ st) : FH w0 W w ok0 g m vr qb ow lim qu sv rd n f st1 :=
  ⟨h.bel, h.keep, h.blk, h.okg, h.okm, h.geg, h.gem, h.mp, h.row, fun y hy => h.qs y (hs y hy)⟩
end
/-- Where each key's queue lies. -/
def fm (l : List Int) (qb : Int → Nat) : Int → Option Value := fun k => if k ∈ l then some (.pointer (some ⟨qb k, 0, none⟩)) else none
/-- The state, told whole. -/
def FO (w0 W w : World) (ok0 : Nat → Prop) (g : Nat) (s : FS) : Prop := ∃ m vr qb ow, FH w0 W w ok0 g m vr qb ow s.lim s.qu s.sv (ids s) s.st.length (fm (ids s) qb) s.st
theorem FO.again {w0 W w : World} {ok0 ok1 : Nat → Prop} {g : Nat} {s : FS} (h : FO w0 W w ok0 g s) (hok : ∀ k, ok0 k → ok1 k) (hok2 : ∀ k, W.heap.size ≤ k → k < w.heap.size → ok1 k) : FO w0 w w ok1 g s := by
  obtain ⟨m, vr, qb, ow, h⟩ := h
  have key : ∀ k, (ok0 k ∨ W.heap.size ≤ k) → k < w.heap.size → ok1 k ∨ w.heap.size ≤ k := fun k hk hlt => by
    rcases hk with hk | hk
    · exact .inl (hok k hk)
    · exact .inl (hok2 k hk hlt)
  refine ⟨m, vr, qb, ow, h.bel, Kept.refl _ _, h.blk, key g h.okg (blk_lt h.blk), key m h.okm h.mp.lt, h.geg, h.gem, h.mp, Kd.Q_mono (Kd.Q_bound h.row) (fun k hk => key k hk.1 hk.2.2.1), fun x hx => ?_⟩
  have hX := h.qs x hx
  obtain ⟨v, hb, hq⟩ := hX.blk
  exact ⟨key _ hX.okb hX.lt, hX.own, hX.ge, v, hb, Kd.Q_mono (Kd.Q_bound hq) (fun k hk => ⟨key k hk.1.1 hk.2.2.1, hk.1.2⟩)⟩
theorem FO.below {w0 W w w1 : World} {ok0 : Nat → Prop} {g : Nat} {s : FS} (h : FO w0 W w ok0 g s) (hb : Below w.heap.size w w1) : FO w0 W w1 ok0 g s := by
  obtain ⟨m, vr, qb, ow, h⟩ := h
  exact ⟨m, vr, qb, ow, h.below hb⟩
theorem FO.bel {w0 W w : World} {ok0 : Nat → Prop} {g : Nat} {s : FS} (h : FO w0 W w ok0 g s) : Below w0.heap.size w0 w := by
  obtain ⟨m, vr, qb, ow, h⟩ := h
  exact h.bel
theorem FO.keep {w0 W w : World} {ok0 : Nat → Prop} {g : Nat} {s : FS} (h : FO w0 W w ok0 g s) : Kept W w ok0 := by
  obtain ⟨m, vr, qb, ow, h⟩ := h
  exact h.keep
end Go.Proofs.Ytcieopcihbgfdaa.Fq
