/- Layer 20: leave and Drop. gen/mk_q20b.py writes this text. -/
import Derived.Test.YtcieopcihbgfdaaCon20
namespace Go.Proofs.Ytcieopcihbgfdaa.Fq
open Go.RowKit Go.Proofs.YtcieopcihbgfdaaW.PrintWords Go.Proofs.YtcieopcihbgfdaaW.PrintLast Go.Proofs.YtcieopcihbgfdaaW.PrintMore Go.Proofs.Ytcieopcihbgfdaa.PFairDoes Go.Proofs.Ytcieopcihbgfdaa Go.Proofs.Ytcieopcihbgfdaa.Fair
set_option linter.unusedVariables false
set_option linter.unusedSimpArgs false
theorem q_enc {e B : Nat} {w : World} {ok : Nat → Prop} {v : Value} {xs : List Int} (h : (Kd.int .i64).Q e w B ok v xs) : QRow w B e 1 v xs.length (xs.map (Value.int .i64)) := by
  obtain ⟨_, inner, ho, hr⟩ := h
  have : inner = xs.map (Value.int .i64) := by
    apply List.ext_getElem?
    intro j
    have hlen : inner.length = xs.length := by have := hr.1; simpa [Kd.int, Kd.scalar] using this
    rcases Nat.lt_or_ge j xs.length with hj | hj
    · have h2 := hr.2 j _ (List.getElem?_eq_getElem hj)
      have hl : j < inner.length := by omega
      have h3 : (inner.drop (j * 1)).take 1 = [Value.int .i64 xs[j]] := h2
      rw [Nat.mul_one, List.drop_eq_getElem_cons hl] at h3
      have h4 : inner[j] = Value.int .i64 xs[j] := by
        have h5 := congrArg List.head? h3
        rw [List.take_succ_cons] at h5
        exact Option.some.inj h5
      rw [List.getElem?_eq_getElem hl, h4]
      simp [List.getElem?_eq_getElem hj]
    · rw [List.getElem?_eq_none (by omega), List.getElem?_eq_none (by rw [List.length_map]; omega)]
  rw [← this]
  exact ho
theorem q_made {e B : Nat} {w : World} {ok : Nat → Prop} {v : Value} {xs : List Int} (h : QRow w B e 1 v xs.length (xs.map (Value.int .i64))) (hok : ∀ k, v.ownBlock = some k → ok k) : (Kd.int .i64).Q e w B ok v xs := ⟨hok, _, h, Kd.reps_scalar xs⟩
/-- A row of int64 that is not empty. -/
structure RowAt (e : Nat) (w : World) (B : Nat) (ok : Nat → Prop) (xs : List Int) (b off c : Nat) (cur : Array Value) : Prop where
  ge : B ≤ b
  okb : ok b
  blk : w.heap[b]? = some (.cells cur e (0, 0))
  le : xs.length ≤ c
  mx : off + c ≤ maxLen
  sz : cur.size = off + c
  ct : (cur.toList.drop off).take xs.length = xs.map (Value.int .i64)
theorem row_at {e B : Nat} {w : World} {ok : Nat → Prop} {v : Value} {xs : List Int} (h : (Kd.int .i64).Q e w B ok v xs) (hn : 0 < xs.length) : ∃ b off c cur, v = .slice (some ⟨b, off, none⟩) xs.length c ∧ RowAt e w B ok xs b off c cur := by
  rcases (q_enc h).2 with ⟨h0, _⟩ | ⟨g, off, cap, cur, hv, hg, hh, hnc, hm, hcs, ht⟩
  · omega
  · simp only [Nat.mul_one] at hv hcs ht
    exact ⟨g, off, cap, cur, hv, hg, h.1 g (by rw [hv]; rfl), hh, hnc, hm, hcs, ht⟩
theorem RowAt.cell {e B : Nat} {w : World} {ok : Nat → Prop} {xs : List Int} {b off c : Nat} {cur : Array Value} (h : RowAt e w B ok xs b off c cur) : ∀ j, j < xs.length → w.cell? ⟨b, off + j, none⟩ = some (.int .i64 (xs.getD j 0)) := by
  intro j hj
  have e1 : (xs.map (Value.int .i64))[j]? = some (.int .i64 (xs.getD j 0)) := by simp [List.getD, hj]
  rw [← h.ct, List.getElem?_take, if_pos hj, List.getElem?_drop] at e1
  rw [cell_of_row w b _ cur e (0, 0) h.blk, ← Array.getElem?_toList]
  exact e1
theorem RowAt.froz {e B : Nat} {w : World} {ok : Nat → Prop} {xs : List Int} {b off c : Nat} {cur : Array Value} (h : RowAt e w B ok xs b off c cur) : ∀ j, j < xs.length → w.frozen? ⟨b, off + j, none⟩ = false := fun j _ => blk_frozen h.blk _
/-- The row behind Delete. -/
theorem RowAt.deleted {e B : Nat} {w w0 : World} {ok : Nat → Prop} {xs : List Int} {b off c : Nat} {cur : Array Value} (h : RowAt e w B ok xs b off c cur) (q : Nat) {ys : List Int} {r : List Int} (hl : (ys ++ r).length = xs.length) (hB : Below B w0 w) :
    (Kd.int .i64).Q e ((w.drewN q).setCells b off ((ys ++ r).map (Value.int .i64))) B ok (.slice (some ⟨b, off, none⟩) ys.length c) ys ∧ Below B w0 ((w.drewN q).setCells b off ((ys ++ r).map (Value.int .i64))) ∧ w.grownBy ((w.drewN q).setCells b off ((ys ++ r).map (Value.int .i64))) (some b) := by
  have hl2 : ((ys ++ r).map (Value.int .i64)).length = xs.length := by rw [List.length_map, hl]
  have hle := h.le
  have hsz := h.sz
  obtain ⟨cur', h1, h2, h3⟩ := setCells_row ((ys ++ r).map (Value.int .i64)) off (w.drewN q) cur (blk_drewN h.blk q) (by rw [hl2, hsz]; omega)
  obtain ⟨s1, s2, s3, s4⟩ := setCells_same b ((ys ++ r).map (Value.int .i64)) off (w.drewN q)
  have hd : Below w.heap.size w (w.drewN q) := pw_below_drewN (Below.refl _ _) q
  have hfar : ∀ k, k ≠ b → ((w.drewN q).setCells b off ((ys ++ r).map (Value.int .i64))).heap[k]? = w.heap[k]? := fun k hk => (setCells_far _ off k hk).trans (by rfl)
  have hyl : ys.length ≤ xs.length := by rw [← hl, List.length_append]; omega
  refine ⟨q_made ⟨by simp, .inr ⟨b, off, c, cur', by rw [Nat.mul_one], h.ge, h1, by omega, h.mx, by rw [h2, hsz, Nat.mul_one], ?_⟩⟩ (fun k hk => by injection hk with hk; rw [← hk]; exact h.okb), ?_, ?_⟩
  · have hoff : (cur.toList.take off).length = off := by rw [List.length_take, Array.length_toList]; omega
    rw [Nat.mul_one, Nat.mul_one, h3, List.append_assoc, List.drop_append_of_le_length (by omega), List.drop_of_length_le (by omega), List.nil_append, List.map_append, List.append_assoc, List.take_append_of_le_length (by rw [List.length_map]; exact Nat.le_refl _), List.take_of_length_le (by rw [List.length_map]; exact Nat.le_refl _)]
  · have hb2 : Below B w (w.drewN q) := pw_below_drewN (Below.refl _ _) q
    exact (hB.trans hb2).trans ⟨s1, s2, s3, Nat.le_of_eq s4.symm, fun k hk => setCells_far _ off k (by have := h.ge; omega)⟩
  · exact ⟨s1.trans hd.os, s2.trans hd.tape, s3.trans hd.output, by rw [s4]; exact hd.size, fun k _ hk => hfar k (fun e => hk (by rw [e]))⟩
theorem idx_split {a b : List Int} {id : Int} (ha : id ∉ a) : Go.Lib.idxOf (a ++ id :: b) id = (a.length : Int) := by
  have := Go.Lib.idxOf_hit (a ++ id :: b) (a ++ id :: b).length a.length id (by simp) (Nat.le_refl _) (by simp [List.getD]) (fun j hj => by
    rw [show (a ++ id :: b).getD j 0 = a.getD j 0 by simp [List.getD, List.getElem?_append, hj]]
    intro e
    refine ha ?_
    rw [← e]
    simp [List.getD, hj])
  rw [List.take_length] at this
  exact this
section
variable {w0 W w w1 : World} {ok0 : Nat → Prop} {g m : Nat} {vr : Value} {qb : Int → Nat} {ow : Nat → Int} {lim qu : Int} {sv : Bool} {rd : List Int} {n : Nat} {f : Int → Option Value} {st : List Qu}
theorem FH.again (h : FH w0 W w ok0 g m vr qb ow lim qu sv rd n f st) : FH w0 w w (fun k => ok0 k ∨ W.heap.size ≤ k) g m vr qb ow lim qu sv rd n f st := by
  refine ⟨h.bel, Kept.refl _ _, h.blk, .inl h.okg, .inl h.okm, h.geg, h.gem, h.mp, Kd.Q_mono h.row (fun k hk => .inl hk), fun x hx => ?_⟩
  have hX := h.qs x hx
  obtain ⟨v, hb, hq⟩ := hX.blk
  exact ⟨.inl hX.okb, hX.own, hX.ge, v, hb, Kd.Q_mono hq (fun k hk => ⟨.inl hk.1, hk.2⟩)⟩
theorem FH.back (h : FH w0 w w1 (fun k => ok0 k ∨ W.heap.size ≤ k) g m vr qb ow lim qu sv rd n f st) (hk : Kept W w ok0) : FH w0 W w1 ok0 g m vr qb ow lim qu sv rd n f st := by
  have hs := hk.1
  have key : ∀ k, ((ok0 k ∨ W.heap.size ≤ k) ∨ w.heap.size ≤ k) → (ok0 k ∨ W.heap.size ≤ k) := fun k hk => by
    rcases hk with hk | hk
    · exact hk
    · exact .inr (by omega)
  refine ⟨h.bel, ⟨Nat.le_trans hs h.keep.1, fun i hi hn => (h.keep.2 i (by omega) (fun e => ?_)).trans (hk.2 i hi hn)⟩, h.blk, key g h.okg, key m h.okm, h.geg, h.gem, h.mp, Kd.Q_mono h.row (fun k hk => key k hk), fun x hx => ?_⟩
  · rcases e with e | e
    · exact hn e
    · omega
  have hX := h.qs x hx
  obtain ⟨v, hb, hq⟩ := hX.blk
  exact ⟨key _ hX.okb, hX.own, hX.ge, v, hb, Kd.Q_mono hq (fun k hk => ⟨key k hk.1, hk.2⟩)⟩
end
theorem fm_del {a b : List Int} {id : Int} {qb : Int → Nat} (hnd : (a ++ id :: b).Nodup) : VM.del (fm (a ++ id :: b) qb) id = fm (a ++ b) qb := by
  have hna : id ∉ a ++ b := by
    rw [List.nodup_append] at hnd
    intro h
    rcases List.mem_append.1 h with h | h
    · exact hnd.2.2 _ h _ List.mem_cons_self rfl
    · exact (List.nodup_cons.1 hnd.2.1).1 h
  funext k
  unfold VM.del
  by_cases hk : k = id
  · subst hk
    rw [if_pos rfl, fm_out hna]
  · rw [if_neg hk]
    by_cases hm : k ∈ a ++ b
    · rw [fm_in hm, fm_in]
      rcases List.mem_append.1 hm with h | h
      · exact List.mem_append_left _ h
      · exact List.mem_append_right _ (List.mem_cons_of_mem _ h)
    · rw [fm_out hm, fm_out]
      intro h
      rcases List.mem_append.1 h with h | h
      · exact hm (List.mem_append_left _ h)
      · rcases List.mem_cons.1 h with h | h
        · exact hk h
        · exact hm (List.mem_append_right _ h)
/-- Blocks of queues lie as they lay. -/
def QKeep (W w : World) : Prop := ∀ (k : Nat) (c : Array Value), W.heap[k]? = some (Obj.cells c 54 (0, 0)) → w.heap[k]? = W.heap[k]?
theorem idx_c {e B : Nat} {w : World} {ok : Nat → Prop} {a b : List Int} {id : Int} {B_ off c N_ al : Nat} {cur : Array Value} (h : RowAt e w B ok (a ++ id :: b) B_ off c cur) (hN : (a ++ id :: b).length = N_) (ha : id ∉ a) (hal : a.length = al) :
    Calls Try.prog 22 #[.slice (some ⟨B_, off, none⟩) N_ c, .int .i64 id] w fun e w' => e = .returned (.int .i64 (al : Int)) ∧ w' = w := by
  subst hN
  subst hal
  have := h.le
  have := h.mx
  have h1 := Try.slices_Index_int B_ off (a ++ id :: b).length c (a ++ id :: b) id w (Nat.le_refl _) (by unfold maxLen at *; omega) h.cell
  rw [List.take_length, idx_split ha] at h1
  exact h1
theorem del_c {e B : Nat} {w w0 : World} {ok : Nat → Prop} {a b : List Int} {id : Int} {B_ off c N_ al : Nat} {cur : Array Value} (h : RowAt e w B ok (a ++ id :: b) B_ off c cur) (hN : (a ++ id :: b).length = N_) (hl : N_ ≤ 1000000) (hB : Below B w0 w) (haN : a.length + 1 ≤ N_) (hal : a.length = al) :
    Calls Try.prog 23 #[.slice (some ⟨B_, off, none⟩) N_ c, .int .i64 (al : Int), .int .i64 ((al : Int) + 1)] w fun e_ w' => e_ = .returned (.slice (some ⟨B_, off, none⟩) (a ++ b).length c) ∧ (Kd.int .i64).Q e w' B ok (.slice (some ⟨B_, off, none⟩) (a ++ b).length c) (a ++ b) ∧ Below B w0 w' ∧ w.grownBy w' (some B_) := by
  subst hN
  subst hal
  have := h.le
  have := h.mx
  have h1 := Try.slices_Delete_int_cells B_ off (a ++ id :: b).length c a.length (a.length + 1) (a ++ id :: b) w (Nat.le_refl _) h.le (by unfold maxLen at *; omega) (by omega) haN h.cell h.froz
  refine h1.mono ?_
  rintro e1 w1 ⟨rfl, q, rfl⟩
  have e2 : (a ++ id :: b).length - (a.length + 1 - a.length) = (a ++ b).length := by simp
  have e3 : ((a ++ id :: b).take (a ++ id :: b).length).take a.length ++ ((a ++ id :: b).take (a ++ id :: b).length).drop (a.length + 1) ++ List.replicate (a.length + 1 - a.length) (0 : Int) = (a ++ b) ++ [0] := by
    rw [List.take_length, show a.length + 1 - a.length = 1 by omega]
    congr 1
    rw [show (a ++ id :: b).take a.length = a by simp, show (a ++ id :: b).drop (a.length + 1) = b by simp]
  rw [e2, e3]
  have := h.deleted q (ys := a ++ b) (r := [0]) (by simp) hB
  exact ⟨rfl, this.1, this.2.1, this.2.2⟩
theorem del_keep {w0 W w w1 : World} {ok0 : Nat → Prop} {g m : Nat} {vr : Value} {qb : Int → Nat} {ow : Nat → Int} {lim qu : Int} {sv : Bool} {rd : List Int} {n : Nat} {f : Int → Option Value} {st : List Qu} (h : FH w0 W w ok0 g m vr qb ow lim qu sv rd n f st) {B : Nat} {ok : Nat → Prop} {xs : List Int} {b off c : Nat} {cur : Array Value} (hr : RowAt 2 w B ok xs b off c cur) (hg : w.grownBy w1 (some b)) {v : Value} :
    QKeep w (w1.setCell ⟨g, 3, none⟩ v) := by
  intro k c hc
  have h1 : w1.heap[k]? = w.heap[k]? := hg.block k (blk_lt hc) (fun e => by injection e with e; exact ty_ne hc hr.blk (by decide) e)
  exact (Below.heap_setCell _ _ _ k (ty_ne hc h.blk (by decide))).trans h1
theorem map_keep {w0 W w w1 wb : World} {ok0 : Nat → Prop} {g m : Nat} {vr : Value} {qb : Int → Nat} {ow : Nat → Int} {lim qu : Int} {sv : Bool} {rd : List Int} {n : Nat} {f : Int → Option Value} {st : List Qu} (h : FH w0 W w ok0 g m vr qb ow lim qu sv rd n f st) (hk : QKeep wb w) (ht : w.mapTurned w1 m) : QKeep wb w1 := by
  intro k c hc
  have h1 := hk k c hc
  have h2 := h1.trans hc
  exact (ht.grown.block k (blk_lt h2) (fun e => by injection e with e; subst e; exact h.mp.ne h2 rfl)).trans h1
theorem del_fin {w0 W w : World} {ok0 : Nat → Prop} {g m : Nat} {vr : Value} {qb : Int → Nat} {ow : Nat → Int} {lim qu : Int} {sv : Bool} {a b : List Int} {id : Int} {N_ : Nat} {st : List Qu} (h : FH w0 W w ok0 g m vr qb ow lim qu sv (a ++ b) (if (fm (a ++ id :: b) qb id).isSome = true then (a ++ id :: b).length - 1 else (a ++ id :: b).length) (VM.del (fm (a ++ id :: b) qb) id) st) (hnd : (a ++ id :: b).Nodup) (hN : (a ++ id :: b).length = N_) (hb : N_ = a.length + b.length + 1) :
    FH w0 W w ok0 g m vr qb ow lim qu sv (a ++ b) (a ++ b).length (fm (a ++ b) qb) st := by
  have e1 : (fm (a ++ id :: b) qb id).isSome = true := by rw [fm_in (by simp)]; rfl
  rw [fm_del hnd, if_pos e1] at h
  have : (a ++ id :: b).length - 1 = (a ++ b).length := by simp
  rw [this] at h
  exact h
set_option maxHeartbeats 8000000 in
set_option maxRecDepth 100000 in
theorem leave_zero (g m : Nat) (id : Int) (a b : List Int) (vr : Value) (qb : Int → Nat) (ow : Nat → Int) (lim qu : Int) (sv : Bool) (st : List Qu) (ok : Nat → Prop) (w0 W : World) (h : FH w0 W W ok g m vr qb ow lim qu sv (a ++ id :: b) (a ++ id :: b).length (fm (a ++ id :: b) qb) st) (hnd : (a ++ id :: b).Nodup) (ha : id ∉ a) (hk : (Lit.int .i64 id).wf = true) (hl : (a ++ id :: b).length ≤ 1000000) (hz : a.length = 0) :
    Calls Try.prog 20 #[.pointer (some ⟨g, 0, none⟩), .int .i64 id] W fun e w' => e = .returned (.tuple #[]) ∧ ∃ vr', FH w0 W w' ok g m vr' qb ow lim qu false (a ++ b) (a ++ b).length (fm (a ++ b) qb) st ∧ QKeep W w' := by
  obtain ⟨B_, off, c, cur, rfl, hR⟩ := row_at h.row (by rw [List.length_append, List.length_cons]; omega)
  obtain ⟨c0, c1, c2, c3, c4, f3, f4⟩ := h.cells
  obtain ⟨N_, hN⟩ : ∃ N_, (a ++ id :: b).length = N_ := ⟨_, rfl⟩
  have H0 := Aside0.mk h
  have HR := Aside0.mk hR
  have HN := Aside0.mk hN
  have HND := Aside0.mk hnd
  have HA := Aside0.mk ha
  have HK := Aside0.mk hk
  have HL := Aside0.mk (show N_ ≤ 1000000 by omega)
  have HAL := Aside0.mk (show a.length + 1 ≤ N_ by rw [← hN]; simp)
  have HBL := Aside0.mk (show N_ = a.length + b.length + 1 by rw [← hN]; simp; omega)
  obtain ⟨al, hal⟩ : ∃ x, a.length = x := ⟨_, rfl⟩
  have HALE := Aside0.mk hal
  rw [hN] at c3
  have S4 : wrap64 ((al : Int) + 1) = (al : Int) + 1 := by have h1 := HAL.out; have h2 := HL.out; clear HR H0; unfold wrap64; omega
  have S5 : IntKind.i64.wrap ((al : Int) + 1) = (al : Int) + 1 := (i64_w _).trans S4
  have z1 : ((al : Int) == 0) = true := by rw [show (al : Int) = 0 by omega]; rfl
  have z2 : decide ((al : Int) = 0) = true := decide_eq_true (by omega)
  have z3 : (al == 0) = true := by rw [show al = 0 by omega]; rfl
  clear h hR hN hnd ha hk hl hal hz
  go_enter Try.func20, Try.ntmps20
  go_wp2_with (first | (go_at_call 22; (with_reducible refine (idx_c HR.out HN.out HA.out HALE.out).mono ?_); rintro e_ w1 ⟨rfl, rfl⟩) | (go_at_call 23; (with_reducible refine (del_c HR.out HN.out HL.out H0.out.bel HAL.out HALE.out).mono ?_); rintro e_ w1 ⟨rfl, hq_, hb_, hg_⟩; have H1 := Aside0.mk (H0.out.setrow hb_ hg_ hq_); have HG := Aside0.mk hg_; have HQK := Aside0.mk (del_keep H0.out HR.out hg_ (v := .slice (some ⟨B_, off, none⟩) (a ++ b).length c)); have hb1_ := H0.out.gat hg_; have g3 := (blk_cell hb1_ 3).trans (rfl : _ = some (Value.slice (some ⟨B_, off, none⟩) (a ++ id :: b).length c)); have gf3 := blk_frozen hb1_ 3; have g2 := (blk_cell hb1_ 2).trans (rfl : _ = some (Value.map (some m))); clear hq_ hb_ hg_ hb1_; obtain ⟨n2_, hn2_⟩ : ∃ x_, (a ++ b).length = x_ := ⟨_, rfl⟩; rw [hn2_] at H1 HQK ⊢; have HN2 := Aside0.mk hn2_; clear hn2_; obtain ⟨w2, hdel, hM2, ht2⟩ := VM.drop H1.out.mp Try.underlying47 HK.out 0; have H2 := Aside0.mk (del_fin (H1.out.setm hM2 ht2) HND.out HN.out HBL.out); have HQK2 := Aside0.mk (map_keep H1.out HQK.out ht2); obtain ⟨-, -, -, -, d4, -, df4⟩ := H2.out.cells; clear hM2 ht2))
  go_end0
  exact ⟨rfl, _, H2.out.setsv false, fun k c h => (Below.heap_setCell _ _ _ k (ty_ne (((HQK2.out k c h).trans h)) H2.out.blk (by decide))).trans (HQK2.out k c h)⟩
set_option maxHeartbeats 8000000 in
set_option maxRecDepth 100000 in
theorem leave_more (g m : Nat) (id : Int) (a b : List Int) (vr : Value) (qb : Int → Nat) (ow : Nat → Int) (lim qu : Int) (sv : Bool) (st : List Qu) (ok : Nat → Prop) (w0 W : World) (h : FH w0 W W ok g m vr qb ow lim qu sv (a ++ id :: b) (a ++ id :: b).length (fm (a ++ id :: b) qb) st) (hnd : (a ++ id :: b).Nodup) (ha : id ∉ a) (hk : (Lit.int .i64 id).wf = true) (hl : (a ++ id :: b).length ≤ 1000000) (hz : a.length ≠ 0) :
    Calls Try.prog 20 #[.pointer (some ⟨g, 0, none⟩), .int .i64 id] W fun e w' => e = .returned (.tuple #[]) ∧ ∃ vr', FH w0 W w' ok g m vr' qb ow lim qu sv (a ++ b) (a ++ b).length (fm (a ++ b) qb) st ∧ QKeep W w' := by
  obtain ⟨B_, off, c, cur, rfl, hR⟩ := row_at h.row (by rw [List.length_append, List.length_cons]; omega)
  obtain ⟨c0, c1, c2, c3, c4, f3, f4⟩ := h.cells
  obtain ⟨N_, hN⟩ : ∃ N_, (a ++ id :: b).length = N_ := ⟨_, rfl⟩
  have H0 := Aside0.mk h
  have HR := Aside0.mk hR
  have HN := Aside0.mk hN
  have HND := Aside0.mk hnd
  have HA := Aside0.mk ha
  have HK := Aside0.mk hk
  have HL := Aside0.mk (show N_ ≤ 1000000 by omega)
  have HAL := Aside0.mk (show a.length + 1 ≤ N_ by rw [← hN]; simp)
  have HBL := Aside0.mk (show N_ = a.length + b.length + 1 by rw [← hN]; simp; omega)
  obtain ⟨al, hal⟩ : ∃ x, a.length = x := ⟨_, rfl⟩
  have HALE := Aside0.mk hal
  rw [hN] at c3
  have S4 : wrap64 ((al : Int) + 1) = (al : Int) + 1 := by have h1 := HAL.out; have h2 := HL.out; clear HR H0; unfold wrap64; omega
  have S5 : IntKind.i64.wrap ((al : Int) + 1) = (al : Int) + 1 := (i64_w _).trans S4
  have z1 : ((al : Int) == 0) = false := beq_eq_false_iff_ne.2 (by omega)
  have z2 : decide ((al : Int) = 0) = false := decide_eq_false (by omega)
  have z3 : (al == 0) = false := beq_eq_false_iff_ne.2 (by omega)
  clear h hR hN hnd ha hk hl hal hz
  go_enter Try.func20, Try.ntmps20
  go_wp2_with (first | (go_at_call 22; (with_reducible refine (idx_c HR.out HN.out HA.out HALE.out).mono ?_); rintro e_ w1 ⟨rfl, rfl⟩) | (go_at_call 23; (with_reducible refine (del_c HR.out HN.out HL.out H0.out.bel HAL.out HALE.out).mono ?_); rintro e_ w1 ⟨rfl, hq_, hb_, hg_⟩; have H1 := Aside0.mk (H0.out.setrow hb_ hg_ hq_); have HG := Aside0.mk hg_; have HQK := Aside0.mk (del_keep H0.out HR.out hg_ (v := .slice (some ⟨B_, off, none⟩) (a ++ b).length c)); have hb1_ := H0.out.gat hg_; have g3 := (blk_cell hb1_ 3).trans (rfl : _ = some (Value.slice (some ⟨B_, off, none⟩) (a ++ id :: b).length c)); have gf3 := blk_frozen hb1_ 3; have g2 := (blk_cell hb1_ 2).trans (rfl : _ = some (Value.map (some m))); clear hq_ hb_ hg_ hb1_; obtain ⟨n2_, hn2_⟩ : ∃ x_, (a ++ b).length = x_ := ⟨_, rfl⟩; rw [hn2_] at H1 HQK ⊢; have HN2 := Aside0.mk hn2_; clear hn2_; obtain ⟨w2, hdel, hM2, ht2⟩ := VM.drop H1.out.mp Try.underlying47 HK.out 0; have H2 := Aside0.mk (del_fin (H1.out.setm hM2 ht2) HND.out HN.out HBL.out); have HQK2 := Aside0.mk (map_keep H1.out HQK.out ht2); obtain ⟨-, -, -, -, d4, -, df4⟩ := H2.out.cells; clear hM2 ht2))
  go_end0
  exact ⟨rfl, _, H2.out, HQK2.out⟩
theorem leave_c (g m : Nat) (id : Int) (a b : List Int) (vr : Value) (qb : Int → Nat) (ow : Nat → Int) (lim qu : Int) (sv : Bool) (st : List Qu) (ok : Nat → Prop) (w0 W : World) (h : FH w0 W W ok g m vr qb ow lim qu sv (a ++ id :: b) (a ++ id :: b).length (fm (a ++ id :: b) qb) st) (hnd : (a ++ id :: b).Nodup) (ha : id ∉ a) (hk : (Lit.int .i64 id).wf = true) (hl : (a ++ id :: b).length ≤ 1000000) :
    Calls Try.prog 20 #[.pointer (some ⟨g, 0, none⟩), .int .i64 id] W fun e w' => e = .returned (.tuple #[]) ∧ ∃ vr', FH w0 W w' ok g m vr' qb ow lim qu (if a.length = 0 then false else sv) (a ++ b) (a ++ b).length (fm (a ++ b) qb) st ∧ QKeep W w' := by
  by_cases hz : a.length = 0
  · rw [if_pos hz]; exact leave_zero g m id a b vr qb ow lim qu sv st ok w0 W h hnd ha hk hl hz
  · rw [if_neg hz]; exact leave_more g m id a b vr qb ow lim qu sv st ok w0 W h hnd ha hk hl hz
theorem leave_s (g : Nat) (id : Int) (s : FS) (ok : Nat → Prop) (w0 W : World) (h : FO w0 W W ok g s) (hi : FI s) (hm : id ∈ ids s) (hk : (Lit.int .i64 id).wf = true) (hl : s.st.length ≤ 100000) :
    Calls Try.prog 20 #[.pointer (some ⟨g, 0, none⟩), .int .i64 id] W fun e w' => e = .returned (.tuple #[]) ∧ FO w0 W w' ok g (leaveS s id) ∧ QKeep W w' := by
  obtain ⟨m, vr, qb, ow, h⟩ := h
  obtain ⟨a, b, hab, ha⟩ := split_of hm
  have hnd : (ids s).Nodup := hi.nd
  have hlen : (ids s).length = s.st.length := by unfold ids; rw [List.length_map]
  rw [← hlen, hab] at h
  rw [hab] at hnd hlen
  refine (leave_c g m id a b vr qb ow s.lim s.qu s.sv s.st ok w0 W h hnd ha hk (by omega)).mono ?_
  rintro e w1 ⟨rfl, vr', h1, h2⟩
  obtain ⟨d1, d2, d3⟩ := delQ_split (st := s.st) hab ha
  have hh := headIs_split (st := s.st) hab ha
  refine ⟨rfl, ⟨m, vr', qb, ow, ?_⟩, h2⟩
  have ei : ids (leaveS s id) = a ++ b := d1
  rw [ei]
  have el : (leaveS s id).st.length = (a ++ b).length := by rw [← d1, List.length_map]; rfl
  rw [el]
  have es : (leaveS s id).sv = (if a.length = 0 then false else s.sv) := by
    show (if headIs s.st id = true then false else s.sv) = _
    rw [hh]
    by_cases hz : a.length = 0
    · rw [if_pos hz, if_pos (decide_eq_true hz)]
    · rw [if_neg hz, if_neg (by rw [decide_eq_false hz]; decide)]
  rw [es]
  exact h1.sub d2
set_option maxHeartbeats 8000000 in
set_option maxRecDepth 100000 in
theorem drop_in (g : Nat) (id : Int) (s : FS) (ok : Nat → Prop) (w0 W : World) (h : FO w0 W W ok g s) (hi : FI s) (hk : (Lit.int .i64 id).wf = true) (hl : s.st.length ≤ 100000) (hm : id ∈ ids s) :
    Calls Try.prog 16 #[.pointer (some ⟨g, 0, none⟩), .int .i64 id] W fun e w' => e = .returned (.int .i64 (dropE s id)) ∧ FO w0 W w' ok g (dropS s id) := by
  have e2 : dropS s id = leaveS s id := if_pos hm
  rw [e2]
  have HF := Aside0.mk h
  have HI := Aside0.mk hi
  have HMM := Aside0.mk hm
  have HK := Aside0.mk hk
  have HL := Aside0.mk hl
  obtain ⟨m, vr, qb, ow, hH⟩ := h
  have hlook := VM.lookup_ok hH.mp Try.underlying47 (zeroP W) hk
  obtain ⟨x, hx, rfl⟩ := mem_ids hm
  rw [fm_in hm] at hlook
  dsimp only [Option.getD_some, Option.isSome_some] at hlook
  obtain ⟨v, hv, hvq⟩ := (hH.qs x hx).blk
  obtain ⟨A, c, rfl, hlc⟩ := Kd.Q_slice hvq
  obtain ⟨c0, -, c2, -, -, -, -⟩ := hH.cells
  have hlx := listOf_mem hi.nd hx
  have e1 : dropE s x.id = (x.l.length : Int) := by unfold dropE; rw [hlx]
  rw [e1]
  have HV := Aside0.mk hv
  clear hH hv hvq hlc hlx hx hm hi hl e1 e2 hk
  go_enter Try.func16, Try.ntmps16
  go_wp2_with (first | (go_at_call 20; (with_reducible refine (leave_s g x.id s ok w0 _ HF.out HI.out HMM.out HK.out HL.out).mono ?_); rintro e_ w1 ⟨rfl, hf_, hq_⟩; have H1 := Aside0.mk hf_; have hv_ := (hq_ _ _ HV.out).trans HV.out; have hq0 := (blk_cell hv_ 0).trans (rfl : _ = some (Value.slice A x.l.length c)); clear hf_ hq_ hv_))
  go_ret
  exact ⟨rfl, H1.out⟩
set_option maxHeartbeats 8000000 in
set_option maxRecDepth 100000 in
theorem drop_out (g : Nat) (id : Int) (s : FS) (ok : Nat → Prop) (w0 W : World) (h : FO w0 W W ok g s) (hi : FI s) (hk : (Lit.int .i64 id).wf = true) (hl : s.st.length ≤ 100000) (hm : id ∉ ids s) :
    Calls Try.prog 16 #[.pointer (some ⟨g, 0, none⟩), .int .i64 id] W fun e w' => e = .returned (.int .i64 (dropE s id)) ∧ FO w0 W w' ok g (dropS s id) := by
  have e2 : dropS s id = s := if_neg hm
  rw [e2]
  have HF := Aside0.mk h
  obtain ⟨m, vr, qb, ow, hH⟩ := h
  have hlook := VM.lookup_ok hH.mp Try.underlying47 (zeroP W) hk
  rw [fm_out hm] at hlook
  dsimp only [Option.getD_none, Option.isSome_none] at hlook
  obtain ⟨c0, -, c2, -, -, -, -⟩ := hH.cells
  have e1 : dropE s id = 0 := by unfold dropE; rw [listOf_none (not_ids hm)]; rfl
  rw [e1]
  clear hH hm hi hl e1 e2 hk
  go_enter Try.func16, Try.ntmps16
  go_wp2_with (fail)
  go_ret
  exact ⟨rfl, HF.out⟩
theorem drop_c (g : Nat) (id : Int) (s : FS) (ok : Nat → Prop) (w0 W : World) (h : FO w0 W W ok g s) (hi : FI s) (hk : (Lit.int .i64 id).wf = true) (hl : s.st.length ≤ 100000) :
    Calls Try.prog 16 #[.pointer (some ⟨g, 0, none⟩), .int .i64 id] W fun e w' => e = .returned (.int .i64 (dropE s id)) ∧ FO w0 W w' ok g (dropS s id) := by
  by_cases hm : id ∈ ids s
  · exact drop_in g id s ok w0 W h hi hk hl hm
  · exact drop_out g id s ok w0 W h hi hk hl hm
end Go.Proofs.Ytcieopcihbgfdaa.Fq
