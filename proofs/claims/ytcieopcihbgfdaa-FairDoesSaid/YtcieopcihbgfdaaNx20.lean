/- Layer 20: Next. gen/mk_q20c.py writes this text. -/
import Derived.Test.YtcieopcihbgfdaaLv20
namespace Go.Proofs.Ytcieopcihbgfdaa.Fq
open Go.RowKit Go.Proofs.YtcieopcihbgfdaaW.PrintWords Go.Proofs.YtcieopcihbgfdaaW.PrintLast Go.Proofs.YtcieopcihbgfdaaW.PrintMore Go.Proofs.Ytcieopcihbgfdaa.PFairDoes Go.Proofs.Ytcieopcihbgfdaa Go.Proofs.Ytcieopcihbgfdaa.Fair
set_option linter.unusedVariables false
set_option linter.unusedSimpArgs false
/-- The least number of which P holds. -/
theorem has_least {P : Nat → Prop} (n : Nat) : P n → ∃ k, P k ∧ ∀ j, P j → k ≤ j := by
  induction n using Nat.strongRecOn with
  | _ n ih =>
    intro h
    by_cases hx : ∃ j, j < n ∧ P j
    · obtain ⟨j, hj, hp⟩ := hx
      exact ih j hj hp
    · exact ⟨n, h, fun j hp => Nat.le_of_not_lt (fun hl => hx ⟨j, hl, hp⟩)⟩
open Classical in
noncomputable def least (P : Nat → Prop) : Nat := if h : ∃ k, P k ∧ ∀ j, P j → k ≤ j then h.choose else 0
theorem least_spec {P : Nat → Prop} {n : Nat} (h : P n) : P (least P) ∧ ∀ j, P j → least P ≤ j := by
  have h1 := has_least n h
  unfold least
  rw [dif_pos h1]
  exact h1.choose_spec
theorem size_of_info {P : Program} {e : TypeId} {z : Option Value} {b : Nat} (h : (P.info? e).map (fun i => (i.zero, i.size, i.bytes)) = some (z, 1, b)) : ∃ i, P.info? e = some i ∧ i.size = 1 := by
  cases hi : P.info? e with
  | none => rw [hi] at h; cases h
  | some i =>
    rw [hi] at h
    injection h with h
    injection h with _ h
    injection h with h _
    exact ⟨i, rfl, h⟩
theorem cut_q {α : Type} (d : Kd α) {t e : TypeId} {z : Option Value} {by_ : Nat} (ht : Try.prog.underlying t = some (.slice e)) (hi : (Try.prog.info? e).map (fun i => (i.zero, i.size, i.bytes)) = some (z, 1, by_)) (hsz : d.sz = 1) (A : Option Addr) {n n1 : Nat} (c : Nat) (hn : n + 1 = n1) :
    ∃ A' c', (∀ W : World, (Instr.slice t (.slice A n1 c) (some (.int .i64 1)) none none).run Try.prog W = .ok (.slice A' n c') W) ∧ (Value.slice A' n c').ownBlock = (Value.slice A n1 c).ownBlock ∧ ∀ (w : World) (B : Nat) (ok : Nat → Prop) (x : α) (xs : List α), d.Q e w B ok (.slice A n1 c) (x :: xs) → d.Q e w B ok (.slice A' n c') xs := by
  subst hn
  obtain ⟨i, h1, h2⟩ := size_of_info hi
  refine ⟨_, _, cut_from t e .i64 ht h1 1 h2 A (n + 1) c 1 (by omega) (by omega), ?_, fun w B ok x xs h => ?_⟩
  · split
    · cases A <;> rfl
    · cases A <;> rfl
  · have h3 := Kd.Q_drop (k := 1) h (by simp)
    rw [hsz] at h3
    exact h3
theorem str_enc {e B : Nat} {w : World} {ok : Nat → Prop} {v : Value} {xs : List ByteArray} (h : Kd.string.Q e w B ok v xs) (hn : 0 < xs.length) : ∃ b off c, v = .slice (some ⟨b, off, none⟩) xs.length c ∧ w.cell? ⟨b, off, none⟩ = some (.string (Fair.hd xs)) := by
  obtain ⟨h0, inner, ho, hr⟩ := h
  have hi : inner[0]? = some (.string (Fair.hd xs)) := by
    have hlen : inner.length = xs.length := by have := hr.1; simpa [Kd.string, Kd.scalar] using this
    have h2 := hr.2 0 _ (List.getElem?_eq_getElem hn)
    have h3 : (inner.drop (0 * 1)).take 1 = [Value.string xs[0]] := h2
    have hl : 0 < inner.length := by omega
    rw [Nat.zero_mul, List.drop_eq_getElem_cons hl] at h3
    have h5 := congrArg List.head? h3
    rw [List.take_succ_cons] at h5
    have h4 : inner[0] = Value.string xs[0] := Option.some.inj h5
    rw [List.getElem?_eq_getElem hl, h4]
    cases xs with
    | nil => simp at hn
    | cons a r => rfl
  rcases ho.2 with ⟨h0, _⟩ | ⟨g, off, cap, cur, hv, hg, hh, hnc, hm, hcs, ht⟩
  · omega
  · rw [show off * Kd.string.sz = off from Nat.mul_one _] at hv ht
    refine ⟨g, off, cap, hv, ?_⟩
    rw [← ht, List.getElem?_take, List.getElem?_drop] at hi
    split at hi
    · rw [cell_of_row w g _ cur e (0, 0) hh, ← Array.getElem?_toList]
      simpa using hi
    · cases hi
structure NextR (w0 W : World) (ok : Nat → Prop) (g : Nat) (s : FS) (wr : World) (u : FS) : Prop where
  fo : FO w0 W wr ok g u
  fi : FI u
  nx : nextV u = nextV s
  len : u.st.length ≤ 100000
noncomputable def left (w0 W : World) (ok : Nat → Prop) (g : Nat) (s : FS) (wr : World) : Nat := least (fun n => ∃ u, mu u = n ∧ NextR w0 W ok g s wr u)
theorem left_at {w0 W wr : World} {ok : Nat → Prop} {g : Nat} {s u : FS} (h : NextR w0 W ok g s wr u) : ∃ u, NextR w0 W ok g s wr u ∧ left w0 W ok g s wr = mu u := by
  obtain ⟨⟨u', e, h'⟩, _⟩ := least_spec (P := fun n => ∃ u, mu u = n ∧ NextR w0 W ok g s wr u) ⟨u, rfl, h⟩
  exact ⟨u', h', e.symm⟩
theorem left_le {w0 W wr : World} {ok : Nat → Prop} {g : Nat} {s u : FS} (h : NextR w0 W ok g s wr u) : left w0 W ok g s wr ≤ mu u := (least_spec (P := fun n => ∃ u, mu u = n ∧ NextR w0 W ok g s wr u) ⟨u, rfl, h⟩).2 _ ⟨u, rfl, h⟩
theorem fm_same {l l' : List Int} {qb : Int → Nat} (h : ∀ k, k ∈ l ↔ k ∈ l') : fm l qb = fm l' qb := by
  funext k
  by_cases hk : k ∈ l
  · rw [fm_in hk, fm_in ((h k).1 hk)]
  · rw [fm_out hk, fm_out (fun h2 => hk ((h k).2 h2))]
theorem not_ids_tail {s : FS} {x : Qu} {r : List Qu} (h : s.st = x :: r) (hi : FI s) : ∀ y ∈ r, y.id ≠ x.id := by
  have hnd := hi.nd
  unfold ids at hnd
  rw [h, List.map_cons, List.nodup_cons] at hnd
  exact fun y hy e => hnd.1 (List.mem_map.2 ⟨y, hy, e⟩)
section
variable {w0 W w w1 : World} {ok0 : Nat → Prop} {g m : Nat} {vr : Value} {qb : Int → Nat} {ow : Nat → Int} {lim qu : Int} {sv : Bool} {rd : List Int} {n : Nat} {f : Int → Option Value} {st : List Qu}
/-- The deficit of the first is stored. -/
theorem FH.setd {x : Qu} {r : List Qu} (h : FH w0 W w ok0 g m vr qb ow lim qu sv rd n f (x :: r)) (hne : ∀ y ∈ r, y.id ≠ x.id) (d : Int) : FH w0 W (w.setCell ⟨qb x.id, 1, none⟩ (.int .i64 d)) ok0 g m vr qb ow lim qu sv rd n f (⟨x.id, x.l, d⟩ :: r) := by
  obtain ⟨v, hb, hq⟩ := (h.qs x List.mem_cons_self).blk
  exact h.setq List.mem_cons_self hb hq h.bel ⟨rfl, rfl, rfl, Nat.le_refl _, fun _ _ _ => rfl⟩ (j := 1) rfl (fun _ _ => rfl) hq (fun y hy => by
    rcases List.mem_cons.1 hy with rfl | hy
    · exact .inl rfl
    · exact .inr ⟨List.mem_cons_of_mem _ hy, hne y hy⟩)
/-- The row of the first is cut, and stored. -/
theorem FH.setl {x : Qu} {r : List Qu} (h : FH w0 W w ok0 g m vr qb ow lim qu sv rd n f (x :: r)) (hne : ∀ y ∈ r, y.id ≠ x.id) {v v1 : Value} (hb : w.heap[qb x.id]? = some (.cells #[v, .int .i64 x.d] 54 (0, 0))) {l1 : List ByteArray} (hQ : ∀ (B : Nat) (ok : Nat → Prop), Kd.string.Q 9 w B ok v x.l → Kd.string.Q 9 w B ok v1 l1) : FH w0 W (w.setCell ⟨qb x.id, 0, none⟩ v1) ok0 g m vr qb ow lim qu sv rd n f (⟨x.id, l1, x.d⟩ :: r) := by
  obtain ⟨v', hb', hq⟩ := (h.qs x List.mem_cons_self).blk
  have e := hb.symm.trans hb'
  injection e with e
  injection e with e
  obtain rfl : v = v' := by injection e with e; injection e
  exact h.setq List.mem_cons_self hb hq h.bel ⟨rfl, rfl, rfl, Nat.le_refl _, fun _ _ _ => rfl⟩ (j := 0) rfl (fun _ _ => rfl) (hQ _ _ hq) (fun y hy => by
    rcases List.mem_cons.1 hy with rfl | hy
    · exact .inl rfl
    · exact .inr ⟨List.mem_cons_of_mem _ hy, hne y hy⟩)
theorem FH.drewn (h : FH w0 W w ok0 g m vr qb ow lim qu sv rd n f st) (q : Nat) : FH w0 W (w.drewN q) ok0 g m vr qb ow lim qu sv rd n f st := h.below (pw_below_drewN (Below.refl _ _) q)
end
theorem hd_tail {l : List ByteArray} (h : 0 < l.length) : Fair.hd l :: l.tail = l := by
  cases l with
  | nil => simp at h
  | cons a l => rfl
theorem FH.take {w0 W w : World} {ok0 : Nat → Prop} {g m : Nat} {vr : Value} {qb : Int → Nat} {ow : Nat → Int} {lim qu : Int} {sv : Bool} {rd : List Int} {n : Nat} {f : Int → Option Value} {i D : Int} {l : List ByteArray} {r : List Qu} (h : FH w0 W w ok0 g m vr qb ow lim qu sv rd n f (⟨i, l, D⟩ :: r)) (hne : ∀ y ∈ r, y.id ≠ i) {v v1 : Value} (hv : w.heap[qb i]? = some (.cells #[v, .int .i64 D] 54 (0, 0))) (hQ : ∀ (w : World) (B : Nat) (ok : Nat → Prop) (x : ByteArray) (xs : List ByteArray), Kd.string.Q 9 w B ok v (x :: xs) → Kd.string.Q 9 w B ok v1 xs) (hl : 0 < l.length) (e : Int) :
    FH w0 W (((w.setCell ⟨qb i, 1, none⟩ (.int .i64 e)).setCell ⟨qb i, 0, none⟩ v1).setCell ⟨g, 4, none⟩ (.bool true)) ok0 g m vr qb ow lim qu true rd n f (⟨i, l.tail, e⟩ :: r) := by
  have h1 := h.setd hne e
  have hv1 := blk_set hv 1 (.int .i64 e)
  exact (h1.setl hne hv1 (l1 := l.tail) (fun B ok hq => hQ _ B ok (Fair.hd l) l.tail (by rw [hd_tail hl]; exact hq))).setsv true
theorem take_eq {w0 W w1 : World} {ok : Nat → Prop} {g : Nat} {s u : FS} {x : Qu} {r : List Qu} {D : Int} (hu : NextR w0 W ok g s w1 u) (hs : u.st = x :: r) (hd : Fair.due u x = D) (hw : ((Fair.hd x.l).size : Int) ≤ D) : nextV s = ((x.id, Fair.hd x.l, true), takeS u x r) := by
  subst hd
  rw [← hu.nx, nextV_take hs (by omega)]
theorem takeS_one {u : FS} {x : Qu} {r : List Qu} (h : x.l.length ≤ 1) : takeS u x r = ⟨u.lim, u.qu, r, false⟩ := if_pos h
theorem takeS_more {u : FS} {x : Qu} {r : List Qu} (h : ¬ x.l.length ≤ 1) : takeS u x r = ⟨u.lim, u.qu, ⟨x.id, x.l.tail, Fair.due u x - ((Fair.hd x.l).size : Int)⟩ :: r, true⟩ := if_neg h
theorem take_fo {w0 W w : World} {ok : Nat → Prop} {g m : Nat} {vr : Value} {qb : Int → Nat} {ow : Nat → Int} {u : FS} {x : Qu} {r : List Qu} {R N1 : Nat} {D : Int} {t : ByteArray} (h : FH w0 W w ok g m vr qb ow u.lim u.qu true (x.id :: r.map (·.id)) N1 (fm (x.id :: r.map (·.id)) qb) (⟨x.id, x.l.tail, D - (t.size : Int)⟩ :: r)) (ht : Fair.hd x.l = t) (hR : (r.map (·.id)).length = R) (hN : R + 1 = N1) :
    FH w0 W w ok g m vr qb ow (⟨u.lim, u.qu, ⟨x.id, x.l.tail, D - ((Fair.hd x.l).size : Int)⟩ :: r, true⟩ : FS).lim (⟨u.lim, u.qu, ⟨x.id, x.l.tail, D - ((Fair.hd x.l).size : Int)⟩ :: r, true⟩ : FS).qu (⟨u.lim, u.qu, ⟨x.id, x.l.tail, D - ((Fair.hd x.l).size : Int)⟩ :: r, true⟩ : FS).sv (ids ⟨u.lim, u.qu, ⟨x.id, x.l.tail, D - ((Fair.hd x.l).size : Int)⟩ :: r, true⟩) (⟨u.lim, u.qu, ⟨x.id, x.l.tail, D - ((Fair.hd x.l).size : Int)⟩ :: r, true⟩ : FS).st.length (fm (ids ⟨u.lim, u.qu, ⟨x.id, x.l.tail, D - ((Fair.hd x.l).size : Int)⟩ :: r, true⟩) qb) (⟨u.lim, u.qu, ⟨x.id, x.l.tail, D - ((Fair.hd x.l).size : Int)⟩ :: r, true⟩ : FS).st := by
  subst ht
  have e : (⟨x.id, x.l.tail, D - ((Fair.hd x.l).size : Int)⟩ :: r : List Qu).length = N1 := by rw [← hN, ← hR]; simp
  show FH _ _ _ _ _ _ _ _ _ _ _ _ _ (⟨x.id, x.l.tail, D - ((Fair.hd x.l).size : Int)⟩ :: r : List Qu).length _ _
  rw [e]
  exact h
theorem lv_c {w0 W w : World} {ok : Nat → Prop} {g m : Nat} {vr : Value} {qb : Int → Nat} {ow : Nat → Int} {lim qu : Int} {sv : Bool} {id : Int} {R N1 : Nat} {y : Qu} {r : List Qu} (h : FH w0 W w ok g m vr qb ow lim qu sv (id :: r.map (·.id)) N1 (fm (id :: r.map (·.id)) qb) (y :: r)) (hR : (r.map (·.id)).length = R) (hN : R + 1 = N1) (hnd : (id :: r.map (·.id)).Nodup) (hk : (Lit.int .i64 id).wf = true) (hl : N1 ≤ 100000) :
    Calls Try.prog 20 #[.pointer (some ⟨g, 0, none⟩), .int .i64 id] w fun e w' => e = .returned (.tuple #[]) ∧ FO w0 W w' ok g ⟨lim, qu, r, false⟩ := by
  subst hR
  subst hN
  refine (leave_c g m id [] (r.map (fun y : Qu => y.id)) vr qb ow lim qu sv (y :: r) _ w0 w h.again hnd (by simp) hk (by simp only [List.nil_append, List.length_cons]; omega)).mono ?_
  rintro e w1 ⟨rfl, vr', h1, _⟩
  refine ⟨rfl, m, vr', qb, ow, ?_⟩
  have h2 := (h1.back h.keep).sub (st1 := r) (fun z hz => List.mem_cons_of_mem _ hz)
  have e1 : (r.map (·.id)).length = r.length := by simp
  rw [List.nil_append, e1] at h2
  exact h2
theorem wrap_sub {D : Int} {t : ByteArray} (h : 0 ≤ D ∧ D ≤ 1114111) (ht : t.size ≤ 65535) : wrap64 (D - (t.size : Int)) = D - (t.size : Int) := by unfold wrap64; omega
theorem wait_fin {w0 W w w1 : World} {ok : Nat → Prop} {g m : Nat} {vr : Value} {qb : Int → Nat} {ow : Nat → Int} {s u : FS} {x : Qu} {r : List Qu} {sv : Bool} {R N1 : Nat} {D : Int} (h : FH w0 W w ok g m vr qb ow u.lim u.qu sv (r.map (·.id) ++ [x.id]) N1 (fm (x.id :: r.map (·.id)) qb) (⟨x.id, x.l, D⟩ :: r)) (hs : u.st = x :: r) (hi : FI u) (hd : Fair.due u x = D) (hu : NextR w0 W ok g s w1 u) (hw : D < ((Fair.hd x.l).size : Int)) (hR : (r.map (·.id)).length = R) (hN : R + 1 = N1) : NextR w0 W ok g s (w.setCell ⟨g, 4, none⟩ (.bool false)) (waitS u x r) := by
  subst hd
  refine ⟨⟨m, vr, qb, ow, ?_⟩, hi.wait hs hw, (nextV_wait hs hi.q0 hw).symm.trans hu.nx, ?_⟩
  · have h1 := (h.setsv false).sub (st1 := (waitS u x r).st) (fun y hy => by
      rcases List.mem_append.1 hy with hy | hy
      · exact List.mem_cons_of_mem _ hy
      · rw [List.mem_singleton.1 hy]; exact List.mem_cons_self)
    rw [ids_wait]
    rw [fm_same (l' := r.map (·.id) ++ [x.id]) (fun k => by simp [or_comm])] at h1
    have el : (waitS u x r).st.length = N1 := by rw [← hN, ← hR]; simp [waitS]
    rw [el]
    exact h1
  · have := hu.len
    rw [hs] at this
    simpa [waitS] using this
theorem wait_less {w0 W w w1 : World} {ok : Nat → Prop} {g : Nat} {s u : FS} {x : Qu} {r : List Qu} {D : Int} (h : NextR w0 W ok g s w (waitS u x r)) (hs : u.st = x :: r) (hi : FI u) (hd : Fair.due u x = D) (hw : D < ((Fair.hd x.l).size : Int)) (hm : left w0 W ok g s w1 = mu u) : left w0 W ok g s w < left w0 W ok g s w1 := by
  subst hd
  rw [hm]
  exact Nat.lt_of_le_of_lt (left_le h) (mu_wait hs hi.q0 hw)
set_option maxHeartbeats 8000000 in
set_option maxRecDepth 100000 in
theorem next_c (g : Nat) (s : FS) (ok : Nat → Prop) (w0 W : World) (h : FO w0 W W ok g s) (hi : FI s) (hl : s.st.length ≤ 100000) :
    Calls Try.prog 11 #[.pointer (some ⟨g, 0, none⟩)] W fun e w' => e = .returned (.tuple #[.int .i64 (nextV s).1.1, .string (nextV s).1.2.1, .bool (nextV s).1.2.2]) ∧ FO w0 W w' ok g (nextV s).2 := by
  have HU0 := Aside0.mk (show NextR w0 W ok g s W s from ⟨h, hi, rfl, hl⟩)
  clear h hi hl
  go_enter Try.func11, Try.ntmps11
  go_wp2_with (fail)
  go_loopw [5] (fun v5 wr => ∃ u, Aside0 (NextR w0 W ok g s wr u)) (fun _ wr => left w0 W ok g s wr)
  case atStart => exact ⟨s, HU0⟩
  case round =>
    clear HU0
    obtain ⟨u0, HR0⟩ := hrel
    obtain ⟨u, hu, hm⟩ := left_at HR0.out
    have HU := Aside0.mk hu
    have HM := Aside0.mk hm
    clear hu hm HR0
    obtain ⟨m, vr, qb, ow, hH⟩ := HU.out.fo
    cases hst : u.st with
    | nil =>
      have hids : ids u = [] := by unfold ids; rw [hst]; rfl
      rw [hids] at hH
      obtain ⟨Ar, cr, rfl, -⟩ := Kd.Q_slice hH.row
      obtain ⟨-, -, -, c3, -, -, -⟩ := hH.cells
      have HE := Aside0.mk (nextV_none hst)
      have HNX := Aside0.mk HU.out.nx
      clear hids hst hH
      go_wp2_with (fail)
      go_ret3
      rw [← HNX.out, HE.out]
      exact ⟨rfl, HU.out.fo⟩
    | cons x r =>
      have HS := Aside0.mk hst
      have HI := Aside0.mk HU.out.fi
      have hids : ids u = x.id :: r.map (·.id) := by unfold ids; rw [hst]; rfl
      have hmem : x ∈ u.st := by rw [hst]; exact List.mem_cons_self
      have HX := Aside0.mk (HI.out.q x hmem)
      have HPOS := Aside0.mk (show 0 < x.l.length from HX.out.pos)
      have hk := HX.out.k
      have HNE := Aside0.mk (not_ids_tail hst HI.out)
      have HND := Aside0.mk (show (x.id :: r.map (·.id)).Nodup by rw [← hids]; exact HI.out.nd)
      rw [hids] at hH
      obtain ⟨br, orr, cr, curr, rfl, hR⟩ := row_at hH.row (by simp)
      have r0 := hR.cell 0 (by simp)
      rw [Nat.add_zero] at r0
      change wr.cell? ⟨br, orr, none⟩ = some (.int .i64 x.id) at r0
      obtain ⟨R, hRl⟩ : ∃ R, (r.map (·.id)).length = R := ⟨_, rfl⟩
      obtain ⟨N1, hN1⟩ : ∃ N1, R + 1 = N1 := ⟨_, rfl⟩
      have HN1 := Aside0.mk hN1
      have hlen : (x.id :: r.map (·.id)).length = N1 := by rw [List.length_cons, hRl, hN1]
      have hlen2 : (x :: r).length = N1 := by rw [← hN1, ← hRl]; simp
      have HRL := Aside0.mk hRl
      have HL := Aside0.mk (show N1 ≤ 100000 by rw [← hlen, ← hids]; unfold ids; rw [List.length_map]; exact HU.out.len)
      rw [hlen, hst, hlen2] at hH
      have hlook := VM.lookup hH.mp Try.underlying47 (zeroP wr) hk
      rw [fm_in List.mem_cons_self] at hlook
      dsimp only [Option.getD_some] at hlook
      obtain ⟨v0, hv0, -⟩ := (hH.qs x List.mem_cons_self).blk
      obtain ⟨c0, c1, c2, c3, c4, cf3, cf4⟩ := hH.cells
      have p1 := (blk_cell hv0 1).trans (rfl : _ = some (Value.int .i64 x.d))
      have pf1 := blk_frozen hv0 1
      have HH := Aside0.mk hH
      obtain ⟨D, hD⟩ : ∃ D, Fair.due u x = D := ⟨_, rfl⟩
      obtain ⟨t, ht⟩ : ∃ t, Fair.hd x.l = t := ⟨_, rfl⟩
      have HT0 := Aside0.mk ht
      have HD := Aside0.mk hD
      have hdl := due_le hst HI.out
      rw [hD] at hdl
      have HDB := Aside0.mk hdl
      have HTB := Aside0.mk (show t.size ≤ 65535 by rw [← ht]; exact HX.out.hd)
      have z0 : decide ((N1 : Int) > 0) = true := decide_eq_true (by omega)
      have z0a : decide ((0 : Int) < (N1 : Int)) = true := z0
      have z0b : decide (0 < N1) = true := decide_eq_true (by omega)
      have z0c : (0 < N1) = True := eq_true (by omega)
      cases hsv : u.sv with
      | true =>
        rw [hsv] at hH c4
        have HT := Aside0.mk (show FH w0 W wr ok g m _ qb ow u.lim u.qu true (x.id :: r.map (·.id)) N1 (fm (x.id :: r.map (·.id)) qb) (⟨x.id, x.l, D⟩ :: r) by have e_ : (⟨x.id, x.l, D⟩ : Qu) = x := (by rw [← hD, show Fair.due u x = x.d by unfold Fair.due; rw [hsv, if_pos rfl]]); rw [e_]; exact hH)
        have HSV := Aside0.mk hsv
        clear hids hmem hk hR hH hD ht hdl hsv hlen hRl hst hv0 hN1 hlen2 c0 c1 p1 pf1
        have HT1 := HT.out
        obtain ⟨vq, hv, hvq⟩ := (HT1.qs _ List.mem_cons_self).blk
        obtain ⟨bq, oq, cq, hvq2, hcq⟩ := str_enc hvq HPOS.out
        dsimp only at hv hvq hvq2 hcq
        subst hvq2
        rw [HT0.out] at hcq
        have q0 := (blk_cell hv 0).trans (rfl : _ = some (Value.slice (some ⟨bq, oq, none⟩) x.l.length cq))
        have q1 := (blk_cell hv 1).trans (rfl : _ = some (Value.int .i64 D))
        have qf0 := blk_frozen hv 0
        have qf1 := blk_frozen hv 1
        obtain ⟨-, -, h2_, h3_, h4_, hf3_, hf4_⟩ := HT1.cells
        obtain ⟨N, hN⟩ : ∃ N, N + 1 = x.l.length := ⟨x.l.length - 1, by have := HPOS.out; omega⟩
        obtain ⟨M1, hM1⟩ : ∃ M1, x.l.length = M1 := ⟨_, rfl⟩
        have HML := Aside0.mk hM1
        rw [hM1] at hN hv
        have HV := Aside0.mk hv
        have HM1 := Aside0.mk hN
        rw [hM1] at q0
        have y0 : decide ((0 : Int) < (M1 : Int)) = true := decide_eq_true (by omega)
        have y0b : decide (0 < M1) = true := decide_eq_true (by omega)
        have y0c : (0 < M1) = True := eq_true (by omega)
        clear hvq hv HT1 hN hM1
        by_cases hw : D < ((Fair.hd x.l).size : Int)
        · have HW := Aside0.mk hw
          rw [HT0.out] at hw
          have S1 : decide ((t.size : Int) > D) = true := decide_eq_true hw
          have S2 : decide (D < (t.size : Int)) = true := S1
          obtain ⟨A2, ca, hcut, hob, hcq2⟩ := cut_q (Kd.int .i64) (t := 48) (e := 2) Try.underlying48 infoI rfl (some ⟨br, orr, none⟩) cr HN1.out
          have HOB := Aside0.mk hob
          have HCQ := Aside0.mk (hcq2 _ _ _ _ _ HT.out.row)
          clear hob hcq2 hw
          go_wp2_with ((with_reducible refine gate_builtin (b := .append) (xs := #[.tmp 60, .tmp 62]) rfl ?_); at_builtin; refine Kd.Q_append (Kd.int .i64) (w0 := w0) w0.heap.size rfl (.tmp 60) (.tmp 62) 48 2 (.int .i64 0) 8 rfl Try.underlying48 infoI rfl (by decide) (by decide) (.slice A2 R ca) (r.map (·.id)) x.id [.int .i64 x.id] (fun k => ok k ∨ W.heap.size ≤ k) (fun _ => False) rfl rfl ?aP (fun _ hk_ => hk_.elim) ?aF HCQ.out HT.out.bel ?aS ?aL ?_; (case aP => rfl); (case aF => exact fun k_ hk_ => .inr (Nat.le_trans HT.out.keep.1 hk_)); (case aS => exact HT.out.bel.size); (case aL => have := HL.out; have := HN1.out; have := HRL.out; omega); intro v1 w3 hQ_ hB_ hg_ hat_; rw [HOB.out] at hg_; obtain ⟨A1_, c1_, hv1_, -⟩ := Kd.Q_slice hQ_; obtain ⟨n1_, hn1_⟩ : ∃ n_, (r.map (·.id) ++ [x.id]).length = n_ := ⟨_, rfl⟩; rw [hn1_] at hv1_; subst hv1_; have hb1_ := HT.out.gat hg_; have gf3 := blk_frozen hb1_ 3; have gf4 := blk_frozen hb1_ 4; have g3 := (blk_cell hb1_ 3).trans (rfl : _ = some (Value.slice (some ⟨br, orr, none⟩) N1 cr)); have g4 := (blk_cell hb1_ 4).trans (rfl : _ = some (Value.bool true)); have H3 := Aside0.mk (HT.out.setrow hB_ hg_ hQ_); clear hQ_ hB_ hg_ hat_ hb1_ hn1_)
          go_roundw
          case rel => exact ⟨waitS u x r, ⟨wait_fin H3.out HS.out HI.out HD.out HU.out HW.out HRL.out HN1.out⟩⟩
          case measure => exact wait_less (wait_fin H3.out HS.out HI.out HD.out HU.out HW.out HRL.out HN1.out) HS.out HI.out HD.out HW.out HM.out
        · have HW := Aside0.mk hw
          rw [HT0.out] at hw
          have S1 : decide ((t.size : Int) > D) = false := decide_eq_false hw
          have S2 : decide (D < (t.size : Int)) = false := S1
          obtain ⟨A2, ca, hcut, hob, hcq2⟩ := cut_q Kd.string (t := 34) (e := 9) Try.underlying34 infoS rfl (some ⟨bq, oq, none⟩) cq HM1.out
          have HTK := Aside0.mk (HT.out.take HNE.out HV.out (fun w B ok t xs => hcq2 w B ok t xs) HPOS.out (D - (t.size : Int)))
          have W2 : wrap64 (D - (t.size : Int)) = D - (t.size : Int) := wrap_sub HDB.out HTB.out
          have W3 : IntKind.i64.wrap (D - (t.size : Int)) = D - (t.size : Int) := (i64_w _).trans W2
          clear hob hcq2 hw
          by_cases hz : N = 0
          · have HZ := Aside0.mk hz
            subst hz
            go_wp2_with (go_at_call 20; (with_reducible refine (lv_c HTK.out HRL.out HN1.out HND.out HX.out.k HL.out).mono ?_); rintro e_ w9 ⟨rfl, hf_⟩; have H9 := Aside0.mk hf_; clear hf_)
            go_ret3
            rw [take_eq HU.out HS.out HD.out HW.out, takeS_one (by have := HML.out; have := HM1.out; omega)]
            refine ⟨?_, H9.out⟩
            rw [HT0.out]
            rfl
          · have z1 : ((N : Int) == 0) = false := beq_eq_false_iff_ne.2 (by omega)
            have z2 : (N == 0) = false := beq_eq_false_iff_ne.2 (by omega)
            have z3 : decide (N = 0) = false := decide_eq_false hz
            have HZ := Aside0.mk hz
            clear hz
            go_wp2_with (fail)
            go_ret3
            rw [take_eq HU.out HS.out HD.out HW.out, takeS_more (by have := HML.out; have := HM1.out; have := HZ.out; omega), HD.out]
            refine ⟨?_, _, _, _, _, take_fo HTK.out HT0.out HRL.out HN1.out⟩
            rw [HT0.out]
            rfl
      | false =>
        rw [hsv] at hH c4
        have hdq : x.d + u.qu = D := by rw [← hD]; unfold Fair.due; rw [hsv]; rfl
        have w1 : wrap64 (x.d + u.qu) = D := by rw [hdq]; have h1_ := hdl; clear hH hlook; unfold wrap64; omega
        have w2 : IntKind.i64.wrap (x.d + u.qu) = D := (i64_w _).trans w1
        have HSV := Aside0.mk hsv
        have HH := Aside0.mk hH
        clear hids hmem hk hR hH hD ht hdl hsv hlen hRl hst hv0 hN1 hlen2 c0 hdq
        go_wp2_with (fail)
        go_region
        simp only [Exit.then]
        have hT := (HH.out.setd HNE.out D).below (below_drew (Below.refl _ _))
        generalize (wr.setCell ⟨qb x.id, 1, none⟩ (.int .i64 D)).drew = wt at hT ⊢
        have HT := Aside0.mk hT
        clear hT r0 hlook c1 c2 c3 c4 cf3 cf4 p1 pf1 w1 w2
        have HT1 := HT.out
        obtain ⟨vq, hv, hvq⟩ := (HT1.qs _ List.mem_cons_self).blk
        obtain ⟨bq, oq, cq, hvq2, hcq⟩ := str_enc hvq HPOS.out
        dsimp only at hv hvq hvq2 hcq
        subst hvq2
        rw [HT0.out] at hcq
        have q0 := (blk_cell hv 0).trans (rfl : _ = some (Value.slice (some ⟨bq, oq, none⟩) x.l.length cq))
        have q1 := (blk_cell hv 1).trans (rfl : _ = some (Value.int .i64 D))
        have qf0 := blk_frozen hv 0
        have qf1 := blk_frozen hv 1
        obtain ⟨-, -, h2_, h3_, h4_, hf3_, hf4_⟩ := HT1.cells
        obtain ⟨N, hN⟩ : ∃ N, N + 1 = x.l.length := ⟨x.l.length - 1, by have := HPOS.out; omega⟩
        obtain ⟨M1, hM1⟩ : ∃ M1, x.l.length = M1 := ⟨_, rfl⟩
        have HML := Aside0.mk hM1
        rw [hM1] at hN hv
        have HV := Aside0.mk hv
        have HM1 := Aside0.mk hN
        rw [hM1] at q0
        have y0 : decide ((0 : Int) < (M1 : Int)) = true := decide_eq_true (by omega)
        have y0b : decide (0 < M1) = true := decide_eq_true (by omega)
        have y0c : (0 < M1) = True := eq_true (by omega)
        clear hvq hv HT1 hN hM1
        by_cases hw : D < ((Fair.hd x.l).size : Int)
        · have HW := Aside0.mk hw
          rw [HT0.out] at hw
          have S1 : decide ((t.size : Int) > D) = true := decide_eq_true hw
          have S2 : decide (D < (t.size : Int)) = true := S1
          obtain ⟨A2, ca, hcut, hob, hcq2⟩ := cut_q (Kd.int .i64) (t := 48) (e := 2) Try.underlying48 infoI rfl (some ⟨br, orr, none⟩) cr HN1.out
          have HOB := Aside0.mk hob
          have HCQ := Aside0.mk (hcq2 _ _ _ _ _ HT.out.row)
          clear hob hcq2 hw
          go_wp2_with ((with_reducible refine gate_builtin (b := .append) (xs := #[.tmp 60, .tmp 62]) rfl ?_); at_builtin; refine Kd.Q_append (Kd.int .i64) (w0 := w0) w0.heap.size rfl (.tmp 60) (.tmp 62) 48 2 (.int .i64 0) 8 rfl Try.underlying48 infoI rfl (by decide) (by decide) (.slice A2 R ca) (r.map (·.id)) x.id [.int .i64 x.id] (fun k => ok k ∨ W.heap.size ≤ k) (fun _ => False) rfl rfl ?aP (fun _ hk_ => hk_.elim) ?aF HCQ.out HT.out.bel ?aS ?aL ?_; (case aP => rfl); (case aF => exact fun k_ hk_ => .inr (Nat.le_trans HT.out.keep.1 hk_)); (case aS => exact HT.out.bel.size); (case aL => have := HL.out; have := HN1.out; have := HRL.out; omega); intro v1 w3 hQ_ hB_ hg_ hat_; rw [HOB.out] at hg_; obtain ⟨A1_, c1_, hv1_, -⟩ := Kd.Q_slice hQ_; obtain ⟨n1_, hn1_⟩ : ∃ n_, (r.map (·.id) ++ [x.id]).length = n_ := ⟨_, rfl⟩; rw [hn1_] at hv1_; subst hv1_; have hb1_ := HT.out.gat hg_; have gf3 := blk_frozen hb1_ 3; have gf4 := blk_frozen hb1_ 4; have g3 := (blk_cell hb1_ 3).trans (rfl : _ = some (Value.slice (some ⟨br, orr, none⟩) N1 cr)); have g4 := (blk_cell hb1_ 4).trans (rfl : _ = some (Value.bool false)); have H3 := Aside0.mk (HT.out.setrow hB_ hg_ hQ_); clear hQ_ hB_ hg_ hat_ hb1_ hn1_)
          go_roundw
          case rel => exact ⟨waitS u x r, ⟨wait_fin H3.out HS.out HI.out HD.out HU.out HW.out HRL.out HN1.out⟩⟩
          case measure => exact wait_less (wait_fin H3.out HS.out HI.out HD.out HU.out HW.out HRL.out HN1.out) HS.out HI.out HD.out HW.out HM.out
        · have HW := Aside0.mk hw
          rw [HT0.out] at hw
          have S1 : decide ((t.size : Int) > D) = false := decide_eq_false hw
          have S2 : decide (D < (t.size : Int)) = false := S1
          obtain ⟨A2, ca, hcut, hob, hcq2⟩ := cut_q Kd.string (t := 34) (e := 9) Try.underlying34 infoS rfl (some ⟨bq, oq, none⟩) cq HM1.out
          have HTK := Aside0.mk (HT.out.take HNE.out HV.out (fun w B ok t xs => hcq2 w B ok t xs) HPOS.out (D - (t.size : Int)))
          have W2 : wrap64 (D - (t.size : Int)) = D - (t.size : Int) := wrap_sub HDB.out HTB.out
          have W3 : IntKind.i64.wrap (D - (t.size : Int)) = D - (t.size : Int) := (i64_w _).trans W2
          clear hob hcq2 hw
          by_cases hz : N = 0
          · have HZ := Aside0.mk hz
            subst hz
            go_wp2_with (go_at_call 20; (with_reducible refine (lv_c HTK.out HRL.out HN1.out HND.out HX.out.k HL.out).mono ?_); rintro e_ w9 ⟨rfl, hf_⟩; have H9 := Aside0.mk hf_; clear hf_)
            go_ret3
            rw [take_eq HU.out HS.out HD.out HW.out, takeS_one (by have := HML.out; have := HM1.out; omega)]
            refine ⟨?_, H9.out⟩
            rw [HT0.out]
            rfl
          · have z1 : ((N : Int) == 0) = false := beq_eq_false_iff_ne.2 (by omega)
            have z2 : (N == 0) = false := beq_eq_false_iff_ne.2 (by omega)
            have z3 : decide (N = 0) = false := decide_eq_false hz
            have HZ := Aside0.mk hz
            clear hz
            go_wp2_with (fail)
            go_ret3
            rw [take_eq HU.out HS.out HD.out HW.out, takeS_more (by have := HML.out; have := HM1.out; have := HZ.out; omega), HD.out]
            refine ⟨?_, _, _, _, _, take_fo HTK.out HT0.out HRL.out HN1.out⟩
            rw [HT0.out]
            rfl
end Go.Proofs.Ytcieopcihbgfdaa.Fq
