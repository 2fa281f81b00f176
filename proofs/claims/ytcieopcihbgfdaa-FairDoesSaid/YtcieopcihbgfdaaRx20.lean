/- Layer 20: the reference's Next. gen/mk_rx20.py writes this text. -/
import Derived.Test.YtcieopcihbgfdaaRp20
namespace Go.Proofs.Ytcieopcihbgfdaa.Rf
open Go.RowKit Go.Proofs.YtcieopcihbgfdaaW.PrintWords Go.Proofs.YtcieopcihbgfdaaW.PrintLast Go.Proofs.YtcieopcihbgfdaaW.PrintMore Go.Proofs.Ytcieopcihbgfdaa.PFairDoes Go.Proofs.Ytcieopcihbgfdaa Go.Proofs.Ytcieopcihbgfdaa.Fair Go.Proofs.Ytcieopcihbgfdaa.Fq
set_option linter.unusedVariables false
set_option linter.unusedSimpArgs false
theorem size_of_info3 {P : Program} {e : TypeId} {z : Option Value} {b : Nat} (h : (P.info? e).map (fun i => (i.zero, i.size, i.bytes)) = some (z, 3, b)) : ∃ i, P.info? e = some i ∧ i.size = 3 := by
  cases hi : P.info? e with
  | none => rw [hi] at h; cases h
  | some i =>
    rw [hi] at h
    injection h with h
    injection h with _ h
    injection h with h _
    exact ⟨i, rfl, h⟩
theorem cut_r (A : Option Addr) {n n1 : Nat} (c : Nat) (hn : n + 1 = n1) :
    ∃ A' c', (∀ W : World, (Instr.slice 56 (.slice A n1 c) (some (.int .i64 1)) none none).run Try.prog W = .ok (.slice A' n c') W) ∧ (Value.slice A' n c').ownBlock = (Value.slice A n1 c).ownBlock ∧ ∀ (w : World) (B : Nat) (ok : Nat → Prop) (x : Qu) (xs : List Qu), rq.Q 60 w B ok (.slice A n1 c) (x :: xs) → rq.Q 60 w B ok (.slice A' n c') xs := by
  subst hn
  obtain ⟨i, h1, h2⟩ := size_of_info3 infoQ
  refine ⟨_, _, cut_from 56 60 .i64 Try.underlying56 h1 3 h2 A (n + 1) c 1 (by omega) (by omega), ?_, fun w B ok x xs h => ?_⟩
  · split
    · cases A <;> rfl
    · cases A <;> rfl
  · exact Kd.Q_drop (k := 1) h (by simp)
/-- A literal of one element. -/
theorem lit_row {α : Type} (d : Kd α) {W : World} {e base : Nat} {p : α} {cs : List Value} {ok : Nat → Prop} (hM : d.M (W.alloc (.cells cs.toArray e)) base (fun k => ok k ∧ k ≠ W.heap.size) p cs) (hok : ok W.heap.size) (hb : base ≤ W.heap.size) : d.R e (W.alloc (.cells cs.toArray e)) base ok (.slice (some ⟨W.heap.size, 0, none⟩) 1 1) [p] := by
  have hl : cs.length = d.sz := d.K_len (d.K_of_M hM)
  refine ⟨fun k hk => by injection hk with hk; rw [← hk]; exact hok, cs, ⟨by rw [hl, List.length_singleton, Nat.one_mul], .inr ⟨W.heap.size, 1, cs.toArray, rfl, hb, by simpa using heap_alloc_new W _, Nat.le_refl _, by unfold maxLen; omega, by simp [hl], ?_⟩⟩, ⟨by rw [List.length_singleton, Nat.one_mul]; exact hl, fun j q hj => ?_⟩⟩
  · rw [List.length_singleton, Nat.one_mul]
    exact List.take_of_length_le (by simp [hl])
  · cases j with
    | zero =>
      have hq : p = q := by simpa using hj
      subst hq
      rw [Nat.zero_mul, List.drop_zero, List.take_of_length_le (by omega)]
      exact d.M_mono (fun k hk => ⟨hk.1, fun e => hk.2 (by injection e)⟩) hM
    | succ j => simp at hj
structure RNext (w0 W : World) (ok : Nat → Prop) (g : Nat) (s : FS) (wr : World) (u : FS) : Prop where
  fo : RO w0 W wr ok g u
  fi : FI u
  nx : nextV u = nextV s
  len : u.st.length ≤ 100000
noncomputable def rleft (w0 W : World) (ok : Nat → Prop) (g : Nat) (s : FS) (wr : World) : Nat := least (fun n => ∃ u, mu u = n ∧ RNext w0 W ok g s wr u)
theorem rleft_at {w0 W wr : World} {ok : Nat → Prop} {g : Nat} {s u : FS} (h : RNext w0 W ok g s wr u) : ∃ u, RNext w0 W ok g s wr u ∧ rleft w0 W ok g s wr = mu u := by
  obtain ⟨⟨u', e, h'⟩, _⟩ := least_spec (P := fun n => ∃ u, mu u = n ∧ RNext w0 W ok g s wr u) ⟨u, rfl, h⟩
  exact ⟨u', h', e.symm⟩
theorem rleft_le {w0 W wr : World} {ok : Nat → Prop} {g : Nat} {s u : FS} (h : RNext w0 W ok g s wr u) : rleft w0 W ok g s wr ≤ mu u := (least_spec (P := fun n => ∃ u, mu u = n ∧ RNext w0 W ok g s wr u) ⟨u, rfl, h⟩).2 _ ⟨u, rfl, h⟩
theorem rwait_fin {w0 W w w1 : World} {ok : Nat → Prop} {g : Nat} {v : Value} {s u : FS} {x : Qu} {r : List Qu} {sv : Bool} {D : Int} (h : RH w0 W w ok g u.lim u.qu v sv (r ++ [⟨x.id, x.l, D⟩])) (hs : u.st = x :: r) (hi : FI u) (hd : Fair.due u x = D) (hu : RNext w0 W ok g s w1 u) (hw : D < ((Fair.hd x.l).size : Int)) : RNext w0 W ok g s (w.setCell ⟨g, 3, none⟩ (.bool false)) (waitS u x r) := by
  subst hd
  refine ⟨⟨v, h.setsv false⟩, hi.wait hs hw, (nextV_wait hs hi.q0 hw).symm.trans hu.nx, ?_⟩
  have := hu.len
  rw [hs] at this
  simpa [waitS] using this
theorem rwait_less {w0 W w w1 : World} {ok : Nat → Prop} {g : Nat} {s u : FS} {x : Qu} {r : List Qu} {D : Int} (h : RNext w0 W ok g s w (waitS u x r)) (hs : u.st = x :: r) (hi : FI u) (hd : Fair.due u x = D) (hw : D < ((Fair.hd x.l).size : Int)) (hm : rleft w0 W ok g s w1 = mu u) : rleft w0 W ok g s w < rleft w0 W ok g s w1 := by
  subst hd
  rw [hm]
  exact Nat.lt_of_le_of_lt (rleft_le h) (mu_wait hs hi.q0 hw)
theorem rtake_eq {w0 W w1 : World} {ok : Nat → Prop} {g : Nat} {s u : FS} {x : Qu} {r : List Qu} {D : Int} (hu : RNext w0 W ok g s w1 u) (hs : u.st = x :: r) (hd : Fair.due u x = D) (hw : ((Fair.hd x.l).size : Int) ≤ D) : nextV s = ((x.id, Fair.hd x.l, true), takeS u x r) := by
  subst hd
  rw [← hu.nx, nextV_take hs (by omega)]
theorem bx_cells {w : World} {b : Nat} {i d : Int} {v : Value} {T : Nat} (h : w.heap[b]? = some (.cells #[.int .i64 i, v, .int .i64 d] T (0, 0))) : w.cell? ⟨b, 0, none⟩ = some (.int .i64 i) ∧ w.cell? ⟨b, 1, none⟩ = some v ∧ w.cell? ⟨b, 2, none⟩ = some (.int .i64 d) := ⟨(blk_cell h 0).trans rfl, (blk_cell h 1).trans rfl, (blk_cell h 2).trans rfl⟩
theorem q_cell {w w1 : World} {e B : Nat} {α : Type} {d : Kd α} {ok : Nat → Prop} {b o n c j : Nat} {xs : List α} {u : Value} (h : d.Q e w B ok (.slice (some ⟨b, o, none⟩) n c) xs) (hb : Below w.heap.size w w1) (hc : w.cell? ⟨b, j, none⟩ = some u) : w1.cell? ⟨b, j, none⟩ = some u := by
  have hlt := Kd.Q_lt h b rfl
  rw [World.cell?_of_block (hb.block b hlt)]
  exact hc
/-- Behind an append to a row that was laid since wd. -/
theorem fresh_app {wd w w1 : World} {v : Value} (h : Below wd.heap.size wd w) (hg : w.grownBy w1 v.ownBlock) (hv : ∀ k, v.ownBlock = some k → wd.heap.size ≤ k) : Below wd.heap.size wd w1 := h.grown hg h.size hv
set_option maxHeartbeats 8000000 in
set_option maxRecDepth 100000 in
theorem rnext_c (g : Nat) (s : FS) (ok : Nat → Prop) (w0 W : World) (h : RO w0 W W ok g s) (hi : FI s) (hl : s.st.length ≤ 100000) :
    Calls Try.prog 15 #[.pointer (some ⟨g, 0, none⟩)] W fun e w' => e = .returned (.tuple #[.int .i64 (nextV s).1.1, .string (nextV s).1.2.1, .bool (nextV s).1.2.2]) ∧ RO w0 W w' ok g (nextV s).2 := by
  have HU0 := Aside0.mk (show RNext w0 W ok g s W s from ⟨h, hi, rfl, hl⟩)
  clear h hi hl
  go_enter Try.func15, Try.ntmps15
  go_wp2_with (fail)
  go_loopw [5] (fun v5 wr => ∃ u, Aside0 (RNext w0 W ok g s wr u)) (fun _ wr => rleft w0 W ok g s wr)
  case atStart => exact ⟨s, HU0⟩
  case round =>
    clear HU0
    obtain ⟨u0, HR0⟩ := hrel
    obtain ⟨u, hu, hm⟩ := rleft_at HR0.out
    have HU := Aside0.mk hu
    have HM := Aside0.mk hm
    clear hu hm HR0
    obtain ⟨v, hH⟩ := HU.out.fo
    cases hst : u.st with
    | nil =>
      rw [hst] at hH
      obtain ⟨Ar, cr, rfl, -⟩ := Kd.Q_slice hH.row
      obtain ⟨-, -, c3, -, -, -⟩ := hH.cells
      have HE := Aside0.mk (nextV_none hst)
      have HNX := Aside0.mk HU.out.nx
      clear hst hH
      go_wp2_with (fail)
      go_ret3
      rw [← HNX.out, HE.out]
      exact ⟨rfl, HU.out.fo⟩
    | cons x r =>
      have HS := Aside0.mk hst
      have HI := Aside0.mk HU.out.fi
      have hmem : x ∈ u.st := by rw [hst]; exact List.mem_cons_self
      have HX := Aside0.mk (HI.out.q x hmem)
      have HPOS := Aside0.mk (show 0 < x.l.length from HX.out.pos)
      rw [hst] at hH
      obtain ⟨b, o, c, rfl⟩ := rq_slice hH.row (by simp)
      obtain ⟨vl, x0, x1, x2, hql⟩ := rq_at hH.row 0 (by simp)
      rw [Nat.zero_mul, Nat.add_zero] at x0 x1 x2
      change wr.cell? ⟨b, o, none⟩ = some (.int .i64 x.id) at x0
      change wr.cell? ⟨b, o + 2, none⟩ = some (.int .i64 x.d) at x2
      change Kd.string.Q 9 wr w0.heap.size _ vl x.l at hql
      obtain ⟨bs, os, cX, rfl, s0⟩ := str_enc hql HPOS.out
      obtain ⟨M1, hM1⟩ : ∃ z, x.l.length = z := ⟨_, rfl⟩
      have HML := Aside0.mk hM1
      rw [hM1] at x1 hql
      obtain ⟨N, hN⟩ : ∃ N, N + 1 = M1 := ⟨M1 - 1, by have := HPOS.out; omega⟩
      have HM1 := Aside0.mk hN
      have y0a : decide ((0 : Int) < (M1 : Int)) = true := decide_eq_true (by omega)
      have y0b : decide (0 < M1) = true := decide_eq_true (by omega)
      have y0c : (0 < M1) = True := eq_true (by omega)
      obtain ⟨R, hR⟩ : ∃ z, r.length = z := ⟨_, rfl⟩
      have HR := Aside0.mk hR
      obtain ⟨N1, hN1⟩ : ∃ z, R + 1 = z := ⟨_, rfl⟩
      have HN1 := Aside0.mk hN1
      have hlen : (x :: r).length = N1 := by rw [List.length_cons, hR, hN1]
      rw [hlen] at hH
      have HL := Aside0.mk (show N1 ≤ 100000 by rw [← hlen, ← hst]; exact HU.out.len)
      have z0a : decide ((N1 : Int) > 0) = true := decide_eq_true (by omega)
      have z0b : decide ((0 : Int) < (N1 : Int)) = true := z0a
      have z0c : decide (0 < N1) = true := decide_eq_true (by omega)
      have z0d : (0 < N1) = True := eq_true (by omega)
      obtain ⟨-, r1_, r2_, r3_, -, -⟩ := hH.cells
      have HQL := Aside0.mk hql
      have HH0 := Aside0.mk hH
      obtain ⟨D, hD⟩ : ∃ D, Fair.due u x = D := ⟨_, rfl⟩
      obtain ⟨t, ht⟩ : ∃ t, Fair.hd x.l = t := ⟨_, rfl⟩
      have HT0 := Aside0.mk ht
      have HDU := Aside0.mk hD
      rw [ht] at s0
      have hdl := due_le hst HI.out
      rw [hD] at hdl
      have HDB := Aside0.mk hdl
      have HTB := Aside0.mk (show t.size ≤ 65535 by rw [← ht]; exact HX.out.hd)
      have hbox := blk_new wr (.cells #[.int .i64 x.id, .slice (some ⟨bs, os, none⟩) M1 cX, .int .i64 x.d] 60)
      have hba := below_alloc (Below.refl wr.heap.size wr) (.cells #[.int .i64 x.id, .slice (some ⟨bs, os, none⟩) M1 cX, .int .i64 x.d] 60)
      obtain ⟨wb, hwb⟩ : ∃ z, wr.alloc (.cells #[.int .i64 x.id, .slice (some ⟨bs, os, none⟩) M1 cX, .int .i64 x.d] 60) = z := ⟨_, rfl⟩
      rw [hwb] at hbox hba
      obtain ⟨bx, hbx⟩ : ∃ z, wr.heap.size = z := ⟨_, rfl⟩
      rw [hbx] at hbox
      have HBX := Aside0.mk hbx
      have HBXE := Aside0.mk hbx
      have ne1 : g ≠ bx := by have := blk_lt HH0.out.blk; omega
      have ne2 : bx ≠ g := fun e => ne1 e.symm
      have HBb := Aside0.mk hba
      have HXb := Aside0.mk hbox
      clear hst hmem hM1 hN hR hN1 hlen hdl ht hH hql
      cases hsv : u.sv with
      | true =>
        rw [hsv] at r3_ HH0
        have hdx : x.d = D := by rw [← hD]; unfold Fair.due; rw [hsv, if_pos rfl]
        have HBt := Aside0.mk hba
        have HXt := Aside0.mk (show wb.heap[bx]? = some (.cells #[.int .i64 x.id, .slice (some ⟨bs, os, none⟩) M1 cX, .int .i64 D] 60 (0, 0)) by rw [← hdx]; exact hbox)
        clear hdx hsv hD hba hbox
        have HT := Aside0.mk (HH0.out.below HBt.out)
        have hc5 := q_cell HQL.out HBt.out s0
        obtain ⟨y0, y1, y2⟩ := bx_cells HXt.out
        have yf1 := blk_frozen HXt.out 1
        have yf2 := blk_frozen HXt.out 2
        obtain ⟨-, -, t2_, t3_, tf2_, tf3_⟩ := HT.out.cells
        obtain ⟨A3, c3, hcutr, hobr, hcqr⟩ := cut_r (some ⟨b, o, none⟩) c HN1.out
        have HCR := Aside0.mk hcqr
        clear hobr hcqr
        by_cases hw : D < (t.size : Int)
        · have HW := Aside0.mk (show D < ((Fair.hd x.l).size : Int) by rw [HT0.out]; exact hw)
          have S1 : decide ((t.size : Int) ≤ D) = false := decide_eq_false (by omega)
          have S2 : decide (D ≥ (t.size : Int)) = false := S1
          clear hw
          go_wp2_with (fail)
          have hbd : Below wr.heap.size wr wb.drew := below_step HBt.out (below_drew (Below.refl _ _))
          have HD := Aside0.mk (HH0.out.below hbd)
          have HG2 := Aside0.mk (fun W' (hb : Below wb.drew.heap.size wb.drew W') => (HH0.out.below (below_step hbd hb)).cells.2.2.1)
          have HXd := Aside0.mk (blk_below HXt.out (below_drew (Below.refl wb.heap.size wb)))
          have HQd := Aside0.mk (Kd.Q_mono (Kd.Q_bound (Kd.Q_below HQL.out hbd)) (ok' := fun k => (ok k ∨ W.heap.size ≤ k) ∧ k < wb.drew.heap.size) (fun k hk => ⟨hk.1.1, hk.2.2.1⟩))
          have HRW := Aside0.mk (Kd.Q_mono (Kd.Q_bound (HCR.out _ _ _ _ _ HD.out.row)) (ok' := fun k => (ok k ∨ W.heap.size ≤ k) ∧ k < wb.drew.heap.size) (fun k hk => ⟨hk.1, hk.2.2.1⟩))
          have HB0 := Aside0.mk (Below.refl wb.drew.heap.size wb.drew)
          have HL1 := Aside0.mk (show R + 1 ≤ 100000 by have := HL.out; have := HN1.out; omega)
          clear HL hbd x0 x1 x2 s0 r1_ r2_ y0 y1 y2 hc5 yf1 yf2 t2_ t3_ tf2_ tf3_
          refine Calm.wp_region_trC [(5, fun w_ => w_.cell? ⟨g, 2, none⟩ = some (.slice (some ⟨b, o, none⟩) N1 c)), (8, fun w_ => w_.cell? ⟨bx, 0, none⟩ = some (Value.int .i64 x.id)), (8, fun w_ => w_.cell? ⟨bx, 1, none⟩ = some (Value.slice (some ⟨bs, os, none⟩) M1 cX)), (8, fun w_ => w_.cell? ⟨bx, 2, none⟩ = some (Value.int .i64 D))] [0, 2, 3, 4, 5, 6, 8] (.two 1 (.two 7 (.lin [9, 10, 11, 12, 13] .done) 9 (.lin [7, 10, 11, 12, 13] .done)) 9 (.lin [1, 7, 10, 11, 12, 13] .done)) (by kernel_rfl) (by kernel_rfl) (Calm.allC_cons (by exact HG2.out _ HB0.out) (Calm.allC_cons (by exact (bx_cells HXd.out).1) (Calm.allC_cons (by exact (bx_cells HXd.out).2.1) (Calm.allC_cons (by exact (bx_cells HXd.out).2.2) Calm.allC_nil)))) ?_
          repeat (first
            | (refine Calm.g_value (v := ?_) (a' := ?_) rfl rfl (by rfl) ?_ ?_ ?_; rotate_left; (· rintro w' hS'; (try simp only [Calm.SC_cons, Calm.SC_nil, Nat.reduceEqDiff, forall_const, false_implies, and_true, true_and] at hS'); (try obtain ⟨hS1, hS2, hS3⟩ := hS'); go_simp; with_reducible rfl); rotate_left; (· simp only [Act.put, List.setIfInBounds_toArray, List.set_cons_zero, List.set_cons_succ, i64_w, i32_w]; rfl))
            | (refine Calm.g_value (v := ?_) (a' := ?_) rfl rfl (by rfl) ?_ ?_ ?_; rotate_left; (· rintro w' hS'; (try simp only [Calm.SC_cons, Calm.SC_nil, Nat.reduceEqDiff, forall_const, false_implies, and_true, true_and] at hS'); (try obtain ⟨hS1, hS2⟩ := hS'); go_simp; with_reducible rfl); rotate_left; (· simp only [Act.put, List.setIfInBounds_toArray, List.set_cons_zero, List.set_cons_succ, i64_w, i32_w]; rfl)))
          refine Calm.g_nil ?_
          generalize hwd_ : wb.drew = wd at HD HG2 HXd HQd HRW HB0 ⊢
          clear hwd_
          refine Calm.tr_two ?_ ?_
          · refine Calm.c_value (v := ?_) (w1 := ?_) (a' := ?_) rfl rfl (by rfl) ?_ ?_ ?_ ?_
            rotate_left
            rotate_left
            · go_simp; first | (refine And.intro ?_ ?_ <;> rfl) | rfl
            · repeat (first | exact Calm.okC_nil | (refine Calm.okC_cons (Or.inl (by decide +kernel)) ?_) | (refine Calm.okC_cons (Or.inr (by first | exact HG2.out _ (below_step HB0.out (below_alloc (Below.refl _ _) _)) | exact (bx_cells (blk_below HXd.out (below_step HB0.out (below_alloc (Below.refl _ _) _)))).1 | exact (bx_cells (blk_below HXd.out (below_step HB0.out (below_alloc (Below.refl _ _) _)))).2.1 | exact (bx_cells (blk_below HXd.out (below_step HB0.out (below_alloc (Below.refl _ _) _)))).2.2)) ?_))
            rotate_left
            · simp only [Act.put, List.setIfInBounds_toArray, List.set_cons_zero, List.set_cons_succ, i64_w, i32_w]; rfl
            have hsz_ := HB0.out.size
            have HB1 := Aside0.mk (below_step HB0.out (below_alloc (Below.refl wd.heap.size wd) (.cells #[] 60)))
            have HE := Aside0.mk (Kd.R_lower (lit_empty rq wd 60 (fun k => ok k ∨ W.heap.size ≤ k) (.inr (Nat.le_trans HD.out.keep.1 hsz_))) (Nat.le_trans HD.out.bel.size hsz_))
            generalize hw_ : World.alloc wd (.cells #[] 60) = wa at HB1 HE ⊢
            obtain ⟨be, hbe⟩ : ∃ z, wd.heap.size = z := ⟨_, rfl⟩
            have HE := Aside0.mk (show rq.R 60 wa w0.heap.size (fun k => ok k ∨ W.heap.size ≤ k) (.slice (some ⟨be, 0, none⟩) 0 0) [] by rw [← hbe]; exact HE.out)
            have HBE := Aside0.mk (show wd.heap.size ≤ be by rw [← hbe]; exact hsz_)
            rw [hbe]
            clear hw_ hbe hsz_
            refine Calm.h_nil ?_
            refine Calm.tr_two ?_ ?_
            · refine Calm.c_law rfl ?_
              refine Kd.R_append_rows_step rq (w0 := w0) w0.heap.size (by rfl) (.tmp 84) (.tmp 89) 56 60 (.agg #[.int .i64 0, .slice none 0 0, .int .i64 0]) 40 rfl Try.underlying56 infoQ rfl (by decide) (by decide) (.slice (some ⟨be, 0, none⟩) 0 0) [] r A3 R c3 (fun k => ok k ∨ W.heap.size ≤ k) (fun k => ((ok k ∨ W.heap.size ≤ k) ∧ k < wd.heap.size) ∧ some k ≠ (Value.slice A3 R c3).ownBlock) rfl rfl HE.out (Q_readsM (Kd.Q_below HRW.out HB1.out)) (fun _ _ h => h) (fun k hk => ⟨hk.1.1, fun e => by have h_ : k = be := Option.some.inj (show some k = some be from e); have := hk.1.2; have := HBE.out; omega⟩) ?aF (below_step HD.out.bel HB1.out) ?aS ?aL ?_
              case aF => exact fun k hk => .inr (Nat.le_trans HD.out.keep.1 (Nat.le_trans HB1.out.size hk))
              case aS => exact Nat.le_trans HD.out.bel.size HB1.out.size
              case aL => have := HL1.out; simp; omega
              intro v1 wb1 hR_ hB_ hg_ hat_
              rw [List.nil_append] at hR_
              obtain ⟨A1, k1, hv1⟩ := Kd.R_slice hR_
              rw [HR.out] at hv1
              subst hv1
              have HA := Aside0.mk hR_
              have HB2 := Aside0.mk (fresh_app HB1.out hg_ (fun k e => by injection e with e; rw [← e]; exact HBE.out))
              have HV1 := Aside0.mk (show ∀ k, (Value.slice A1 R k1).ownBlock = some k → wd.heap.size ≤ k from fun k e => by rcases hat_ with h_ | ⟨b_, h_, hl_⟩ <;> rw [h_] at e <;> injection e with e <;> rw [← e] <;> first | exact HBE.out | exact Nat.le_trans HB1.out.size hl_)
              clear hR_ hB_ hg_ hat_
              refine And.intro ?_ ?_
              · repeat (first | exact Calm.okC_nil | (refine Calm.okC_cons (Or.inl (by decide +kernel)) ?_) | (refine Calm.okC_cons (Or.inr (by first | exact HG2.out _ HB2.out | exact (bx_cells (blk_below HXd.out HB2.out)).1 | exact (bx_cells (blk_below HXd.out HB2.out)).2.1 | exact (bx_cells (blk_below HXd.out HB2.out)).2.2)) ?_))
              refine Calm.put_dst (a' := ?_) rfl ?_ ?_
              rotate_left
              · simp only [Act.put, List.setIfInBounds_toArray, List.set_cons_zero, List.set_cons_succ, i64_w, i32_w]; rfl
              refine Calm.h_nil ?_
              refine Calm.tr_lin ?_
              refine Calm.c_value (v := ?_) (w1 := ?_) (a' := ?_) rfl rfl (by rfl) ?_ ?_ ?_ ?_
              rotate_left
              rotate_left
              · go_simp; first | (refine And.intro ?_ ?_ <;> rfl) | rfl
              · repeat (first | exact Calm.okC_nil | (refine Calm.okC_cons (Or.inl (by decide +kernel)) ?_) | (refine Calm.okC_cons (Or.inr (by first | exact HG2.out _ (below_step HB2.out (below_alloc (Below.refl _ _) _)) | exact (bx_cells (blk_below HXd.out (below_step HB2.out (below_alloc (Below.refl _ _) _)))).1 | exact (bx_cells (blk_below HXd.out (below_step HB2.out (below_alloc (Below.refl _ _) _)))).2.1 | exact (bx_cells (blk_below HXd.out (below_step HB2.out (below_alloc (Below.refl _ _) _)))).2.2)) ?_))
              rotate_left
              · simp only [Act.put, List.setIfInBounds_toArray, List.set_cons_zero, List.set_cons_succ, i64_w, i32_w]; rfl
              have hsz_ := HB2.out.size
              have hlv_ := Kd.R_lt HA.out
              have HB3 := Aside0.mk (below_step HB2.out (below_alloc (Below.refl wb1.heap.size wb1) (.cells #[.int .i64 x.id, .slice (some ⟨bs, os, none⟩) M1 cX, .int .i64 D] 60)))
              have HA := Aside0.mk (Kd.R_alloc HA.out (.cells #[.int .i64 x.id, .slice (some ⟨bs, os, none⟩) M1 cX, .int .i64 D] 60))
              have HL := Aside0.mk (blk_new wb1 (.cells #[.int .i64 x.id, .slice (some ⟨bs, os, none⟩) M1 cX, .int .i64 D] 60))
              generalize hw_ : World.alloc wb1 (.cells #[.int .i64 x.id, .slice (some ⟨bs, os, none⟩) M1 cX, .int .i64 D] 60) = wc at HB3 HA HL ⊢
              obtain ⟨bl, hbl⟩ : ∃ z, wb1.heap.size = z := ⟨_, rfl⟩
              rw [hbl] at HL ⊢
              have HLT := Aside0.mk (show bl < wc.heap.size from blk_lt HL.out)
              clear hw_ hbl hsz_ hlv_
              refine Calm.c_law rfl ?_
              refine Kd.R_append_rows_step rq (w0 := w0) w0.heap.size (by rfl) (.tmp 90) (.tmp 92) 56 60 (.agg #[.int .i64 0, .slice none 0 0, .int .i64 0]) 40 rfl Try.underlying56 infoQ rfl (by decide) (by decide) (.slice A1 R k1) r [⟨x.id, x.l, D⟩] (some ⟨bl, 0, none⟩) 1 1 (fun k => ok k ∨ W.heap.size ≤ k) (fun k => (ok k ∨ W.heap.size ≤ k) ∧ k < wd.heap.size) rfl rfl HA.out (lit_one rq (cs := [.int .i64 x.id, .slice (some ⟨bs, os, none⟩) M1 cX, .int .i64 D]) HL.out ⟨_, rfl, Kd.Q_below HQd.out HB3.out⟩) (fun _ _ h => h) (fun k hk => ⟨hk.1, fun e => by have := hk.2; have := HV1.out k e.symm; omega⟩) ?aF (below_step HD.out.bel HB3.out) ?aS ?aL ?_
              case aF => exact fun k hk => .inr (Nat.le_trans HD.out.keep.1 (Nat.le_trans HB3.out.size hk))
              case aS => exact Nat.le_trans HD.out.bel.size HB3.out.size
              case aL => have := HL1.out; have := HR.out; omega
              intro v2 we hR_ hB_ hg_ hat_
              obtain ⟨n2, hn2⟩ : ∃ z, (r ++ [(⟨x.id, x.l, D⟩ : Qu)]).length = z := ⟨_, rfl⟩
              obtain ⟨A2, k2, hv2⟩ := Kd.R_slice hR_
              rw [hn2] at hv2
              subst hv2
              have HB4 := Aside0.mk (fresh_app HB3.out hg_ HV1.out)
              have HHr := Aside0.mk ((HD.out.below HB4.out).setrow (Kd.Q_of_R hR_))
              obtain ⟨-, -, c4_, -, f4_, -⟩ := (HD.out.below HB4.out).cells
              obtain ⟨-, -, -, c5_, -, f5_⟩ := HHr.out.cells
              clear hn2 hR_ hB_ hg_ hat_
              refine And.intro ?_ ?_
              · repeat (first | exact Calm.okC_nil | (refine Calm.okC_cons (Or.inl (by decide +kernel)) ?_) | (refine Calm.okC_cons (Or.inr (by first | exact HG2.out _ HB4.out | exact (bx_cells (blk_below HXd.out HB4.out)).1 | exact (bx_cells (blk_below HXd.out HB4.out)).2.1 | exact (bx_cells (blk_below HXd.out HB4.out)).2.2)) ?_))
              refine Calm.put_dst (a' := ?_) rfl ?_ ?_
              rotate_left
              · simp only [Act.put, List.setIfInBounds_toArray, List.set_cons_zero, List.set_cons_succ, i64_w, i32_w]; rfl
              refine Calm.c_value (v := ?_) (w1 := ?_) (a' := ?_) rfl rfl (by rfl) ?_ ?_ ?_ ?_
              rotate_left
              rotate_left
              · go_simp; first | (refine And.intro ?_ ?_ <;> rfl) | rfl
              · repeat (first | exact Calm.okC_nil | (refine Calm.okC_cons (Or.inl (by decide +kernel)) ?_) | (refine Calm.okC_cons (Or.inr (by fail)) ?_))
              rotate_left
              · simp only [Act.put, List.setIfInBounds_toArray, List.set_cons_zero, List.set_cons_succ, i64_w, i32_w]; rfl
              refine Calm.c_value (v := ?_) (w1 := ?_) (a' := ?_) rfl rfl (by rfl) ?_ ?_ ?_ ?_
              rotate_left
              rotate_left
              · go_simp; first | (refine And.intro ?_ ?_ <;> rfl) | rfl
              · repeat (first | exact Calm.okC_nil | (refine Calm.okC_cons (Or.inl (by decide +kernel)) ?_) | (refine Calm.okC_cons (Or.inr (by fail)) ?_))
              rotate_left
              · simp only [Act.put, List.setIfInBounds_toArray, List.set_cons_zero, List.set_cons_succ, i64_w, i32_w]; rfl
              refine Calm.c_store (w1 := ?_) rfl (by rfl) rfl ?_ ?_ ?_
              rotate_left
              · go_simp; rfl
              · repeat (first | exact Calm.okC_nil | (refine Calm.okC_cons (Or.inl (by decide +kernel)) ?_) | (refine Calm.okC_cons (Or.inr (by fail)) ?_))
              refine Calm.h_nil ?_
              refine Calm.tr_done ?_
              simp only [Exit.inBlock, Exit.then]
              go_wp2_with (fail)
              go_roundw
              case rel => exact ⟨waitS u x r, ⟨rwait_fin HHr.out HS.out HI.out HDU.out HU.out HW.out⟩⟩
              case measure => exact rwait_less (rwait_fin HHr.out HS.out HI.out HDU.out HU.out HW.out) HS.out HI.out HDU.out HW.out HM.out
            · refine Calm.c_value (v := ?_) (w1 := ?_) (a' := ?_) rfl rfl (by rfl) ?_ ?_ ?_ ?_
              rotate_left
              rotate_left
              · go_simp; first | (refine And.intro ?_ ?_ <;> rfl) | rfl
              · repeat (first | exact Calm.okC_nil | (refine Calm.okC_cons (Or.inl (by decide +kernel)) ?_) | (refine Calm.okC_cons (Or.inr (by first | exact HG2.out _ (below_step HB1.out (below_alloc (Below.refl _ _) _)) | exact (bx_cells (blk_below HXd.out (below_step HB1.out (below_alloc (Below.refl _ _) _)))).1 | exact (bx_cells (blk_below HXd.out (below_step HB1.out (below_alloc (Below.refl _ _) _)))).2.1 | exact (bx_cells (blk_below HXd.out (below_step HB1.out (below_alloc (Below.refl _ _) _)))).2.2)) ?_))
              rotate_left
              · simp only [Act.put, List.setIfInBounds_toArray, List.set_cons_zero, List.set_cons_succ, i64_w, i32_w]; rfl
              have hsz_ := HB1.out.size
              have hlt_ := Kd.R_lt HE.out be rfl
              have HB2 := Aside0.mk (below_step HB1.out (below_alloc (Below.refl wa.heap.size wa) (.cells #[.int .i64 x.id, .slice (some ⟨bs, os, none⟩) M1 cX, .int .i64 D] 60)))
              have HE := Aside0.mk (Kd.R_alloc HE.out (.cells #[.int .i64 x.id, .slice (some ⟨bs, os, none⟩) M1 cX, .int .i64 D] 60))
              have HL := Aside0.mk (blk_new wa (.cells #[.int .i64 x.id, .slice (some ⟨bs, os, none⟩) M1 cX, .int .i64 D] 60))
              generalize hw_ : World.alloc wa (.cells #[.int .i64 x.id, .slice (some ⟨bs, os, none⟩) M1 cX, .int .i64 D] 60) = wb1 at HB2 HE HL ⊢
              obtain ⟨bl, hbl⟩ : ∃ z, wa.heap.size = z := ⟨_, rfl⟩
              rw [hbl] at HL ⊢
              have HLT := Aside0.mk (show bl < wb1.heap.size from blk_lt HL.out)
              have HNE := Aside0.mk (show bl ≠ be by omega)
              clear hw_ hbl hsz_ hlt_
              refine Calm.h_nil ?_
              refine Calm.tr_lin ?_
              refine Calm.c_law rfl ?_
              refine Kd.R_append_rows_step rq (w0 := w0) w0.heap.size (by rfl) (.tmp 84) (.tmp 89) 56 60 (.agg #[.int .i64 0, .slice none 0 0, .int .i64 0]) 40 rfl Try.underlying56 infoQ rfl (by decide) (by decide) (.slice (some ⟨be, 0, none⟩) 0 0) [] r A3 R c3 (fun k => ok k ∨ W.heap.size ≤ k) (fun k => ((ok k ∨ W.heap.size ≤ k) ∧ k < wd.heap.size) ∧ some k ≠ (Value.slice A3 R c3).ownBlock) rfl rfl HE.out (Q_readsM (Kd.Q_below HRW.out HB2.out)) (fun _ _ h => h) (fun k hk => ⟨hk.1.1, fun e => by have h_ : k = be := Option.some.inj (show some k = some be from e); have := hk.1.2; have := HBE.out; omega⟩) ?aF (below_step HD.out.bel HB2.out) ?aS ?aL ?_
              case aF => exact fun k hk => .inr (Nat.le_trans HD.out.keep.1 (Nat.le_trans HB2.out.size hk))
              case aS => exact Nat.le_trans HD.out.bel.size HB2.out.size
              case aL => have := HL1.out; simp; omega
              intro v1 wc hR_ hB_ hg_ hat_
              rw [List.nil_append] at hR_
              obtain ⟨A1, k1, hv1⟩ := Kd.R_slice hR_
              rw [HR.out] at hv1
              subst hv1
              have HA := Aside0.mk hR_
              have HB3 := Aside0.mk (fresh_app HB2.out hg_ (fun k e => by injection e with e; rw [← e]; exact HBE.out))
              have HV1 := Aside0.mk (show ∀ k, (Value.slice A1 R k1).ownBlock = some k → wd.heap.size ≤ k from fun k e => by rcases hat_ with h_ | ⟨b_, h_, hl_⟩ <;> rw [h_] at e <;> injection e with e <;> rw [← e] <;> first | exact HBE.out | exact Nat.le_trans HB2.out.size hl_)
              have HL := Aside0.mk ((hg_.block bl (blk_lt HL.out) (fun e => by injection e with e; exact HNE.out e)).trans HL.out)
              clear hR_ hB_ hg_ hat_
              refine And.intro ?_ ?_
              · repeat (first | exact Calm.okC_nil | (refine Calm.okC_cons (Or.inl (by decide +kernel)) ?_) | (refine Calm.okC_cons (Or.inr (by first | exact HG2.out _ HB3.out | exact (bx_cells (blk_below HXd.out HB3.out)).1 | exact (bx_cells (blk_below HXd.out HB3.out)).2.1 | exact (bx_cells (blk_below HXd.out HB3.out)).2.2)) ?_))
              refine Calm.put_dst (a' := ?_) rfl ?_ ?_
              rotate_left
              · simp only [Act.put, List.setIfInBounds_toArray, List.set_cons_zero, List.set_cons_succ, i64_w, i32_w]; rfl
              refine Calm.c_law rfl ?_
              refine Kd.R_append_rows_step rq (w0 := w0) w0.heap.size (by rfl) (.tmp 90) (.tmp 92) 56 60 (.agg #[.int .i64 0, .slice none 0 0, .int .i64 0]) 40 rfl Try.underlying56 infoQ rfl (by decide) (by decide) (.slice A1 R k1) r [⟨x.id, x.l, D⟩] (some ⟨bl, 0, none⟩) 1 1 (fun k => ok k ∨ W.heap.size ≤ k) (fun k => (ok k ∨ W.heap.size ≤ k) ∧ k < wd.heap.size) rfl rfl HA.out (lit_one rq (cs := [.int .i64 x.id, .slice (some ⟨bs, os, none⟩) M1 cX, .int .i64 D]) HL.out ⟨_, rfl, Kd.Q_below HQd.out HB3.out⟩) (fun _ _ h => h) (fun k hk => ⟨hk.1, fun e => by have := hk.2; have := HV1.out k e.symm; omega⟩) ?aF (below_step HD.out.bel HB3.out) ?aS ?aL ?_
              case aF => exact fun k hk => .inr (Nat.le_trans HD.out.keep.1 (Nat.le_trans HB3.out.size hk))
              case aS => exact Nat.le_trans HD.out.bel.size HB3.out.size
              case aL => have := HL1.out; have := HR.out; omega
              intro v2 we hR_ hB_ hg_ hat_
              obtain ⟨n2, hn2⟩ : ∃ z, (r ++ [(⟨x.id, x.l, D⟩ : Qu)]).length = z := ⟨_, rfl⟩
              obtain ⟨A2, k2, hv2⟩ := Kd.R_slice hR_
              rw [hn2] at hv2
              subst hv2
              have HB4 := Aside0.mk (fresh_app HB3.out hg_ HV1.out)
              have HHr := Aside0.mk ((HD.out.below HB4.out).setrow (Kd.Q_of_R hR_))
              obtain ⟨-, -, c4_, -, f4_, -⟩ := (HD.out.below HB4.out).cells
              obtain ⟨-, -, -, c5_, -, f5_⟩ := HHr.out.cells
              clear hn2 hR_ hB_ hg_ hat_
              refine And.intro ?_ ?_
              · repeat (first | exact Calm.okC_nil | (refine Calm.okC_cons (Or.inl (by decide +kernel)) ?_) | (refine Calm.okC_cons (Or.inr (by first | exact HG2.out _ HB4.out | exact (bx_cells (blk_below HXd.out HB4.out)).1 | exact (bx_cells (blk_below HXd.out HB4.out)).2.1 | exact (bx_cells (blk_below HXd.out HB4.out)).2.2)) ?_))
              refine Calm.put_dst (a' := ?_) rfl ?_ ?_
              rotate_left
              · simp only [Act.put, List.setIfInBounds_toArray, List.set_cons_zero, List.set_cons_succ, i64_w, i32_w]; rfl
              refine Calm.c_value (v := ?_) (w1 := ?_) (a' := ?_) rfl rfl (by rfl) ?_ ?_ ?_ ?_
              rotate_left
              rotate_left
              · go_simp; first | (refine And.intro ?_ ?_ <;> rfl) | rfl
              · repeat (first | exact Calm.okC_nil | (refine Calm.okC_cons (Or.inl (by decide +kernel)) ?_) | (refine Calm.okC_cons (Or.inr (by fail)) ?_))
              rotate_left
              · simp only [Act.put, List.setIfInBounds_toArray, List.set_cons_zero, List.set_cons_succ, i64_w, i32_w]; rfl
              refine Calm.c_value (v := ?_) (w1 := ?_) (a' := ?_) rfl rfl (by rfl) ?_ ?_ ?_ ?_
              rotate_left
              rotate_left
              · go_simp; first | (refine And.intro ?_ ?_ <;> rfl) | rfl
              · repeat (first | exact Calm.okC_nil | (refine Calm.okC_cons (Or.inl (by decide +kernel)) ?_) | (refine Calm.okC_cons (Or.inr (by fail)) ?_))
              rotate_left
              · simp only [Act.put, List.setIfInBounds_toArray, List.set_cons_zero, List.set_cons_succ, i64_w, i32_w]; rfl
              refine Calm.c_store (w1 := ?_) rfl (by rfl) rfl ?_ ?_ ?_
              rotate_left
              · go_simp; rfl
              · repeat (first | exact Calm.okC_nil | (refine Calm.okC_cons (Or.inl (by decide +kernel)) ?_) | (refine Calm.okC_cons (Or.inr (by fail)) ?_))
              refine Calm.h_nil ?_
              refine Calm.tr_done ?_
              simp only [Exit.inBlock, Exit.then]
              go_wp2_with (fail)
              go_roundw
              case rel => exact ⟨waitS u x r, ⟨rwait_fin HHr.out HS.out HI.out HDU.out HU.out HW.out⟩⟩
              case measure => exact rwait_less (rwait_fin HHr.out HS.out HI.out HDU.out HU.out HW.out) HS.out HI.out HDU.out HW.out HM.out
          · refine Calm.c_value (v := ?_) (w1 := ?_) (a' := ?_) rfl rfl (by rfl) ?_ ?_ ?_ ?_
            rotate_left
            rotate_left
            · go_simp; first | (refine And.intro ?_ ?_ <;> rfl) | rfl
            · repeat (first | exact Calm.okC_nil | (refine Calm.okC_cons (Or.inl (by decide +kernel)) ?_) | (refine Calm.okC_cons (Or.inr (by first | exact HG2.out _ (below_step HB0.out (below_alloc (Below.refl _ _) _)) | exact (bx_cells (blk_below HXd.out (below_step HB0.out (below_alloc (Below.refl _ _) _)))).1 | exact (bx_cells (blk_below HXd.out (below_step HB0.out (below_alloc (Below.refl _ _) _)))).2.1 | exact (bx_cells (blk_below HXd.out (below_step HB0.out (below_alloc (Below.refl _ _) _)))).2.2)) ?_))
            rotate_left
            · simp only [Act.put, List.setIfInBounds_toArray, List.set_cons_zero, List.set_cons_succ, i64_w, i32_w]; rfl
            have hsz_ := HB0.out.size
            have HB1 := Aside0.mk (below_step HB0.out (below_alloc (Below.refl wd.heap.size wd) (.cells #[.int .i64 x.id, .slice (some ⟨bs, os, none⟩) M1 cX, .int .i64 D] 60)))
            have HL := Aside0.mk (blk_new wd (.cells #[.int .i64 x.id, .slice (some ⟨bs, os, none⟩) M1 cX, .int .i64 D] 60))
            generalize hw_ : World.alloc wd (.cells #[.int .i64 x.id, .slice (some ⟨bs, os, none⟩) M1 cX, .int .i64 D] 60) = wa at HB1 HL ⊢
            obtain ⟨bl, hbl⟩ : ∃ z, wd.heap.size = z := ⟨_, rfl⟩
            rw [hbl] at HL ⊢
            have HLT := Aside0.mk (show bl < wa.heap.size from blk_lt HL.out)
            clear hw_ hbl hsz_
            refine Calm.h_nil ?_
            refine Calm.tr_lin ?_
            refine Calm.c_value (v := ?_) (w1 := ?_) (a' := ?_) rfl rfl (by rfl) ?_ ?_ ?_ ?_
            rotate_left
            rotate_left
            · go_simp; first | (refine And.intro ?_ ?_ <;> rfl) | rfl
            · repeat (first | exact Calm.okC_nil | (refine Calm.okC_cons (Or.inl (by decide +kernel)) ?_) | (refine Calm.okC_cons (Or.inr (by first | exact HG2.out _ (below_step HB1.out (below_alloc (Below.refl _ _) _)) | exact (bx_cells (blk_below HXd.out (below_step HB1.out (below_alloc (Below.refl _ _) _)))).1 | exact (bx_cells (blk_below HXd.out (below_step HB1.out (below_alloc (Below.refl _ _) _)))).2.1 | exact (bx_cells (blk_below HXd.out (below_step HB1.out (below_alloc (Below.refl _ _) _)))).2.2)) ?_))
            rotate_left
            · simp only [Act.put, List.setIfInBounds_toArray, List.set_cons_zero, List.set_cons_succ, i64_w, i32_w]; rfl
            have hsz_ := HB1.out.size
            have HB2 := Aside0.mk (below_step HB1.out (below_alloc (Below.refl wa.heap.size wa) (.cells #[] 60)))
            have HL := Aside0.mk (blk_alloc HL.out (.cells #[] 60))
            have HE := Aside0.mk (Kd.R_lower (lit_empty rq wa 60 (fun k => ok k ∨ W.heap.size ≤ k) (.inr (Nat.le_trans HD.out.keep.1 hsz_))) (Nat.le_trans HD.out.bel.size hsz_))
            generalize hw_ : World.alloc wa (.cells #[] 60) = wb1 at HB2 HL HE ⊢
            obtain ⟨be, hbe⟩ : ∃ z, wa.heap.size = z := ⟨_, rfl⟩
            have HE := Aside0.mk (show rq.R 60 wb1 w0.heap.size (fun k => ok k ∨ W.heap.size ≤ k) (.slice (some ⟨be, 0, none⟩) 0 0) [] by rw [← hbe]; exact HE.out)
            have HBE := Aside0.mk (show wd.heap.size ≤ be by rw [← hbe]; exact hsz_)
            rw [hbe]
            have HNE := Aside0.mk (show bl ≠ be by have := HLT.out; omega)
            clear hw_ hbe hsz_
            refine Calm.c_law rfl ?_
            refine Kd.R_append_rows_step rq (w0 := w0) w0.heap.size (by rfl) (.tmp 84) (.tmp 89) 56 60 (.agg #[.int .i64 0, .slice none 0 0, .int .i64 0]) 40 rfl Try.underlying56 infoQ rfl (by decide) (by decide) (.slice (some ⟨be, 0, none⟩) 0 0) [] r A3 R c3 (fun k => ok k ∨ W.heap.size ≤ k) (fun k => ((ok k ∨ W.heap.size ≤ k) ∧ k < wd.heap.size) ∧ some k ≠ (Value.slice A3 R c3).ownBlock) rfl rfl HE.out (Q_readsM (Kd.Q_below HRW.out HB2.out)) (fun _ _ h => h) (fun k hk => ⟨hk.1.1, fun e => by have h_ : k = be := Option.some.inj (show some k = some be from e); have := hk.1.2; have := HBE.out; omega⟩) ?aF (below_step HD.out.bel HB2.out) ?aS ?aL ?_
            case aF => exact fun k hk => .inr (Nat.le_trans HD.out.keep.1 (Nat.le_trans HB2.out.size hk))
            case aS => exact Nat.le_trans HD.out.bel.size HB2.out.size
            case aL => have := HL1.out; simp; omega
            intro v1 wc hR_ hB_ hg_ hat_
            rw [List.nil_append] at hR_
            obtain ⟨A1, k1, hv1⟩ := Kd.R_slice hR_
            rw [HR.out] at hv1
            subst hv1
            have HA := Aside0.mk hR_
            have HB3 := Aside0.mk (fresh_app HB2.out hg_ (fun k e => by injection e with e; rw [← e]; exact HBE.out))
            have HV1 := Aside0.mk (show ∀ k, (Value.slice A1 R k1).ownBlock = some k → wd.heap.size ≤ k from fun k e => by rcases hat_ with h_ | ⟨b_, h_, hl_⟩ <;> rw [h_] at e <;> injection e with e <;> rw [← e] <;> first | exact HBE.out | exact Nat.le_trans HB2.out.size hl_)
            have HL := Aside0.mk ((hg_.block bl (blk_lt HL.out) (fun e => by injection e with e; exact HNE.out e)).trans HL.out)
            clear hR_ hB_ hg_ hat_
            refine And.intro ?_ ?_
            · repeat (first | exact Calm.okC_nil | (refine Calm.okC_cons (Or.inl (by decide +kernel)) ?_) | (refine Calm.okC_cons (Or.inr (by first | exact HG2.out _ HB3.out | exact (bx_cells (blk_below HXd.out HB3.out)).1 | exact (bx_cells (blk_below HXd.out HB3.out)).2.1 | exact (bx_cells (blk_below HXd.out HB3.out)).2.2)) ?_))
            refine Calm.put_dst (a' := ?_) rfl ?_ ?_
            rotate_left
            · simp only [Act.put, List.setIfInBounds_toArray, List.set_cons_zero, List.set_cons_succ, i64_w, i32_w]; rfl
            refine Calm.c_law rfl ?_
            refine Kd.R_append_rows_step rq (w0 := w0) w0.heap.size (by rfl) (.tmp 90) (.tmp 92) 56 60 (.agg #[.int .i64 0, .slice none 0 0, .int .i64 0]) 40 rfl Try.underlying56 infoQ rfl (by decide) (by decide) (.slice A1 R k1) r [⟨x.id, x.l, D⟩] (some ⟨bl, 0, none⟩) 1 1 (fun k => ok k ∨ W.heap.size ≤ k) (fun k => (ok k ∨ W.heap.size ≤ k) ∧ k < wd.heap.size) rfl rfl HA.out (lit_one rq (cs := [.int .i64 x.id, .slice (some ⟨bs, os, none⟩) M1 cX, .int .i64 D]) HL.out ⟨_, rfl, Kd.Q_below HQd.out HB3.out⟩) (fun _ _ h => h) (fun k hk => ⟨hk.1, fun e => by have := hk.2; have := HV1.out k e.symm; omega⟩) ?aF (below_step HD.out.bel HB3.out) ?aS ?aL ?_
            case aF => exact fun k hk => .inr (Nat.le_trans HD.out.keep.1 (Nat.le_trans HB3.out.size hk))
            case aS => exact Nat.le_trans HD.out.bel.size HB3.out.size
            case aL => have := HL1.out; have := HR.out; omega
            intro v2 we hR_ hB_ hg_ hat_
            obtain ⟨n2, hn2⟩ : ∃ z, (r ++ [(⟨x.id, x.l, D⟩ : Qu)]).length = z := ⟨_, rfl⟩
            obtain ⟨A2, k2, hv2⟩ := Kd.R_slice hR_
            rw [hn2] at hv2
            subst hv2
            have HB4 := Aside0.mk (fresh_app HB3.out hg_ HV1.out)
            have HHr := Aside0.mk ((HD.out.below HB4.out).setrow (Kd.Q_of_R hR_))
            obtain ⟨-, -, c4_, -, f4_, -⟩ := (HD.out.below HB4.out).cells
            obtain ⟨-, -, -, c5_, -, f5_⟩ := HHr.out.cells
            clear hn2 hR_ hB_ hg_ hat_
            refine And.intro ?_ ?_
            · repeat (first | exact Calm.okC_nil | (refine Calm.okC_cons (Or.inl (by decide +kernel)) ?_) | (refine Calm.okC_cons (Or.inr (by first | exact HG2.out _ HB4.out | exact (bx_cells (blk_below HXd.out HB4.out)).1 | exact (bx_cells (blk_below HXd.out HB4.out)).2.1 | exact (bx_cells (blk_below HXd.out HB4.out)).2.2)) ?_))
            refine Calm.put_dst (a' := ?_) rfl ?_ ?_
            rotate_left
            · simp only [Act.put, List.setIfInBounds_toArray, List.set_cons_zero, List.set_cons_succ, i64_w, i32_w]; rfl
            refine Calm.c_value (v := ?_) (w1 := ?_) (a' := ?_) rfl rfl (by rfl) ?_ ?_ ?_ ?_
            rotate_left
            rotate_left
            · go_simp; first | (refine And.intro ?_ ?_ <;> rfl) | rfl
            · repeat (first | exact Calm.okC_nil | (refine Calm.okC_cons (Or.inl (by decide +kernel)) ?_) | (refine Calm.okC_cons (Or.inr (by fail)) ?_))
            rotate_left
            · simp only [Act.put, List.setIfInBounds_toArray, List.set_cons_zero, List.set_cons_succ, i64_w, i32_w]; rfl
            refine Calm.c_value (v := ?_) (w1 := ?_) (a' := ?_) rfl rfl (by rfl) ?_ ?_ ?_ ?_
            rotate_left
            rotate_left
            · go_simp; first | (refine And.intro ?_ ?_ <;> rfl) | rfl
            · repeat (first | exact Calm.okC_nil | (refine Calm.okC_cons (Or.inl (by decide +kernel)) ?_) | (refine Calm.okC_cons (Or.inr (by fail)) ?_))
            rotate_left
            · simp only [Act.put, List.setIfInBounds_toArray, List.set_cons_zero, List.set_cons_succ, i64_w, i32_w]; rfl
            refine Calm.c_store (w1 := ?_) rfl (by rfl) rfl ?_ ?_ ?_
            rotate_left
            · go_simp; rfl
            · repeat (first | exact Calm.okC_nil | (refine Calm.okC_cons (Or.inl (by decide +kernel)) ?_) | (refine Calm.okC_cons (Or.inr (by fail)) ?_))
            refine Calm.h_nil ?_
            refine Calm.tr_done ?_
            simp only [Exit.inBlock, Exit.then]
            go_wp2_with (fail)
            go_roundw
            case rel => exact ⟨waitS u x r, ⟨rwait_fin HHr.out HS.out HI.out HDU.out HU.out HW.out⟩⟩
            case measure => exact rwait_less (rwait_fin HHr.out HS.out HI.out HDU.out HU.out HW.out) HS.out HI.out HDU.out HW.out HM.out
        · have HW := Aside0.mk (show ((Fair.hd x.l).size : Int) ≤ D by rw [HT0.out]; omega)
          have S1 : decide ((t.size : Int) ≤ D) = true := decide_eq_true (by omega)
          have S2 : decide (D ≥ (t.size : Int)) = true := S1
          obtain ⟨A2, ca, hcut, hob, hcq2⟩ := cut_q Kd.string (t := 34) (e := 9) Try.underlying34 infoS rfl (some ⟨bs, os, none⟩) cX HM1.out
          have HCS := Aside0.mk hcq2
          have W2 : wrap64 (D - (t.size : Int)) = D - (t.size : Int) := wrap_sub HDB.out HTB.out
          have W3 : IntKind.i64.wrap (D - (t.size : Int)) = D - (t.size : Int) := (i64_w _).trans W2
          clear hob hcq2 hw
          have HB7 := Aside0.mk (show Below wr.heap.size wr ((wb.setCell ⟨bx, 2, none⟩ (.int .i64 (D - (t.size : Int)))).setCell ⟨bx, 1, none⟩ (.slice A2 N ca)) from below_set (below_set HBt.out (Nat.le_of_eq HBXE.out)) (Nat.le_of_eq HBXE.out))
          have HT9 := Aside0.mk ((HH0.out.below HB7.out).setsv true)
          by_cases hz : N = 0
          · have HZ := Aside0.mk hz
            subst hz
            have HT10 := Aside0.mk ((HT9.out.setrow (HCR.out _ _ _ _ _ HT9.out.row)).setsv false)
            go_wp2_with (fail)
            go_ret3
            rw [rtake_eq HU.out HS.out HDU.out HW.out, takeS_one (by have := HML.out; have := HM1.out; omega)]
            refine ⟨?_, _, HT10.out⟩
            rw [HT0.out]
            rfl
          · have z1 : ((N : Int) == 0) = false := beq_eq_false_iff_ne.2 (by omega)
            have z2 : (N == 0) = false := beq_eq_false_iff_ne.2 (by omega)
            have z3 : decide (N = 0) = false := decide_eq_false hz
            have HZ := Aside0.mk hz
            clear hz
            go_wp2_with (fail)
            have hx9 : wb.heap[bx]? = some (.cells #[.int .i64 x.id, .slice (some ⟨bs, os, none⟩) M1 cX, .int .i64 D] 60 (0, 0)) := HXt.out
            have hq7 := HCS.out _ _ _ (Fair.hd x.l) x.l.tail (by rw [hd_tail HPOS.out]; exact Kd.Q_below HQL.out HB7.out)
            have HQ9 := Aside0.mk (Q_tstep (w1 := (((wb.setCell ⟨bx, 2, none⟩ (.int .i64 (D - (t.size : Int)))).setCell ⟨bx, 1, none⟩ (.slice A2 N ca)).setCell ⟨g, 3, none⟩ (.bool true))) hq7 rfl (fun k _ _ ⟨cc, hc⟩ => Below.heap_setCell _ _ _ k (ty_ne hc (HH0.out.below HB7.out).blk (by decide))))
            have HX9 := Aside0.mk (show (((wb.setCell ⟨bx, 2, none⟩ (.int .i64 (D - (t.size : Int)))).setCell ⟨bx, 1, none⟩ (.slice A2 N ca)).setCell ⟨g, 3, none⟩ (.bool true)).heap[bx]? = some (.cells #[.int .i64 x.id, .slice A2 N ca, .int .i64 (D - (t.size : Int))] 60 (0, 0)) from (Below.heap_setCell _ _ _ bx ne2).trans (blk_set (blk_set hx9 2 (.int .i64 (D - (t.size : Int)))) 1 (.slice A2 N ca)))
            obtain ⟨D2, hD2⟩ : ∃ z, D - (t.size : Int) = z := ⟨_, rfl⟩
            have HD2 := Aside0.mk hD2
            rw [hD2] at HT9 HX9 HQ9 ⊢
            generalize (((wb.setCell ⟨bx, 2, none⟩ (.int .i64 D2)).setCell ⟨bx, 1, none⟩ (.slice A2 N ca)).setCell ⟨g, 3, none⟩ (.bool true)) = w9 at HT9 HX9 HQ9 ⊢
            clear hq7 hx9 HB7 hD2
            have HD := Aside0.mk (HT9.out.below (below_drew (Below.refl w9.heap.size w9)))
            have HG2 := Aside0.mk (fun W' (hb : Below w9.drew.heap.size w9.drew W') => (HT9.out.below (below_step (below_drew (Below.refl w9.heap.size w9)) hb)).cells.2.2.1)
            have HXd := Aside0.mk (blk_below HX9.out (below_drew (Below.refl w9.heap.size w9)))
            have HQd := Aside0.mk (Kd.Q_mono (Kd.Q_bound (Kd.Q_below HQ9.out (below_drew (Below.refl w9.heap.size w9)))) (ok' := fun k => (ok k ∨ W.heap.size ≤ k) ∧ k < w9.drew.heap.size) (fun k hk => ⟨hk.1.1, hk.2.2.1⟩))
            have HRW := Aside0.mk (Kd.Q_mono (Kd.Q_bound (HCR.out _ _ _ _ _ HD.out.row)) (ok' := fun k => (ok k ∨ W.heap.size ≤ k) ∧ k < w9.drew.heap.size) (fun k hk => ⟨hk.1, hk.2.2.1⟩))
            have HB0 := Aside0.mk (Below.refl w9.drew.heap.size w9.drew)
            have HL1 := Aside0.mk (show R + 1 ≤ 100000 by have := HL.out; have := HN1.out; omega)
            refine Calm.wp_region_calmC [(1, fun w_ => w_.cell? ⟨bx, 0, none⟩ = some (Value.int .i64 x.id)), (1, fun w_ => w_.cell? ⟨bx, 1, none⟩ = some (Value.slice A2 N ca)), (1, fun w_ => w_.cell? ⟨bx, 2, none⟩ = some (Value.int .i64 D2)), (6, fun w_ => w_.cell? ⟨g, 2, none⟩ = some (.slice (some ⟨b, o, none⟩) N1 c))] [0, 1, 3, 4, 5, 6, 7] [2, 8, 9, 10, 11] (by kernel_rfl) (by kernel_rfl) (Calm.allC_cons (by exact (bx_cells HXd.out).1) (Calm.allC_cons (by exact (bx_cells HXd.out).2.1) (Calm.allC_cons (by exact (bx_cells HXd.out).2.2) (Calm.allC_cons (by exact HG2.out _ HB0.out) Calm.allC_nil)))) ?_
            repeat (first
              | (refine Calm.g_value (v := ?_) (a' := ?_) rfl rfl (by rfl) ?_ ?_ ?_; rotate_left; (· rintro w' hS'; (try simp only [Calm.SC_cons, Calm.SC_nil, Nat.reduceEqDiff, forall_const, false_implies, and_true, true_and] at hS'); (try obtain ⟨hS1, hS2, hS3⟩ := hS'); go_simp; with_reducible rfl); rotate_left; (· simp only [Act.put, List.setIfInBounds_toArray, List.set_cons_zero, List.set_cons_succ, i64_w, i32_w]; rfl))
              | (refine Calm.g_value (v := ?_) (a' := ?_) rfl rfl (by rfl) ?_ ?_ ?_; rotate_left; (· rintro w' hS'; (try simp only [Calm.SC_cons, Calm.SC_nil, Nat.reduceEqDiff, forall_const, false_implies, and_true, true_and] at hS'); (try obtain ⟨hS1, hS2⟩ := hS'); go_simp; with_reducible rfl); rotate_left; (· simp only [Act.put, List.setIfInBounds_toArray, List.set_cons_zero, List.set_cons_succ, i64_w, i32_w]; rfl)))
            refine Calm.g_nil ?_
            generalize hwd_ : w9.drew = wd at HD HG2 HXd HQd HRW HB0 ⊢
            clear hwd_
            refine Calm.c_value (v := ?_) (w1 := ?_) (a' := ?_) rfl rfl (by rfl) ?_ ?_ ?_ ?_
            rotate_left
            rotate_left
            · go_simp; first | (refine And.intro ?_ ?_ <;> rfl) | rfl
            · repeat (first | exact Calm.okC_nil | (refine Calm.okC_cons (Or.inl (by decide +kernel)) ?_) | (refine Calm.okC_cons (Or.inr (by first | exact HG2.out _ (below_alloc (Below.refl _ _) _) | exact (bx_cells (blk_below HXd.out (below_alloc (Below.refl _ _) _))).1 | exact (bx_cells (blk_below HXd.out (below_alloc (Below.refl _ _) _))).2.1 | exact (bx_cells (blk_below HXd.out (below_alloc (Below.refl _ _) _))).2.2)) ?_))
            rotate_left
            · simp only [Act.put, List.setIfInBounds_toArray, List.set_cons_zero, List.set_cons_succ, i64_w, i32_w]; rfl
            have HA := Aside0.mk (lit_row rq (W := wd) (e := 60) (base := w0.heap.size) (p := ⟨x.id, x.l.tail, D2⟩) (cs := [.int .i64 x.id, .slice A2 N ca, .int .i64 D2]) (ok := (fun k => ok k ∨ W.heap.size ≤ k)) ⟨_, rfl, Kd.Q_mono (Kd.Q_alloc HQd.out _) (fun k hk => ⟨hk.1, by have := hk.2; omega⟩)⟩ (.inr HD.out.keep.1) HD.out.bel.size)
            have HB1 := Aside0.mk (below_alloc (Below.refl wd.heap.size wd) (.cells #[.int .i64 x.id, .slice A2 N ca, .int .i64 D2] 60))
            generalize hw_ : World.alloc wd (.cells #[.int .i64 x.id, .slice A2 N ca, .int .i64 D2] 60) = wa at HB1 ⊢
            rw [show World.alloc wd (.cells [.int .i64 x.id, .slice A2 N ca, .int .i64 D2].toArray 60) = wa from hw_] at HA
            obtain ⟨bl, hbl⟩ : ∃ z, wd.heap.size = z := ⟨_, rfl⟩
            have HBL := Aside0.mk hbl
            rw [hbl] at HA ⊢
            clear hw_ hbl
            refine Calm.c_law rfl ?_
            refine Kd.R_append_rows_step rq (w0 := w0) w0.heap.size (by rfl) (.tmp 71) (.tmp 76) 56 60 (.agg #[.int .i64 0, .slice none 0 0, .int .i64 0]) 40 rfl Try.underlying56 infoQ rfl (by decide) (by decide) (.slice (some ⟨bl, 0, none⟩) 1 1) [⟨x.id, x.l.tail, D2⟩] r A3 R c3 (fun k => ok k ∨ W.heap.size ≤ k) (fun k => ((ok k ∨ W.heap.size ≤ k) ∧ k < wd.heap.size) ∧ some k ≠ (Value.slice A3 R c3).ownBlock) rfl rfl HA.out (Q_readsM (Kd.Q_below HRW.out HB1.out)) (fun _ _ h => h) (fun k hk => ⟨hk.1.1, fun e => by have h_ : k = bl := Option.some.inj (show some k = some bl from e); have := hk.1.2; have := HBL.out; omega⟩) ?aF (below_step HD.out.bel HB1.out) ?aS ?aL ?_
            case aF => exact fun k hk => .inr (Nat.le_trans HD.out.keep.1 (Nat.le_trans HB1.out.size hk))
            case aS => exact Nat.le_trans HD.out.bel.size HB1.out.size
            case aL => have := HL1.out; simp; omega
            intro v2 we hR_ hB_ hg_ hat_
            obtain ⟨n2, hn2⟩ : ∃ z, ([(⟨x.id, x.l.tail, D2⟩ : Qu)] ++ r).length = z := ⟨_, rfl⟩
            obtain ⟨A4, k4, hv4⟩ := Kd.R_slice hR_
            rw [hn2] at hv4
            subst hv4
            have HB2 := Aside0.mk (fresh_app HB1.out hg_ (fun k e => by have h_ : bl = k := Option.some.inj (show some bl = some k from e); have := HBL.out; omega))
            have HHr := Aside0.mk ((HD.out.below HB2.out).setrow (Kd.Q_of_R hR_))
            obtain ⟨-, -, c4_, -, f4_, -⟩ := (HD.out.below HB2.out).cells
            obtain ⟨e0_, -, -⟩ := bx_cells (blk_below HXd.out HB2.out)
            clear hn2 hR_ hB_ hg_ hat_
            refine And.intro ?_ ?_
            · repeat (first | exact Calm.okC_nil | (refine Calm.okC_cons (Or.inl (by decide +kernel)) ?_) | (refine Calm.okC_cons (Or.inr (by first | exact HG2.out _ HB2.out | exact (bx_cells (blk_below HXd.out HB2.out)).1 | exact (bx_cells (blk_below HXd.out HB2.out)).2.1 | exact (bx_cells (blk_below HXd.out HB2.out)).2.2)) ?_))
            refine Calm.put_dst (a' := ?_) rfl ?_ ?_
            rotate_left
            · simp only [Act.put, List.setIfInBounds_toArray, List.set_cons_zero, List.set_cons_succ, i64_w, i32_w]; rfl
            refine Calm.c_value (v := ?_) (w1 := ?_) (a' := ?_) rfl rfl (by rfl) ?_ ?_ ?_ ?_
            rotate_left
            rotate_left
            · go_simp; first | (refine And.intro ?_ ?_ <;> rfl) | rfl
            · repeat (first | exact Calm.okC_nil | (refine Calm.okC_cons (Or.inl (by decide +kernel)) ?_) | (refine Calm.okC_cons (Or.inr (by fail)) ?_))
            rotate_left
            · simp only [Act.put, List.setIfInBounds_toArray, List.set_cons_zero, List.set_cons_succ, i64_w, i32_w]; rfl
            refine Calm.c_value (v := ?_) (w1 := ?_) (a' := ?_) rfl rfl (by rfl) ?_ ?_ ?_ ?_
            rotate_left
            rotate_left
            · go_simp; first | (refine And.intro ?_ ?_ <;> rfl) | rfl
            · repeat (first | exact Calm.okC_nil | (refine Calm.okC_cons (Or.inl (by decide +kernel)) ?_) | (refine Calm.okC_cons (Or.inr (by fail)) ?_))
            rotate_left
            · simp only [Act.put, List.setIfInBounds_toArray, List.set_cons_zero, List.set_cons_succ, i64_w, i32_w]; rfl
            refine Calm.c_store (w1 := ?_) rfl (by rfl) rfl ?_ ?_ ?_
            rotate_left
            · go_simp; rfl
            · repeat (first | exact Calm.okC_nil | (refine Calm.okC_cons (Or.inl (by decide +kernel)) ?_) | (refine Calm.okC_cons (Or.inr (by fail)) ?_))
            refine Calm.h_nil ?_
            simp only [Exit.inBlock, Exit.then]
            clear hcut hcutr hc5 y0 y1 y2 yf1 yf2 t2_ t3_ tf2_ tf3_
            go_wp2_with (fail)
            go_ret3
            rw [rtake_eq HU.out HS.out HDU.out HW.out, takeS_more (by have := HML.out; have := HM1.out; have := HZ.out; omega), HDU.out, HT0.out, HD2.out]
            refine ⟨?_, _, HHr.out⟩
            rfl
      | false =>
        rw [hsv] at r3_ HH0
        have hdq : x.d + u.qu = D := by rw [← hD]; unfold Fair.due; rw [hsv]; rfl
        have w1_ : wrap64 (x.d + u.qu) = D := by rw [hdq]; have h1_ := HDB.out; clear r3_ r1_ r2_ x0 x1 x2; unfold wrap64; omega
        have w2_ : IntKind.i64.wrap (x.d + u.qu) = D := (i64_w _).trans w1_
        obtain ⟨v0_, v1_, v2_⟩ := bx_cells HXb.out
        have vf_ := blk_frozen HXb.out 2
        obtain ⟨-, p1_, p2_, p3_, -, -⟩ := (HH0.out.below HBb.out).cells
        clear hdq hsv hD hba hbox
        go_wp2_with (fail)
        go_region
        simp only [Exit.then]
        have HBt := Aside0.mk (below_drew (below_set (j := 2) (v := .int .i64 D) HBb.out (Nat.le_of_eq HBXE.out)))
        have HXt := Aside0.mk (show (wb.setCell ⟨bx, 2, none⟩ (.int .i64 D)).drew.heap[bx]? = some (.cells #[.int .i64 x.id, .slice (some ⟨bs, os, none⟩) M1 cX, .int .i64 D] 60 (0, 0)) from blk_set HXb.out 2 (.int .i64 D))
        generalize (wb.setCell ⟨bx, 2, none⟩ (.int .i64 D)).drew = wt at HBt HXt ⊢
        clear w1_ w2_ v0_ v1_ v2_ vf_ p1_ p2_ p3_
        have HT := Aside0.mk (HH0.out.below HBt.out)
        have hc5 := q_cell HQL.out HBt.out s0
        obtain ⟨y0, y1, y2⟩ := bx_cells HXt.out
        have yf1 := blk_frozen HXt.out 1
        have yf2 := blk_frozen HXt.out 2
        obtain ⟨-, -, t2_, t3_, tf2_, tf3_⟩ := HT.out.cells
        obtain ⟨A3, c3, hcutr, hobr, hcqr⟩ := cut_r (some ⟨b, o, none⟩) c HN1.out
        have HCR := Aside0.mk hcqr
        clear hobr hcqr
        by_cases hw : D < (t.size : Int)
        · have HW := Aside0.mk (show D < ((Fair.hd x.l).size : Int) by rw [HT0.out]; exact hw)
          have S1 : decide ((t.size : Int) ≤ D) = false := decide_eq_false (by omega)
          have S2 : decide (D ≥ (t.size : Int)) = false := S1
          clear hw
          go_wp2_with (fail)
          have hbd : Below wr.heap.size wr wt.drew := below_step HBt.out (below_drew (Below.refl _ _))
          have HD := Aside0.mk (HH0.out.below hbd)
          have HG2 := Aside0.mk (fun W' (hb : Below wt.drew.heap.size wt.drew W') => (HH0.out.below (below_step hbd hb)).cells.2.2.1)
          have HXd := Aside0.mk (blk_below HXt.out (below_drew (Below.refl wt.heap.size wt)))
          have HQd := Aside0.mk (Kd.Q_mono (Kd.Q_bound (Kd.Q_below HQL.out hbd)) (ok' := fun k => (ok k ∨ W.heap.size ≤ k) ∧ k < wt.drew.heap.size) (fun k hk => ⟨hk.1.1, hk.2.2.1⟩))
          have HRW := Aside0.mk (Kd.Q_mono (Kd.Q_bound (HCR.out _ _ _ _ _ HD.out.row)) (ok' := fun k => (ok k ∨ W.heap.size ≤ k) ∧ k < wt.drew.heap.size) (fun k hk => ⟨hk.1, hk.2.2.1⟩))
          have HB0 := Aside0.mk (Below.refl wt.drew.heap.size wt.drew)
          have HL1 := Aside0.mk (show R + 1 ≤ 100000 by have := HL.out; have := HN1.out; omega)
          clear HL hbd x0 x1 x2 s0 r1_ r2_ y0 y1 y2 hc5 yf1 yf2 t2_ t3_ tf2_ tf3_
          refine Calm.wp_region_trC [(5, fun w_ => w_.cell? ⟨g, 2, none⟩ = some (.slice (some ⟨b, o, none⟩) N1 c)), (8, fun w_ => w_.cell? ⟨bx, 0, none⟩ = some (Value.int .i64 x.id)), (8, fun w_ => w_.cell? ⟨bx, 1, none⟩ = some (Value.slice (some ⟨bs, os, none⟩) M1 cX)), (8, fun w_ => w_.cell? ⟨bx, 2, none⟩ = some (Value.int .i64 D))] [0, 2, 3, 4, 5, 6, 8] (.two 1 (.two 7 (.lin [9, 10, 11, 12, 13] .done) 9 (.lin [7, 10, 11, 12, 13] .done)) 9 (.lin [1, 7, 10, 11, 12, 13] .done)) (by kernel_rfl) (by kernel_rfl) (Calm.allC_cons (by exact HG2.out _ HB0.out) (Calm.allC_cons (by exact (bx_cells HXd.out).1) (Calm.allC_cons (by exact (bx_cells HXd.out).2.1) (Calm.allC_cons (by exact (bx_cells HXd.out).2.2) Calm.allC_nil)))) ?_
          repeat (first
            | (refine Calm.g_value (v := ?_) (a' := ?_) rfl rfl (by rfl) ?_ ?_ ?_; rotate_left; (· rintro w' hS'; (try simp only [Calm.SC_cons, Calm.SC_nil, Nat.reduceEqDiff, forall_const, false_implies, and_true, true_and] at hS'); (try obtain ⟨hS1, hS2, hS3⟩ := hS'); go_simp; with_reducible rfl); rotate_left; (· simp only [Act.put, List.setIfInBounds_toArray, List.set_cons_zero, List.set_cons_succ, i64_w, i32_w]; rfl))
            | (refine Calm.g_value (v := ?_) (a' := ?_) rfl rfl (by rfl) ?_ ?_ ?_; rotate_left; (· rintro w' hS'; (try simp only [Calm.SC_cons, Calm.SC_nil, Nat.reduceEqDiff, forall_const, false_implies, and_true, true_and] at hS'); (try obtain ⟨hS1, hS2⟩ := hS'); go_simp; with_reducible rfl); rotate_left; (· simp only [Act.put, List.setIfInBounds_toArray, List.set_cons_zero, List.set_cons_succ, i64_w, i32_w]; rfl)))
          refine Calm.g_nil ?_
          generalize hwd_ : wt.drew = wd at HD HG2 HXd HQd HRW HB0 ⊢
          clear hwd_
          refine Calm.tr_two ?_ ?_
          · refine Calm.c_value (v := ?_) (w1 := ?_) (a' := ?_) rfl rfl (by rfl) ?_ ?_ ?_ ?_
            rotate_left
            rotate_left
            · go_simp; first | (refine And.intro ?_ ?_ <;> rfl) | rfl
            · repeat (first | exact Calm.okC_nil | (refine Calm.okC_cons (Or.inl (by decide +kernel)) ?_) | (refine Calm.okC_cons (Or.inr (by first | exact HG2.out _ (below_step HB0.out (below_alloc (Below.refl _ _) _)) | exact (bx_cells (blk_below HXd.out (below_step HB0.out (below_alloc (Below.refl _ _) _)))).1 | exact (bx_cells (blk_below HXd.out (below_step HB0.out (below_alloc (Below.refl _ _) _)))).2.1 | exact (bx_cells (blk_below HXd.out (below_step HB0.out (below_alloc (Below.refl _ _) _)))).2.2)) ?_))
            rotate_left
            · simp only [Act.put, List.setIfInBounds_toArray, List.set_cons_zero, List.set_cons_succ, i64_w, i32_w]; rfl
            have hsz_ := HB0.out.size
            have HB1 := Aside0.mk (below_step HB0.out (below_alloc (Below.refl wd.heap.size wd) (.cells #[] 60)))
            have HE := Aside0.mk (Kd.R_lower (lit_empty rq wd 60 (fun k => ok k ∨ W.heap.size ≤ k) (.inr (Nat.le_trans HD.out.keep.1 hsz_))) (Nat.le_trans HD.out.bel.size hsz_))
            generalize hw_ : World.alloc wd (.cells #[] 60) = wa at HB1 HE ⊢
            obtain ⟨be, hbe⟩ : ∃ z, wd.heap.size = z := ⟨_, rfl⟩
            have HE := Aside0.mk (show rq.R 60 wa w0.heap.size (fun k => ok k ∨ W.heap.size ≤ k) (.slice (some ⟨be, 0, none⟩) 0 0) [] by rw [← hbe]; exact HE.out)
            have HBE := Aside0.mk (show wd.heap.size ≤ be by rw [← hbe]; exact hsz_)
            rw [hbe]
            clear hw_ hbe hsz_
            refine Calm.h_nil ?_
            refine Calm.tr_two ?_ ?_
            · refine Calm.c_law rfl ?_
              refine Kd.R_append_rows_step rq (w0 := w0) w0.heap.size (by rfl) (.tmp 84) (.tmp 89) 56 60 (.agg #[.int .i64 0, .slice none 0 0, .int .i64 0]) 40 rfl Try.underlying56 infoQ rfl (by decide) (by decide) (.slice (some ⟨be, 0, none⟩) 0 0) [] r A3 R c3 (fun k => ok k ∨ W.heap.size ≤ k) (fun k => ((ok k ∨ W.heap.size ≤ k) ∧ k < wd.heap.size) ∧ some k ≠ (Value.slice A3 R c3).ownBlock) rfl rfl HE.out (Q_readsM (Kd.Q_below HRW.out HB1.out)) (fun _ _ h => h) (fun k hk => ⟨hk.1.1, fun e => by have h_ : k = be := Option.some.inj (show some k = some be from e); have := hk.1.2; have := HBE.out; omega⟩) ?aF (below_step HD.out.bel HB1.out) ?aS ?aL ?_
              case aF => exact fun k hk => .inr (Nat.le_trans HD.out.keep.1 (Nat.le_trans HB1.out.size hk))
              case aS => exact Nat.le_trans HD.out.bel.size HB1.out.size
              case aL => have := HL1.out; simp; omega
              intro v1 wb1 hR_ hB_ hg_ hat_
              rw [List.nil_append] at hR_
              obtain ⟨A1, k1, hv1⟩ := Kd.R_slice hR_
              rw [HR.out] at hv1
              subst hv1
              have HA := Aside0.mk hR_
              have HB2 := Aside0.mk (fresh_app HB1.out hg_ (fun k e => by injection e with e; rw [← e]; exact HBE.out))
              have HV1 := Aside0.mk (show ∀ k, (Value.slice A1 R k1).ownBlock = some k → wd.heap.size ≤ k from fun k e => by rcases hat_ with h_ | ⟨b_, h_, hl_⟩ <;> rw [h_] at e <;> injection e with e <;> rw [← e] <;> first | exact HBE.out | exact Nat.le_trans HB1.out.size hl_)
              clear hR_ hB_ hg_ hat_
              refine And.intro ?_ ?_
              · repeat (first | exact Calm.okC_nil | (refine Calm.okC_cons (Or.inl (by decide +kernel)) ?_) | (refine Calm.okC_cons (Or.inr (by first | exact HG2.out _ HB2.out | exact (bx_cells (blk_below HXd.out HB2.out)).1 | exact (bx_cells (blk_below HXd.out HB2.out)).2.1 | exact (bx_cells (blk_below HXd.out HB2.out)).2.2)) ?_))
              refine Calm.put_dst (a' := ?_) rfl ?_ ?_
              rotate_left
              · simp only [Act.put, List.setIfInBounds_toArray, List.set_cons_zero, List.set_cons_succ, i64_w, i32_w]; rfl
              refine Calm.h_nil ?_
              refine Calm.tr_lin ?_
              refine Calm.c_value (v := ?_) (w1 := ?_) (a' := ?_) rfl rfl (by rfl) ?_ ?_ ?_ ?_
              rotate_left
              rotate_left
              · go_simp; first | (refine And.intro ?_ ?_ <;> rfl) | rfl
              · repeat (first | exact Calm.okC_nil | (refine Calm.okC_cons (Or.inl (by decide +kernel)) ?_) | (refine Calm.okC_cons (Or.inr (by first | exact HG2.out _ (below_step HB2.out (below_alloc (Below.refl _ _) _)) | exact (bx_cells (blk_below HXd.out (below_step HB2.out (below_alloc (Below.refl _ _) _)))).1 | exact (bx_cells (blk_below HXd.out (below_step HB2.out (below_alloc (Below.refl _ _) _)))).2.1 | exact (bx_cells (blk_below HXd.out (below_step HB2.out (below_alloc (Below.refl _ _) _)))).2.2)) ?_))
              rotate_left
              · simp only [Act.put, List.setIfInBounds_toArray, List.set_cons_zero, List.set_cons_succ, i64_w, i32_w]; rfl
              have hsz_ := HB2.out.size
              have hlv_ := Kd.R_lt HA.out
              have HB3 := Aside0.mk (below_step HB2.out (below_alloc (Below.refl wb1.heap.size wb1) (.cells #[.int .i64 x.id, .slice (some ⟨bs, os, none⟩) M1 cX, .int .i64 D] 60)))
              have HA := Aside0.mk (Kd.R_alloc HA.out (.cells #[.int .i64 x.id, .slice (some ⟨bs, os, none⟩) M1 cX, .int .i64 D] 60))
              have HL := Aside0.mk (blk_new wb1 (.cells #[.int .i64 x.id, .slice (some ⟨bs, os, none⟩) M1 cX, .int .i64 D] 60))
              generalize hw_ : World.alloc wb1 (.cells #[.int .i64 x.id, .slice (some ⟨bs, os, none⟩) M1 cX, .int .i64 D] 60) = wc at HB3 HA HL ⊢
              obtain ⟨bl, hbl⟩ : ∃ z, wb1.heap.size = z := ⟨_, rfl⟩
              rw [hbl] at HL ⊢
              have HLT := Aside0.mk (show bl < wc.heap.size from blk_lt HL.out)
              clear hw_ hbl hsz_ hlv_
              refine Calm.c_law rfl ?_
              refine Kd.R_append_rows_step rq (w0 := w0) w0.heap.size (by rfl) (.tmp 90) (.tmp 92) 56 60 (.agg #[.int .i64 0, .slice none 0 0, .int .i64 0]) 40 rfl Try.underlying56 infoQ rfl (by decide) (by decide) (.slice A1 R k1) r [⟨x.id, x.l, D⟩] (some ⟨bl, 0, none⟩) 1 1 (fun k => ok k ∨ W.heap.size ≤ k) (fun k => (ok k ∨ W.heap.size ≤ k) ∧ k < wd.heap.size) rfl rfl HA.out (lit_one rq (cs := [.int .i64 x.id, .slice (some ⟨bs, os, none⟩) M1 cX, .int .i64 D]) HL.out ⟨_, rfl, Kd.Q_below HQd.out HB3.out⟩) (fun _ _ h => h) (fun k hk => ⟨hk.1, fun e => by have := hk.2; have := HV1.out k e.symm; omega⟩) ?aF (below_step HD.out.bel HB3.out) ?aS ?aL ?_
              case aF => exact fun k hk => .inr (Nat.le_trans HD.out.keep.1 (Nat.le_trans HB3.out.size hk))
              case aS => exact Nat.le_trans HD.out.bel.size HB3.out.size
              case aL => have := HL1.out; have := HR.out; omega
              intro v2 we hR_ hB_ hg_ hat_
              obtain ⟨n2, hn2⟩ : ∃ z, (r ++ [(⟨x.id, x.l, D⟩ : Qu)]).length = z := ⟨_, rfl⟩
              obtain ⟨A2, k2, hv2⟩ := Kd.R_slice hR_
              rw [hn2] at hv2
              subst hv2
              have HB4 := Aside0.mk (fresh_app HB3.out hg_ HV1.out)
              have HHr := Aside0.mk ((HD.out.below HB4.out).setrow (Kd.Q_of_R hR_))
              obtain ⟨-, -, c4_, -, f4_, -⟩ := (HD.out.below HB4.out).cells
              obtain ⟨-, -, -, c5_, -, f5_⟩ := HHr.out.cells
              clear hn2 hR_ hB_ hg_ hat_
              refine And.intro ?_ ?_
              · repeat (first | exact Calm.okC_nil | (refine Calm.okC_cons (Or.inl (by decide +kernel)) ?_) | (refine Calm.okC_cons (Or.inr (by first | exact HG2.out _ HB4.out | exact (bx_cells (blk_below HXd.out HB4.out)).1 | exact (bx_cells (blk_below HXd.out HB4.out)).2.1 | exact (bx_cells (blk_below HXd.out HB4.out)).2.2)) ?_))
              refine Calm.put_dst (a' := ?_) rfl ?_ ?_
              rotate_left
              · simp only [Act.put, List.setIfInBounds_toArray, List.set_cons_zero, List.set_cons_succ, i64_w, i32_w]; rfl
              refine Calm.c_value (v := ?_) (w1 := ?_) (a' := ?_) rfl rfl (by rfl) ?_ ?_ ?_ ?_
              rotate_left
              rotate_left
              · go_simp; first | (refine And.intro ?_ ?_ <;> rfl) | rfl
              · repeat (first | exact Calm.okC_nil | (refine Calm.okC_cons (Or.inl (by decide +kernel)) ?_) | (refine Calm.okC_cons (Or.inr (by fail)) ?_))
              rotate_left
              · simp only [Act.put, List.setIfInBounds_toArray, List.set_cons_zero, List.set_cons_succ, i64_w, i32_w]; rfl
              refine Calm.c_value (v := ?_) (w1 := ?_) (a' := ?_) rfl rfl (by rfl) ?_ ?_ ?_ ?_
              rotate_left
              rotate_left
              · go_simp; first | (refine And.intro ?_ ?_ <;> rfl) | rfl
              · repeat (first | exact Calm.okC_nil | (refine Calm.okC_cons (Or.inl (by decide +kernel)) ?_) | (refine Calm.okC_cons (Or.inr (by fail)) ?_))
              rotate_left
              · simp only [Act.put, List.setIfInBounds_toArray, List.set_cons_zero, List.set_cons_succ, i64_w, i32_w]; rfl
              refine Calm.c_store (w1 := ?_) rfl (by rfl) rfl ?_ ?_ ?_
              rotate_left
              · go_simp; rfl
              · repeat (first | exact Calm.okC_nil | (refine Calm.okC_cons (Or.inl (by decide +kernel)) ?_) | (refine Calm.okC_cons (Or.inr (by fail)) ?_))
              refine Calm.h_nil ?_
              refine Calm.tr_done ?_
              simp only [Exit.inBlock, Exit.then]
              go_wp2_with (fail)
              go_roundw
              case rel => exact ⟨waitS u x r, ⟨rwait_fin HHr.out HS.out HI.out HDU.out HU.out HW.out⟩⟩
              case measure => exact rwait_less (rwait_fin HHr.out HS.out HI.out HDU.out HU.out HW.out) HS.out HI.out HDU.out HW.out HM.out
            · refine Calm.c_value (v := ?_) (w1 := ?_) (a' := ?_) rfl rfl (by rfl) ?_ ?_ ?_ ?_
              rotate_left
              rotate_left
              · go_simp; first | (refine And.intro ?_ ?_ <;> rfl) | rfl
              · repeat (first | exact Calm.okC_nil | (refine Calm.okC_cons (Or.inl (by decide +kernel)) ?_) | (refine Calm.okC_cons (Or.inr (by first | exact HG2.out _ (below_step HB1.out (below_alloc (Below.refl _ _) _)) | exact (bx_cells (blk_below HXd.out (below_step HB1.out (below_alloc (Below.refl _ _) _)))).1 | exact (bx_cells (blk_below HXd.out (below_step HB1.out (below_alloc (Below.refl _ _) _)))).2.1 | exact (bx_cells (blk_below HXd.out (below_step HB1.out (below_alloc (Below.refl _ _) _)))).2.2)) ?_))
              rotate_left
              · simp only [Act.put, List.setIfInBounds_toArray, List.set_cons_zero, List.set_cons_succ, i64_w, i32_w]; rfl
              have hsz_ := HB1.out.size
              have hlt_ := Kd.R_lt HE.out be rfl
              have HB2 := Aside0.mk (below_step HB1.out (below_alloc (Below.refl wa.heap.size wa) (.cells #[.int .i64 x.id, .slice (some ⟨bs, os, none⟩) M1 cX, .int .i64 D] 60)))
              have HE := Aside0.mk (Kd.R_alloc HE.out (.cells #[.int .i64 x.id, .slice (some ⟨bs, os, none⟩) M1 cX, .int .i64 D] 60))
              have HL := Aside0.mk (blk_new wa (.cells #[.int .i64 x.id, .slice (some ⟨bs, os, none⟩) M1 cX, .int .i64 D] 60))
              generalize hw_ : World.alloc wa (.cells #[.int .i64 x.id, .slice (some ⟨bs, os, none⟩) M1 cX, .int .i64 D] 60) = wb1 at HB2 HE HL ⊢
              obtain ⟨bl, hbl⟩ : ∃ z, wa.heap.size = z := ⟨_, rfl⟩
              rw [hbl] at HL ⊢
              have HLT := Aside0.mk (show bl < wb1.heap.size from blk_lt HL.out)
              have HNE := Aside0.mk (show bl ≠ be by omega)
              clear hw_ hbl hsz_ hlt_
              refine Calm.h_nil ?_
              refine Calm.tr_lin ?_
              refine Calm.c_law rfl ?_
              refine Kd.R_append_rows_step rq (w0 := w0) w0.heap.size (by rfl) (.tmp 84) (.tmp 89) 56 60 (.agg #[.int .i64 0, .slice none 0 0, .int .i64 0]) 40 rfl Try.underlying56 infoQ rfl (by decide) (by decide) (.slice (some ⟨be, 0, none⟩) 0 0) [] r A3 R c3 (fun k => ok k ∨ W.heap.size ≤ k) (fun k => ((ok k ∨ W.heap.size ≤ k) ∧ k < wd.heap.size) ∧ some k ≠ (Value.slice A3 R c3).ownBlock) rfl rfl HE.out (Q_readsM (Kd.Q_below HRW.out HB2.out)) (fun _ _ h => h) (fun k hk => ⟨hk.1.1, fun e => by have h_ : k = be := Option.some.inj (show some k = some be from e); have := hk.1.2; have := HBE.out; omega⟩) ?aF (below_step HD.out.bel HB2.out) ?aS ?aL ?_
              case aF => exact fun k hk => .inr (Nat.le_trans HD.out.keep.1 (Nat.le_trans HB2.out.size hk))
              case aS => exact Nat.le_trans HD.out.bel.size HB2.out.size
              case aL => have := HL1.out; simp; omega
              intro v1 wc hR_ hB_ hg_ hat_
              rw [List.nil_append] at hR_
              obtain ⟨A1, k1, hv1⟩ := Kd.R_slice hR_
              rw [HR.out] at hv1
              subst hv1
              have HA := Aside0.mk hR_
              have HB3 := Aside0.mk (fresh_app HB2.out hg_ (fun k e => by injection e with e; rw [← e]; exact HBE.out))
              have HV1 := Aside0.mk (show ∀ k, (Value.slice A1 R k1).ownBlock = some k → wd.heap.size ≤ k from fun k e => by rcases hat_ with h_ | ⟨b_, h_, hl_⟩ <;> rw [h_] at e <;> injection e with e <;> rw [← e] <;> first | exact HBE.out | exact Nat.le_trans HB2.out.size hl_)
              have HL := Aside0.mk ((hg_.block bl (blk_lt HL.out) (fun e => by injection e with e; exact HNE.out e)).trans HL.out)
              clear hR_ hB_ hg_ hat_
              refine And.intro ?_ ?_
              · repeat (first | exact Calm.okC_nil | (refine Calm.okC_cons (Or.inl (by decide +kernel)) ?_) | (refine Calm.okC_cons (Or.inr (by first | exact HG2.out _ HB3.out | exact (bx_cells (blk_below HXd.out HB3.out)).1 | exact (bx_cells (blk_below HXd.out HB3.out)).2.1 | exact (bx_cells (blk_below HXd.out HB3.out)).2.2)) ?_))
              refine Calm.put_dst (a' := ?_) rfl ?_ ?_
              rotate_left
              · simp only [Act.put, List.setIfInBounds_toArray, List.set_cons_zero, List.set_cons_succ, i64_w, i32_w]; rfl
              refine Calm.c_law rfl ?_
              refine Kd.R_append_rows_step rq (w0 := w0) w0.heap.size (by rfl) (.tmp 90) (.tmp 92) 56 60 (.agg #[.int .i64 0, .slice none 0 0, .int .i64 0]) 40 rfl Try.underlying56 infoQ rfl (by decide) (by decide) (.slice A1 R k1) r [⟨x.id, x.l, D⟩] (some ⟨bl, 0, none⟩) 1 1 (fun k => ok k ∨ W.heap.size ≤ k) (fun k => (ok k ∨ W.heap.size ≤ k) ∧ k < wd.heap.size) rfl rfl HA.out (lit_one rq (cs := [.int .i64 x.id, .slice (some ⟨bs, os, none⟩) M1 cX, .int .i64 D]) HL.out ⟨_, rfl, Kd.Q_below HQd.out HB3.out⟩) (fun _ _ h => h) (fun k hk => ⟨hk.1, fun e => by have := hk.2; have := HV1.out k e.symm; omega⟩) ?aF (below_step HD.out.bel HB3.out) ?aS ?aL ?_
              case aF => exact fun k hk => .inr (Nat.le_trans HD.out.keep.1 (Nat.le_trans HB3.out.size hk))
              case aS => exact Nat.le_trans HD.out.bel.size HB3.out.size
              case aL => have := HL1.out; have := HR.out; omega
              intro v2 we hR_ hB_ hg_ hat_
              obtain ⟨n2, hn2⟩ : ∃ z, (r ++ [(⟨x.id, x.l, D⟩ : Qu)]).length = z := ⟨_, rfl⟩
              obtain ⟨A2, k2, hv2⟩ := Kd.R_slice hR_
              rw [hn2] at hv2
              subst hv2
              have HB4 := Aside0.mk (fresh_app HB3.out hg_ HV1.out)
              have HHr := Aside0.mk ((HD.out.below HB4.out).setrow (Kd.Q_of_R hR_))
              obtain ⟨-, -, c4_, -, f4_, -⟩ := (HD.out.below HB4.out).cells
              obtain ⟨-, -, -, c5_, -, f5_⟩ := HHr.out.cells
              clear hn2 hR_ hB_ hg_ hat_
              refine And.intro ?_ ?_
              · repeat (first | exact Calm.okC_nil | (refine Calm.okC_cons (Or.inl (by decide +kernel)) ?_) | (refine Calm.okC_cons (Or.inr (by first | exact HG2.out _ HB4.out | exact (bx_cells (blk_below HXd.out HB4.out)).1 | exact (bx_cells (blk_below HXd.out HB4.out)).2.1 | exact (bx_cells (blk_below HXd.out HB4.out)).2.2)) ?_))
              refine Calm.put_dst (a' := ?_) rfl ?_ ?_
              rotate_left
              · simp only [Act.put, List.setIfInBounds_toArray, List.set_cons_zero, List.set_cons_succ, i64_w, i32_w]; rfl
              refine Calm.c_value (v := ?_) (w1 := ?_) (a' := ?_) rfl rfl (by rfl) ?_ ?_ ?_ ?_
              rotate_left
              rotate_left
              · go_simp; first | (refine And.intro ?_ ?_ <;> rfl) | rfl
              · repeat (first | exact Calm.okC_nil | (refine Calm.okC_cons (Or.inl (by decide +kernel)) ?_) | (refine Calm.okC_cons (Or.inr (by fail)) ?_))
              rotate_left
              · simp only [Act.put, List.setIfInBounds_toArray, List.set_cons_zero, List.set_cons_succ, i64_w, i32_w]; rfl
              refine Calm.c_value (v := ?_) (w1 := ?_) (a' := ?_) rfl rfl (by rfl) ?_ ?_ ?_ ?_
              rotate_left
              rotate_left
              · go_simp; first | (refine And.intro ?_ ?_ <;> rfl) | rfl
              · repeat (first | exact Calm.okC_nil | (refine Calm.okC_cons (Or.inl (by decide +kernel)) ?_) | (refine Calm.okC_cons (Or.inr (by fail)) ?_))
              rotate_left
              · simp only [Act.put, List.setIfInBounds_toArray, List.set_cons_zero, List.set_cons_succ, i64_w, i32_w]; rfl
              refine Calm.c_store (w1 := ?_) rfl (by rfl) rfl ?_ ?_ ?_
              rotate_left
              · go_simp; rfl
              · repeat (first | exact Calm.okC_nil | (refine Calm.okC_cons (Or.inl (by decide +kernel)) ?_) | (refine Calm.okC_cons (Or.inr (by fail)) ?_))
              refine Calm.h_nil ?_
              refine Calm.tr_done ?_
              simp only [Exit.inBlock, Exit.then]
              go_wp2_with (fail)
              go_roundw
              case rel => exact ⟨waitS u x r, ⟨rwait_fin HHr.out HS.out HI.out HDU.out HU.out HW.out⟩⟩
              case measure => exact rwait_less (rwait_fin HHr.out HS.out HI.out HDU.out HU.out HW.out) HS.out HI.out HDU.out HW.out HM.out
          · refine Calm.c_value (v := ?_) (w1 := ?_) (a' := ?_) rfl rfl (by rfl) ?_ ?_ ?_ ?_
            rotate_left
            rotate_left
            · go_simp; first | (refine And.intro ?_ ?_ <;> rfl) | rfl
            · repeat (first | exact Calm.okC_nil | (refine Calm.okC_cons (Or.inl (by decide +kernel)) ?_) | (refine Calm.okC_cons (Or.inr (by first | exact HG2.out _ (below_step HB0.out (below_alloc (Below.refl _ _) _)) | exact (bx_cells (blk_below HXd.out (below_step HB0.out (below_alloc (Below.refl _ _) _)))).1 | exact (bx_cells (blk_below HXd.out (below_step HB0.out (below_alloc (Below.refl _ _) _)))).2.1 | exact (bx_cells (blk_below HXd.out (below_step HB0.out (below_alloc (Below.refl _ _) _)))).2.2)) ?_))
            rotate_left
            · simp only [Act.put, List.setIfInBounds_toArray, List.set_cons_zero, List.set_cons_succ, i64_w, i32_w]; rfl
            have hsz_ := HB0.out.size
            have HB1 := Aside0.mk (below_step HB0.out (below_alloc (Below.refl wd.heap.size wd) (.cells #[.int .i64 x.id, .slice (some ⟨bs, os, none⟩) M1 cX, .int .i64 D] 60)))
            have HL := Aside0.mk (blk_new wd (.cells #[.int .i64 x.id, .slice (some ⟨bs, os, none⟩) M1 cX, .int .i64 D] 60))
            generalize hw_ : World.alloc wd (.cells #[.int .i64 x.id, .slice (some ⟨bs, os, none⟩) M1 cX, .int .i64 D] 60) = wa at HB1 HL ⊢
            obtain ⟨bl, hbl⟩ : ∃ z, wd.heap.size = z := ⟨_, rfl⟩
            rw [hbl] at HL ⊢
            have HLT := Aside0.mk (show bl < wa.heap.size from blk_lt HL.out)
            clear hw_ hbl hsz_
            refine Calm.h_nil ?_
            refine Calm.tr_lin ?_
            refine Calm.c_value (v := ?_) (w1 := ?_) (a' := ?_) rfl rfl (by rfl) ?_ ?_ ?_ ?_
            rotate_left
            rotate_left
            · go_simp; first | (refine And.intro ?_ ?_ <;> rfl) | rfl
            · repeat (first | exact Calm.okC_nil | (refine Calm.okC_cons (Or.inl (by decide +kernel)) ?_) | (refine Calm.okC_cons (Or.inr (by first | exact HG2.out _ (below_step HB1.out (below_alloc (Below.refl _ _) _)) | exact (bx_cells (blk_below HXd.out (below_step HB1.out (below_alloc (Below.refl _ _) _)))).1 | exact (bx_cells (blk_below HXd.out (below_step HB1.out (below_alloc (Below.refl _ _) _)))).2.1 | exact (bx_cells (blk_below HXd.out (below_step HB1.out (below_alloc (Below.refl _ _) _)))).2.2)) ?_))
            rotate_left
            · simp only [Act.put, List.setIfInBounds_toArray, List.set_cons_zero, List.set_cons_succ, i64_w, i32_w]; rfl
            have hsz_ := HB1.out.size
            have HB2 := Aside0.mk (below_step HB1.out (below_alloc (Below.refl wa.heap.size wa) (.cells #[] 60)))
            have HL := Aside0.mk (blk_alloc HL.out (.cells #[] 60))
            have HE := Aside0.mk (Kd.R_lower (lit_empty rq wa 60 (fun k => ok k ∨ W.heap.size ≤ k) (.inr (Nat.le_trans HD.out.keep.1 hsz_))) (Nat.le_trans HD.out.bel.size hsz_))
            generalize hw_ : World.alloc wa (.cells #[] 60) = wb1 at HB2 HL HE ⊢
            obtain ⟨be, hbe⟩ : ∃ z, wa.heap.size = z := ⟨_, rfl⟩
            have HE := Aside0.mk (show rq.R 60 wb1 w0.heap.size (fun k => ok k ∨ W.heap.size ≤ k) (.slice (some ⟨be, 0, none⟩) 0 0) [] by rw [← hbe]; exact HE.out)
            have HBE := Aside0.mk (show wd.heap.size ≤ be by rw [← hbe]; exact hsz_)
            rw [hbe]
            have HNE := Aside0.mk (show bl ≠ be by have := HLT.out; omega)
            clear hw_ hbe hsz_
            refine Calm.c_law rfl ?_
            refine Kd.R_append_rows_step rq (w0 := w0) w0.heap.size (by rfl) (.tmp 84) (.tmp 89) 56 60 (.agg #[.int .i64 0, .slice none 0 0, .int .i64 0]) 40 rfl Try.underlying56 infoQ rfl (by decide) (by decide) (.slice (some ⟨be, 0, none⟩) 0 0) [] r A3 R c3 (fun k => ok k ∨ W.heap.size ≤ k) (fun k => ((ok k ∨ W.heap.size ≤ k) ∧ k < wd.heap.size) ∧ some k ≠ (Value.slice A3 R c3).ownBlock) rfl rfl HE.out (Q_readsM (Kd.Q_below HRW.out HB2.out)) (fun _ _ h => h) (fun k hk => ⟨hk.1.1, fun e => by have h_ : k = be := Option.some.inj (show some k = some be from e); have := hk.1.2; have := HBE.out; omega⟩) ?aF (below_step HD.out.bel HB2.out) ?aS ?aL ?_
            case aF => exact fun k hk => .inr (Nat.le_trans HD.out.keep.1 (Nat.le_trans HB2.out.size hk))
            case aS => exact Nat.le_trans HD.out.bel.size HB2.out.size
            case aL => have := HL1.out; simp; omega
            intro v1 wc hR_ hB_ hg_ hat_
            rw [List.nil_append] at hR_
            obtain ⟨A1, k1, hv1⟩ := Kd.R_slice hR_
            rw [HR.out] at hv1
            subst hv1
            have HA := Aside0.mk hR_
            have HB3 := Aside0.mk (fresh_app HB2.out hg_ (fun k e => by injection e with e; rw [← e]; exact HBE.out))
            have HV1 := Aside0.mk (show ∀ k, (Value.slice A1 R k1).ownBlock = some k → wd.heap.size ≤ k from fun k e => by rcases hat_ with h_ | ⟨b_, h_, hl_⟩ <;> rw [h_] at e <;> injection e with e <;> rw [← e] <;> first | exact HBE.out | exact Nat.le_trans HB2.out.size hl_)
            have HL := Aside0.mk ((hg_.block bl (blk_lt HL.out) (fun e => by injection e with e; exact HNE.out e)).trans HL.out)
            clear hR_ hB_ hg_ hat_
            refine And.intro ?_ ?_
            · repeat (first | exact Calm.okC_nil | (refine Calm.okC_cons (Or.inl (by decide +kernel)) ?_) | (refine Calm.okC_cons (Or.inr (by first | exact HG2.out _ HB3.out | exact (bx_cells (blk_below HXd.out HB3.out)).1 | exact (bx_cells (blk_below HXd.out HB3.out)).2.1 | exact (bx_cells (blk_below HXd.out HB3.out)).2.2)) ?_))
            refine Calm.put_dst (a' := ?_) rfl ?_ ?_
            rotate_left
            · simp only [Act.put, List.setIfInBounds_toArray, List.set_cons_zero, List.set_cons_succ, i64_w, i32_w]; rfl
            refine Calm.c_law rfl ?_
            refine Kd.R_append_rows_step rq (w0 := w0) w0.heap.size (by rfl) (.tmp 90) (.tmp 92) 56 60 (.agg #[.int .i64 0, .slice none 0 0, .int .i64 0]) 40 rfl Try.underlying56 infoQ rfl (by decide) (by decide) (.slice A1 R k1) r [⟨x.id, x.l, D⟩] (some ⟨bl, 0, none⟩) 1 1 (fun k => ok k ∨ W.heap.size ≤ k) (fun k => (ok k ∨ W.heap.size ≤ k) ∧ k < wd.heap.size) rfl rfl HA.out (lit_one rq (cs := [.int .i64 x.id, .slice (some ⟨bs, os, none⟩) M1 cX, .int .i64 D]) HL.out ⟨_, rfl, Kd.Q_below HQd.out HB3.out⟩) (fun _ _ h => h) (fun k hk => ⟨hk.1, fun e => by have := hk.2; have := HV1.out k e.symm; omega⟩) ?aF (below_step HD.out.bel HB3.out) ?aS ?aL ?_
            case aF => exact fun k hk => .inr (Nat.le_trans HD.out.keep.1 (Nat.le_trans HB3.out.size hk))
            case aS => exact Nat.le_trans HD.out.bel.size HB3.out.size
            case aL => have := HL1.out; have := HR.out; omega
            intro v2 we hR_ hB_ hg_ hat_
            obtain ⟨n2, hn2⟩ : ∃ z, (r ++ [(⟨x.id, x.l, D⟩ : Qu)]).length = z := ⟨_, rfl⟩
            obtain ⟨A2, k2, hv2⟩ := Kd.R_slice hR_
            rw [hn2] at hv2
            subst hv2
            have HB4 := Aside0.mk (fresh_app HB3.out hg_ HV1.out)
            have HHr := Aside0.mk ((HD.out.below HB4.out).setrow (Kd.Q_of_R hR_))
            obtain ⟨-, -, c4_, -, f4_, -⟩ := (HD.out.below HB4.out).cells
            obtain ⟨-, -, -, c5_, -, f5_⟩ := HHr.out.cells
            clear hn2 hR_ hB_ hg_ hat_
            refine And.intro ?_ ?_
            · repeat (first | exact Calm.okC_nil | (refine Calm.okC_cons (Or.inl (by decide +kernel)) ?_) | (refine Calm.okC_cons (Or.inr (by first | exact HG2.out _ HB4.out | exact (bx_cells (blk_below HXd.out HB4.out)).1 | exact (bx_cells (blk_below HXd.out HB4.out)).2.1 | exact (bx_cells (blk_below HXd.out HB4.out)).2.2)) ?_))
            refine Calm.put_dst (a' := ?_) rfl ?_ ?_
            rotate_left
            · simp only [Act.put, List.setIfInBounds_toArray, List.set_cons_zero, List.set_cons_succ, i64_w, i32_w]; rfl
            refine Calm.c_value (v := ?_) (w1 := ?_) (a' := ?_) rfl rfl (by rfl) ?_ ?_ ?_ ?_
            rotate_left
            rotate_left
            · go_simp; first | (refine And.intro ?_ ?_ <;> rfl) | rfl
            · repeat (first | exact Calm.okC_nil | (refine Calm.okC_cons (Or.inl (by decide +kernel)) ?_) | (refine Calm.okC_cons (Or.inr (by fail)) ?_))
            rotate_left
            · simp only [Act.put, List.setIfInBounds_toArray, List.set_cons_zero, List.set_cons_succ, i64_w, i32_w]; rfl
            refine Calm.c_value (v := ?_) (w1 := ?_) (a' := ?_) rfl rfl (by rfl) ?_ ?_ ?_ ?_
            rotate_left
            rotate_left
            · go_simp; first | (refine And.intro ?_ ?_ <;> rfl) | rfl
            · repeat (first | exact Calm.okC_nil | (refine Calm.okC_cons (Or.inl (by decide +kernel)) ?_) | (refine Calm.okC_cons (Or.inr (by fail)) ?_))
            rotate_left
            · simp only [Act.put, List.setIfInBounds_toArray, List.set_cons_zero, List.set_cons_succ, i64_w, i32_w]; rfl
            refine Calm.c_store (w1 := ?_) rfl (by rfl) rfl ?_ ?_ ?_
            rotate_left
            · go_simp; rfl
            · repeat (first | exact Calm.okC_nil | (refine Calm.okC_cons (Or.inl (by decide +kernel)) ?_) | (refine Calm.okC_cons (Or.inr (by fail)) ?_))
            refine Calm.h_nil ?_
            refine Calm.tr_done ?_
            simp only [Exit.inBlock, Exit.then]
            go_wp2_with (fail)
            go_roundw
            case rel => exact ⟨waitS u x r, ⟨rwait_fin HHr.out HS.out HI.out HDU.out HU.out HW.out⟩⟩
            case measure => exact rwait_less (rwait_fin HHr.out HS.out HI.out HDU.out HU.out HW.out) HS.out HI.out HDU.out HW.out HM.out
        · have HW := Aside0.mk (show ((Fair.hd x.l).size : Int) ≤ D by rw [HT0.out]; omega)
          have S1 : decide ((t.size : Int) ≤ D) = true := decide_eq_true (by omega)
          have S2 : decide (D ≥ (t.size : Int)) = true := S1
          obtain ⟨A2, ca, hcut, hob, hcq2⟩ := cut_q Kd.string (t := 34) (e := 9) Try.underlying34 infoS rfl (some ⟨bs, os, none⟩) cX HM1.out
          have HCS := Aside0.mk hcq2
          have W2 : wrap64 (D - (t.size : Int)) = D - (t.size : Int) := wrap_sub HDB.out HTB.out
          have W3 : IntKind.i64.wrap (D - (t.size : Int)) = D - (t.size : Int) := (i64_w _).trans W2
          clear hob hcq2 hw
          have HB7 := Aside0.mk (show Below wr.heap.size wr ((wt.setCell ⟨bx, 2, none⟩ (.int .i64 (D - (t.size : Int)))).setCell ⟨bx, 1, none⟩ (.slice A2 N ca)) from below_set (below_set HBt.out (Nat.le_of_eq HBXE.out)) (Nat.le_of_eq HBXE.out))
          have HT9 := Aside0.mk ((HH0.out.below HB7.out).setsv true)
          by_cases hz : N = 0
          · have HZ := Aside0.mk hz
            subst hz
            have HT10 := Aside0.mk ((HT9.out.setrow (HCR.out _ _ _ _ _ HT9.out.row)).setsv false)
            go_wp2_with (fail)
            go_ret3
            rw [rtake_eq HU.out HS.out HDU.out HW.out, takeS_one (by have := HML.out; have := HM1.out; omega)]
            refine ⟨?_, _, HT10.out⟩
            rw [HT0.out]
            rfl
          · have z1 : ((N : Int) == 0) = false := beq_eq_false_iff_ne.2 (by omega)
            have z2 : (N == 0) = false := beq_eq_false_iff_ne.2 (by omega)
            have z3 : decide (N = 0) = false := decide_eq_false hz
            have HZ := Aside0.mk hz
            clear hz
            go_wp2_with (fail)
            have hx9 : wt.heap[bx]? = some (.cells #[.int .i64 x.id, .slice (some ⟨bs, os, none⟩) M1 cX, .int .i64 D] 60 (0, 0)) := HXt.out
            have hq7 := HCS.out _ _ _ (Fair.hd x.l) x.l.tail (by rw [hd_tail HPOS.out]; exact Kd.Q_below HQL.out HB7.out)
            have HQ9 := Aside0.mk (Q_tstep (w1 := (((wt.setCell ⟨bx, 2, none⟩ (.int .i64 (D - (t.size : Int)))).setCell ⟨bx, 1, none⟩ (.slice A2 N ca)).setCell ⟨g, 3, none⟩ (.bool true))) hq7 rfl (fun k _ _ ⟨cc, hc⟩ => Below.heap_setCell _ _ _ k (ty_ne hc (HH0.out.below HB7.out).blk (by decide))))
            have HX9 := Aside0.mk (show (((wt.setCell ⟨bx, 2, none⟩ (.int .i64 (D - (t.size : Int)))).setCell ⟨bx, 1, none⟩ (.slice A2 N ca)).setCell ⟨g, 3, none⟩ (.bool true)).heap[bx]? = some (.cells #[.int .i64 x.id, .slice A2 N ca, .int .i64 (D - (t.size : Int))] 60 (0, 0)) from (Below.heap_setCell _ _ _ bx ne2).trans (blk_set (blk_set hx9 2 (.int .i64 (D - (t.size : Int)))) 1 (.slice A2 N ca)))
            obtain ⟨D2, hD2⟩ : ∃ z, D - (t.size : Int) = z := ⟨_, rfl⟩
            have HD2 := Aside0.mk hD2
            rw [hD2] at HT9 HX9 HQ9 ⊢
            generalize (((wt.setCell ⟨bx, 2, none⟩ (.int .i64 D2)).setCell ⟨bx, 1, none⟩ (.slice A2 N ca)).setCell ⟨g, 3, none⟩ (.bool true)) = w9 at HT9 HX9 HQ9 ⊢
            clear hq7 hx9 HB7 hD2
            have HD := Aside0.mk (HT9.out.below (below_drew (Below.refl w9.heap.size w9)))
            have HG2 := Aside0.mk (fun W' (hb : Below w9.drew.heap.size w9.drew W') => (HT9.out.below (below_step (below_drew (Below.refl w9.heap.size w9)) hb)).cells.2.2.1)
            have HXd := Aside0.mk (blk_below HX9.out (below_drew (Below.refl w9.heap.size w9)))
            have HQd := Aside0.mk (Kd.Q_mono (Kd.Q_bound (Kd.Q_below HQ9.out (below_drew (Below.refl w9.heap.size w9)))) (ok' := fun k => (ok k ∨ W.heap.size ≤ k) ∧ k < w9.drew.heap.size) (fun k hk => ⟨hk.1.1, hk.2.2.1⟩))
            have HRW := Aside0.mk (Kd.Q_mono (Kd.Q_bound (HCR.out _ _ _ _ _ HD.out.row)) (ok' := fun k => (ok k ∨ W.heap.size ≤ k) ∧ k < w9.drew.heap.size) (fun k hk => ⟨hk.1, hk.2.2.1⟩))
            have HB0 := Aside0.mk (Below.refl w9.drew.heap.size w9.drew)
            have HL1 := Aside0.mk (show R + 1 ≤ 100000 by have := HL.out; have := HN1.out; omega)
            refine Calm.wp_region_calmC [(1, fun w_ => w_.cell? ⟨bx, 0, none⟩ = some (Value.int .i64 x.id)), (1, fun w_ => w_.cell? ⟨bx, 1, none⟩ = some (Value.slice A2 N ca)), (1, fun w_ => w_.cell? ⟨bx, 2, none⟩ = some (Value.int .i64 D2)), (6, fun w_ => w_.cell? ⟨g, 2, none⟩ = some (.slice (some ⟨b, o, none⟩) N1 c))] [0, 1, 3, 4, 5, 6, 7] [2, 8, 9, 10, 11] (by kernel_rfl) (by kernel_rfl) (Calm.allC_cons (by exact (bx_cells HXd.out).1) (Calm.allC_cons (by exact (bx_cells HXd.out).2.1) (Calm.allC_cons (by exact (bx_cells HXd.out).2.2) (Calm.allC_cons (by exact HG2.out _ HB0.out) Calm.allC_nil)))) ?_
            repeat (first
              | (refine Calm.g_value (v := ?_) (a' := ?_) rfl rfl (by rfl) ?_ ?_ ?_; rotate_left; (· rintro w' hS'; (try simp only [Calm.SC_cons, Calm.SC_nil, Nat.reduceEqDiff, forall_const, false_implies, and_true, true_and] at hS'); (try obtain ⟨hS1, hS2, hS3⟩ := hS'); go_simp; with_reducible rfl); rotate_left; (· simp only [Act.put, List.setIfInBounds_toArray, List.set_cons_zero, List.set_cons_succ, i64_w, i32_w]; rfl))
              | (refine Calm.g_value (v := ?_) (a' := ?_) rfl rfl (by rfl) ?_ ?_ ?_; rotate_left; (· rintro w' hS'; (try simp only [Calm.SC_cons, Calm.SC_nil, Nat.reduceEqDiff, forall_const, false_implies, and_true, true_and] at hS'); (try obtain ⟨hS1, hS2⟩ := hS'); go_simp; with_reducible rfl); rotate_left; (· simp only [Act.put, List.setIfInBounds_toArray, List.set_cons_zero, List.set_cons_succ, i64_w, i32_w]; rfl)))
            refine Calm.g_nil ?_
            generalize hwd_ : w9.drew = wd at HD HG2 HXd HQd HRW HB0 ⊢
            clear hwd_
            refine Calm.c_value (v := ?_) (w1 := ?_) (a' := ?_) rfl rfl (by rfl) ?_ ?_ ?_ ?_
            rotate_left
            rotate_left
            · go_simp; first | (refine And.intro ?_ ?_ <;> rfl) | rfl
            · repeat (first | exact Calm.okC_nil | (refine Calm.okC_cons (Or.inl (by decide +kernel)) ?_) | (refine Calm.okC_cons (Or.inr (by first | exact HG2.out _ (below_alloc (Below.refl _ _) _) | exact (bx_cells (blk_below HXd.out (below_alloc (Below.refl _ _) _))).1 | exact (bx_cells (blk_below HXd.out (below_alloc (Below.refl _ _) _))).2.1 | exact (bx_cells (blk_below HXd.out (below_alloc (Below.refl _ _) _))).2.2)) ?_))
            rotate_left
            · simp only [Act.put, List.setIfInBounds_toArray, List.set_cons_zero, List.set_cons_succ, i64_w, i32_w]; rfl
            have HA := Aside0.mk (lit_row rq (W := wd) (e := 60) (base := w0.heap.size) (p := ⟨x.id, x.l.tail, D2⟩) (cs := [.int .i64 x.id, .slice A2 N ca, .int .i64 D2]) (ok := (fun k => ok k ∨ W.heap.size ≤ k)) ⟨_, rfl, Kd.Q_mono (Kd.Q_alloc HQd.out _) (fun k hk => ⟨hk.1, by have := hk.2; omega⟩)⟩ (.inr HD.out.keep.1) HD.out.bel.size)
            have HB1 := Aside0.mk (below_alloc (Below.refl wd.heap.size wd) (.cells #[.int .i64 x.id, .slice A2 N ca, .int .i64 D2] 60))
            generalize hw_ : World.alloc wd (.cells #[.int .i64 x.id, .slice A2 N ca, .int .i64 D2] 60) = wa at HB1 ⊢
            rw [show World.alloc wd (.cells [.int .i64 x.id, .slice A2 N ca, .int .i64 D2].toArray 60) = wa from hw_] at HA
            obtain ⟨bl, hbl⟩ : ∃ z, wd.heap.size = z := ⟨_, rfl⟩
            have HBL := Aside0.mk hbl
            rw [hbl] at HA ⊢
            clear hw_ hbl
            refine Calm.c_law rfl ?_
            refine Kd.R_append_rows_step rq (w0 := w0) w0.heap.size (by rfl) (.tmp 71) (.tmp 76) 56 60 (.agg #[.int .i64 0, .slice none 0 0, .int .i64 0]) 40 rfl Try.underlying56 infoQ rfl (by decide) (by decide) (.slice (some ⟨bl, 0, none⟩) 1 1) [⟨x.id, x.l.tail, D2⟩] r A3 R c3 (fun k => ok k ∨ W.heap.size ≤ k) (fun k => ((ok k ∨ W.heap.size ≤ k) ∧ k < wd.heap.size) ∧ some k ≠ (Value.slice A3 R c3).ownBlock) rfl rfl HA.out (Q_readsM (Kd.Q_below HRW.out HB1.out)) (fun _ _ h => h) (fun k hk => ⟨hk.1.1, fun e => by have h_ : k = bl := Option.some.inj (show some k = some bl from e); have := hk.1.2; have := HBL.out; omega⟩) ?aF (below_step HD.out.bel HB1.out) ?aS ?aL ?_
            case aF => exact fun k hk => .inr (Nat.le_trans HD.out.keep.1 (Nat.le_trans HB1.out.size hk))
            case aS => exact Nat.le_trans HD.out.bel.size HB1.out.size
            case aL => have := HL1.out; simp; omega
            intro v2 we hR_ hB_ hg_ hat_
            obtain ⟨n2, hn2⟩ : ∃ z, ([(⟨x.id, x.l.tail, D2⟩ : Qu)] ++ r).length = z := ⟨_, rfl⟩
            obtain ⟨A4, k4, hv4⟩ := Kd.R_slice hR_
            rw [hn2] at hv4
            subst hv4
            have HB2 := Aside0.mk (fresh_app HB1.out hg_ (fun k e => by have h_ : bl = k := Option.some.inj (show some bl = some k from e); have := HBL.out; omega))
            have HHr := Aside0.mk ((HD.out.below HB2.out).setrow (Kd.Q_of_R hR_))
            obtain ⟨-, -, c4_, -, f4_, -⟩ := (HD.out.below HB2.out).cells
            obtain ⟨e0_, -, -⟩ := bx_cells (blk_below HXd.out HB2.out)
            clear hn2 hR_ hB_ hg_ hat_
            refine And.intro ?_ ?_
            · repeat (first | exact Calm.okC_nil | (refine Calm.okC_cons (Or.inl (by decide +kernel)) ?_) | (refine Calm.okC_cons (Or.inr (by first | exact HG2.out _ HB2.out | exact (bx_cells (blk_below HXd.out HB2.out)).1 | exact (bx_cells (blk_below HXd.out HB2.out)).2.1 | exact (bx_cells (blk_below HXd.out HB2.out)).2.2)) ?_))
            refine Calm.put_dst (a' := ?_) rfl ?_ ?_
            rotate_left
            · simp only [Act.put, List.setIfInBounds_toArray, List.set_cons_zero, List.set_cons_succ, i64_w, i32_w]; rfl
            refine Calm.c_value (v := ?_) (w1 := ?_) (a' := ?_) rfl rfl (by rfl) ?_ ?_ ?_ ?_
            rotate_left
            rotate_left
            · go_simp; first | (refine And.intro ?_ ?_ <;> rfl) | rfl
            · repeat (first | exact Calm.okC_nil | (refine Calm.okC_cons (Or.inl (by decide +kernel)) ?_) | (refine Calm.okC_cons (Or.inr (by fail)) ?_))
            rotate_left
            · simp only [Act.put, List.setIfInBounds_toArray, List.set_cons_zero, List.set_cons_succ, i64_w, i32_w]; rfl
            refine Calm.c_value (v := ?_) (w1 := ?_) (a' := ?_) rfl rfl (by rfl) ?_ ?_ ?_ ?_
            rotate_left
            rotate_left
            · go_simp; first | (refine And.intro ?_ ?_ <;> rfl) | rfl
            · repeat (first | exact Calm.okC_nil | (refine Calm.okC_cons (Or.inl (by decide +kernel)) ?_) | (refine Calm.okC_cons (Or.inr (by fail)) ?_))
            rotate_left
            · simp only [Act.put, List.setIfInBounds_toArray, List.set_cons_zero, List.set_cons_succ, i64_w, i32_w]; rfl
            refine Calm.c_store (w1 := ?_) rfl (by rfl) rfl ?_ ?_ ?_
            rotate_left
            · go_simp; rfl
            · repeat (first | exact Calm.okC_nil | (refine Calm.okC_cons (Or.inl (by decide +kernel)) ?_) | (refine Calm.okC_cons (Or.inr (by fail)) ?_))
            refine Calm.h_nil ?_
            simp only [Exit.inBlock, Exit.then]
            clear hcut hcutr hc5 y0 y1 y2 yf1 yf2 t2_ t3_ tf2_ tf3_
            go_wp2_with (fail)
            go_ret3
            rw [rtake_eq HU.out HS.out HDU.out HW.out, takeS_more (by have := HML.out; have := HM1.out; have := HZ.out; omega), HDU.out, HT0.out, HD2.out]
            refine ⟨?_, _, HHr.out⟩
            rfl
end Go.Proofs.Ytcieopcihbgfdaa.Rf
