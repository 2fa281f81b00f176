/- Layer 20: the reference's New and Push. gen/mk_r20.py writes this text. -/
import Derived.Test.YtcieopcihbgfdaaRl20
namespace Go.Proofs.Ytcieopcihbgfdaa.Rf
open Go.RowKit Go.Proofs.YtcieopcihbgfdaaW.PrintWords Go.Proofs.YtcieopcihbgfdaaW.PrintLast Go.Proofs.YtcieopcihbgfdaaW.PrintMore Go.Proofs.Ytcieopcihbgfdaa.PFairDoes Go.Proofs.Ytcieopcihbgfdaa Go.Proofs.Ytcieopcihbgfdaa.Fair Go.Proofs.Ytcieopcihbgfdaa.Fq
set_option linter.unusedVariables false
set_option linter.unusedSimpArgs false
theorem rcut_v (n : Int) : mx 1 (mn 1048576 n) = cutV n := by
  unfold cutV mn mx
  split <;> split <;> split <;> split <;> omega
theorem rcut_c (n : Int) (w : World) : Calls Try.prog 21 #[.int .i64 n] w fun e w' => e = .returned (.int .i64 (cutV n)) ∧ Below w.heap.size w w' := by
  rw [← rcut_v]
  exact vizardref20_cut.calls n _ w rfl
theorem rnew_fin {lim qu : Int} {w0 W w2 w3 : World} {gb : Nat} (h2 : Below w0.heap.size w0 w2) (h2' : Below W.heap.size W w2) (hx : w3.heap[gb]? = some (.cells #[.int .i64 lim, .int .i64 qu, .slice none 0 0, .bool false] 58 (0, 0))) (hb3 : Below w2.heap.size w2 w3) (hg : w2.heap.size ≤ gb) :
    ∃ g, Ending.returned (Value.pointer (some ⟨gb, 0, none⟩)) = .returned (.pointer (some ⟨g, 0, none⟩)) ∧ RO w0 W w3 (fun _ => False) g ⟨lim, qu, [], false⟩ := by
  have h02 := h2.size
  have hW := h2'.size
  exact ⟨gb, rfl, .slice none 0 0, below_step h2 hb3, Kept.of_below (below_step h2' hb3) _, hx, by omega, .inr (by omega), Kd.Q_nil _ _ _ _ _⟩
theorem addQ_set {st : List Qu} {id : Int} {t : ByteArray} : ∀ (i : Nat) (hi : i < st.length), (st.map (·.id)).Nodup → st[i].id = id → addQ st id t = st.set i ⟨st[i].id, st[i].l ++ [t], st[i].d⟩ := by
  induction st with
  | nil => intro i hi; simp at hi
  | cons z r ih =>
    intro i hi hnd he
    rw [List.map_cons, List.nodup_cons] at hnd
    unfold addQ
    cases i with
    | zero =>
      have he : z.id = id := he
      rw [if_pos he]
      rfl
    | succ i =>
      have hi' : i < r.length := by simpa using hi
      have he : r[i].id = id := he
      rw [if_neg (fun e => hnd.1 (List.mem_map.2 ⟨r[i], List.getElem_mem _, he.trans e.symm⟩)), ih i hi' hnd.2 he]
      rfl
theorem rl_cell {w w1 : World} {B : Nat} {ok : Nat → Prop} {b o n c j : Nat} {i : Nat} {st : List Qu} {u : Value} (h : rq.Q 60 w B ok (.slice (some ⟨b, o, none⟩) n c) st) (hi : i < st.length) (hb : Below w.heap.size w w1) (hc : w.cell? ⟨b, j, none⟩ = some u) : w1.cell? ⟨b, j, none⟩ = some u := by
  have hlt := Kd.Q_lt h b rfl
  rw [World.cell?_of_block (hb.block b hlt)]
  exact hc
theorem rl_froz {w w1 : World} {B : Nat} {ok : Nat → Prop} {b o n c : Nat} {st : List Qu} (h : rq.Q 60 w B ok (.slice (some ⟨b, o, none⟩) n c) st) (hb : Below w.heap.size w w1) (j : Nat) : w1.frozen? ⟨b, j, none⟩ = false := by
  obtain ⟨cb, hcb⟩ := Kd.Q_typed (Kd.Q_below h hb) b rfl
  exact blk_frozen hcb j
theorem hit_fin {w0 W w : World} {ok : Nat → Prop} {g : Nat} {v : Value} {s : FS} {i : Nat} {x : Qu} {id : Int} {t : ByteArray} {hi : i < s.st.length} (h : RH w0 W w ok g s.lim s.qu v s.sv (s.st.set i ⟨s.st[i].id, x.l ++ [t], s.st[i].d⟩)) (hx : s.st[i] = x) (hid : x.id = id) (hnd : (ids s).Nodup) : RO w0 W w ok g ⟨s.lim, s.qu, addQ s.st id t, s.sv⟩ := by
  subst hx
  have e := addQ_set (t := t) i hi hnd hid
  refine ⟨v, ?_⟩
  show RH w0 W w ok g s.lim s.qu v s.sv (addQ s.st id t)
  rw [e]
  exact h
theorem ri_facts {i n : Nat} (h : i < n) (hn : n ≤ 100000) : wrap64 ((i : Int) + 1) = ((i + 1 : Nat) : Int) ∧ IntKind.i64.wrap ((i : Int) + 1) = ((i + 1 : Nat) : Int) ∧ decide ((i : Int) < (n : Int)) = true ∧ decide (i < n) = true ∧ ((i : Int) < (n : Int)) = True ∧ (i < n) = True ∧ ((0 : Int) ≤ (i : Int)) = True := by
  have hw : wrap64 ((i : Int) + 1) = ((i + 1 : Nat) : Int) := by unfold wrap64; omega
  exact ⟨hw, (i64_w _).trans hw, decide_eq_true (by omega), decide_eq_true h, eq_true (by omega), eq_true h, eq_true (by omega)⟩
set_option maxHeartbeats 8000000 in
set_option maxRecDepth 100000 in
theorem rnew_c (lim qu : Int) (w0 W : World) (hB : Below w0.heap.size w0 W) : Calls Try.prog 13 #[.int .i64 lim, .int .i64 qu] W fun e w' => ∃ g, e = .returned (.pointer (some ⟨g, 0, none⟩)) ∧ RO w0 W w' (fun _ => False) g ⟨cutV lim, cutV qu, [], false⟩ := by
  have HB := Aside0.mk hB
  clear hB
  go_enter Try.func13, Try.ntmps13
  go_wp2_with (first | (go_at_call 21; (with_reducible refine (rcut_c lim _).mono ?_); rintro e_ w1 ⟨rfl, hd⟩; have HB1 := Aside0.mk (below_step HB.out hd); have HC1 := Aside0.mk hd; clear hd) | (go_at_call 21; (with_reducible refine (rcut_c qu _).mono ?_); rintro e_ w2 ⟨rfl, hd⟩; have HB2 := Aside0.mk (below_step HB1.out hd); have HC2 := Aside0.mk (below_step HC1.out hd); clear hd) | ((with_reducible refine gate_dst (N := 10) rfl ?_); refine box_event ?hg (N := 10) ?hd (cs := [.int .i64 (cutV lim), .int .i64 (cutV qu), .slice none 0 0, .bool false].toArray) (t := 58) ?hr ?_; (case hd => rfl); (case hg => rfl); (case hr => first | (go_simp; done) | (go_simp; rfl)); intro gb hgb w3 hbox hb; have HX := Aside0.mk hbox; have HB3 := Aside0.mk hb; have HGB := Aside0.mk hgb; clear hgb hbox hb))
  go_ret
  exact rnew_fin HB2.out HC2.out HX.out HB3.out (Nat.le_of_eq HGB.out.symm)
set_option maxHeartbeats 8000000 in
set_option maxRecDepth 100000 in
theorem rpush_long (g : Nat) (id : Int) (t : ByteArray) (s : FS) (ok : Nat → Prop) (w0 W : World) (h : RO w0 W W ok g s) (hi : FI s) (hk : (Lit.int .i64 id).wf = true) (hl : s.st.length ≤ 100000) (h0 : 65535 < t.size) :
    Calls Try.prog 14 #[.pointer (some ⟨g, 0, none⟩), .int .i64 id, .string t] W fun e w' => e = .returned (.int .i64 (pushE s id t)) ∧ RO w0 W w' ok g (pushS s id t) := by
  have e1 : pushE s id t = 8 := if_pos h0
  have e2 : pushS s id t = s := if_pos h0
  rw [e1, e2]
  have S1 : decide ((t.size : Int) > 65535) = true := decide_eq_true (by omega)
  have S2 : decide ((65535 : Int) < (t.size : Int)) = true := S1
  have S3 : decide (65535 < t.size) = true := decide_eq_true h0
  have HF := Aside0.mk h
  clear h hi hk hl h0 e1 e2
  go_enter Try.func14, Try.ntmps14
  go_wp2_with (fail)
  go_ret
  exact ⟨rfl, HF.out⟩
set_option maxHeartbeats 8000000 in
set_option maxRecDepth 100000 in
theorem rpush_all (g : Nat) (id : Int) (t : ByteArray) (s : FS) (ok : Nat → Prop) (w0 W : World) (h : RO w0 W W ok g s) (hi : FI s) (hk : (Lit.int .i64 id).wf = true) (hl : s.st.length ≤ 100000) (h0 : ¬ 65535 < t.size) :
    Calls Try.prog 14 #[.pointer (some ⟨g, 0, none⟩), .int .i64 id, .string t] W fun e w' => e = .returned (.int .i64 (pushE s id t)) ∧ RO w0 W w' ok g (pushS s id t) := by
  have S1 : decide ((t.size : Int) > 65535) = false := decide_eq_false (by omega)
  have S2 : decide ((65535 : Int) < (t.size : Int)) = false := S1
  have S3 : decide (65535 < t.size) = false := decide_eq_false h0
  obtain ⟨v, hH⟩ := h
  have HND := Aside0.mk hi.nd
  obtain ⟨AV, cV, rfl, -⟩ := Kd.Q_slice hH.row
  obtain ⟨n, hn⟩ : ∃ z, s.st.length = z := ⟨_, rfl⟩
  rw [hn] at hH
  obtain ⟨d0, -, d2, -, -, -⟩ := hH.cells
  have HH0 := Aside0.mk hH
  have HI := Aside0.mk hi
  have HN := Aside0.mk hn
  have HLN := Aside0.mk (show n ≤ 100000 by omega)
  have HK := Aside0.mk hk
  clear hi hl hk hn hH
  go_enter Try.func14, Try.ntmps14
  go_wp2_with (fail)
  go_loopw [7] (fun v7 wr => ∃ i : Nat, v7 = .int .i64 (i : Int) ∧ wr = W ∧ Aside0 (i ≤ n ∧ ∀ x ∈ s.st.take i, x.id ≠ id)) (fun v7 _ => ((n : Int) - intOf v7).toNat)
  case atStart => exact ⟨0, rfl, rfl, ⟨by omega, fun x hx => by cases hx⟩⟩
  case round =>
    obtain ⟨i, rfl, rfl, HI1⟩ := hrel
    by_cases d1 : i < n
    · obtain ⟨b, o, c, hv⟩ := rq_slice HH0.out.row (by have := HN.out; omega)
      injection hv with hA hl_ hc_
      subst hA
      subst hc_
      clear hl_
      have hin : i < s.st.length := by have := HN.out; omega
      have HIN := Aside0.mk hin
      obtain ⟨vl, x0, x1, x2, hql⟩ := rq_at HH0.out.row i hin
      obtain ⟨x, hx⟩ : ∃ z, s.st[i] = z := ⟨_, rfl⟩
      rw [hx] at x0 x2 hql
      have HXI := Aside0.mk hx
      obtain ⟨AX, cX, rfl, hcx⟩ := Kd.Q_slice hql
      obtain ⟨LX, hLX⟩ : ∃ z, x.l.length = z := ⟨_, rfl⟩
      rw [hLX] at x1 hcx
      have HLX := Aside0.mk hLX
      have HQL := Aside0.mk hql
      obtain ⟨i1, i2, i3, i4, i5, i6, i7⟩ := ri_facts d1 HLN.out
      have HD1 := Aside0.mk d1
      have HXM := Aside0.mk (show x ∈ s.st by rw [← hx]; exact List.getElem_mem _)
      clear d1 hx hLX hql hcx
      by_cases hid : x.id = id
      · have HID := Aside0.mk hid
        have E1 : (x.id == id) = true := by rw [hid]; exact beq_self_eq_true _
        have hlo : listOf s.st id = x.l := by rw [← hid]; exact listOf_mem HND.out HXM.out
        have hql2 := (HI.out.q x HXM.out).le
        rw [HLX.out] at hql2
        by_cases hfull : (LX : Int) = s.lim
        · have e1 : pushE s id t = 4 := (if_neg h0).trans (if_pos (by rw [hlo, HLX.out]; exact hfull))
          have e2 : pushS s id t = s := (if_neg h0).trans (if_pos (by rw [hlo, HLX.out]; exact hfull))
          have HE1 := Aside0.mk e1
          have HE2 := Aside0.mk e2
          have z1 : decide ((LX : Int) ≥ s.lim) = true := decide_eq_true (by omega)
          have z2 : decide (s.lim ≤ (LX : Int)) = true := z1
          clear hid hlo hql2 hfull e1 e2
          go_wp2_with (fail)
          go_quiet (fail)
          go_wp2_with (fail)
          go_ret
          rw [HE1.out, HE2.out]
          exact ⟨rfl, _, HH0.out.below (pw_below_drewN (Below.refl _ _) _)⟩
        · have e1 : pushE s id t = 0 := (if_neg h0).trans (if_neg (by rw [hlo, HLX.out]; exact hfull))
          have e2 : pushS s id t = ⟨s.lim, s.qu, addQ s.st id t, s.sv⟩ := (if_neg h0).trans (if_neg (by rw [hlo, HLX.out]; exact hfull))
          have HE1 := Aside0.mk e1
          have HE2 := Aside0.mk e2
          have z1 : decide ((LX : Int) ≥ s.lim) = false := decide_eq_false (by omega)
          have z2 : decide (s.lim ≤ (LX : Int)) = false := z1
          have HLXB := Aside0.mk (show LX ≤ 1048576 by have := HI.out.l1; omega)
          clear hid hlo hql2 hfull e1 e2
          go_wp2_with (fail)
          go_quiet (fail)
          obtain ⟨wq, hwq⟩ : ∃ z, wr.drewN nq = z := ⟨_, rfl⟩
          have HWQ := Aside0.mk (show Below wr.heap.size wr wq by rw [← hwq]; exact pw_below_drewN (Below.refl _ _) _)
          rw [hwq]
          clear hwq
          go_wp2_with (fail)
          have hbd : Below wr.heap.size wr wq.drew := below_step HWQ.out (below_drew (Below.refl _ _))
          have HD := Aside0.mk (HH0.out.below hbd)
          have hmo : ∀ W', Below wq.drew.heap.size wq.drew W' → Below wr.heap.size wr W' := fun W' hb => below_step hbd hb
          have HSR := Aside0.mk (fun W' hb => by have h_ := (Kd.Q_reads' (Kd.Q_below HQL.out (hmo W' hb))).2.2; rw [HLX.out] at h_; exact h_)
          have HG2 := Aside0.mk (fun W' hb => by have h_ := (HH0.out.below (hmo W' hb)).cells.2.2.1; exact h_)
          have HGL := Aside0.mk (fun W' hb => rl_cell HH0.out.row HIN.out (hmo W' hb) x1)
          have HFL := Aside0.mk (fun W' hb => rl_froz HH0.out.row (hmo W' hb) (o + i * 3 + 1))
          have HB0 := Aside0.mk (Below.refl wq.drew.heap.size wq.drew)
          have g2d := HG2.out _ HB0.out
          have gld := HGL.out _ HB0.out
          clear hbd hmo
          refine Calm.wp_region_trC [(3, fun w_ => w_.cell? ⟨g, 2, none⟩ = some (.slice (some ⟨b, o, none⟩) n cV)), (9, fun w_ => w_.cell? ⟨g, 2, none⟩ = some (.slice (some ⟨b, o, none⟩) n cV)), (13, fun w_ => w_.cell? ⟨b, o + i * 3 + 1, none⟩ = some (.slice AX LX cX))] [0, 1, 2, 3, 4, 6, 7, 8, 9, 10, 11, 12, 13, 15] (.two 5 (.two 14 (.lin [16, 17, 18, 19, 20] .done) 16 (.lin [14, 17, 18, 19, 20] .done)) 16 (.lin [5, 14, 17, 18, 19, 20] .done)) (by kernel_rfl) (by kernel_rfl) (Calm.allC_cons (by exact g2d) (Calm.allC_cons (by exact g2d) (Calm.allC_cons (by exact gld) Calm.allC_nil))) ?_
          repeat (first
            | (refine Calm.g_value (v := ?_) (a' := ?_) rfl rfl (by rfl) ?_ ?_ ?_; rotate_left; (· rintro w' hS'; (try simp only [Calm.SC_cons, Calm.SC_nil, Nat.reduceEqDiff, forall_const, false_implies, and_true, true_and] at hS'); (try obtain ⟨hS1, hS2⟩ := hS'); go_simp; with_reducible rfl); rotate_left; (· simp only [Act.put, List.setIfInBounds_toArray, List.set_cons_zero, List.set_cons_succ, i64_w, i32_w]; rfl)))
          refine Calm.g_nil ?_
          generalize hwd_ : wq.drew = wd at HD HSR HG2 HGL HFL HB0 ⊢
          clear hwd_ g2d gld
          refine Calm.tr_two ?_ ?_
          · refine Calm.c_value (v := ?_) (w1 := ?_) (a' := ?_) rfl rfl (by rfl) ?_ ?_ ?_ ?_
            rotate_left
            rotate_left
            · go_simp; first | (refine And.intro ?_ ?_ <;> rfl) | rfl
            · repeat (first | exact Calm.okC_nil | (refine Calm.okC_cons (Or.inl (by decide +kernel)) ?_) | (refine Calm.okC_cons (Or.inr (by first | exact HG2.out _ (below_step HB0.out (below_alloc (Below.refl _ _) _)) | exact HGL.out _ (below_step HB0.out (below_alloc (Below.refl _ _) _)))) ?_))
            rotate_left
            · simp only [Act.put, List.setIfInBounds_toArray, List.set_cons_zero, List.set_cons_succ, i64_w, i32_w]; rfl
            have hsz_ := HB0.out.size
            have HB1 := Aside0.mk (below_step HB0.out (below_alloc (Below.refl wd.heap.size wd) (.cells #[] 9)))
            have HE := Aside0.mk (Kd.R_lower (lit_empty Kd.string wd 9 (fun k => wd.heap.size ≤ k) (by first | exact hsz_ | exact .inr (Nat.le_trans HD.out.keep.1 hsz_))) hsz_)
            generalize hw_ : World.alloc wd (.cells #[] 9) = wa at HB1 HE ⊢
            obtain ⟨be, hbe⟩ : ∃ z, wd.heap.size = z := ⟨_, rfl⟩
            have HE := Aside0.mk (show Kd.string.R 9 wa wd.heap.size (fun k => wd.heap.size ≤ k) (.slice (some ⟨be, 0, none⟩) 0 0) [] by rw [← hbe]; exact HE.out)
            rw [hbe]
            clear hw_ hbe hsz_
            refine Calm.h_nil ?_
            refine Calm.tr_two ?_ ?_
            · refine Calm.c_law rfl ?_
              refine Kd.R_append_rows_step Kd.string (w0 := wd) wd.heap.size (by rfl) (.tmp 49) (.tmp 57) 34 9 (.string (⟨#[]⟩ : ByteArray)) 16 rfl Try.underlying34 infoS rfl (by decide) (by decide) (.slice (some ⟨be, 0, none⟩) 0 0) [] x.l AX LX cX (fun k => wd.heap.size ≤ k) (fun _ => False) rfl rfl HE.out (HSR.out _ HB1.out) (fun _ _ h => h) (fun _ hk => hk.elim) ?aF HB1.out ?aS ?aL ?_
              case aF => exact fun k hk => (by first | exact Nat.le_trans HB1.out.size hk | exact .inr (Nat.le_trans HD.out.keep.1 (Nat.le_trans HB1.out.size hk)))
              case aS => exact HB1.out.size
              case aL => have := HLXB.out; simp; omega
              intro v1 wb hR_ hB_ hg_ hat_
              rw [List.nil_append] at hR_
              obtain ⟨A1, k1, hv1⟩ := Kd.R_slice hR_
              rw [HLX.out] at hv1
              subst hv1
              have HA := Aside0.mk hR_
              have HB2 := Aside0.mk hB_
              clear hR_ hB_ hg_ hat_
              refine And.intro ?_ ?_
              · repeat (first | exact Calm.okC_nil | (refine Calm.okC_cons (Or.inl (by decide +kernel)) ?_) | (refine Calm.okC_cons (Or.inr (by first | exact HG2.out _ HB2.out | exact HGL.out _ HB2.out)) ?_))
              refine Calm.put_dst (a' := ?_) rfl ?_ ?_
              rotate_left
              · simp only [Act.put, List.setIfInBounds_toArray, List.set_cons_zero, List.set_cons_succ, i64_w, i32_w]; rfl
              refine Calm.h_nil ?_
              refine Calm.tr_lin ?_
              refine Calm.c_value (v := ?_) (w1 := ?_) (a' := ?_) rfl rfl (by rfl) ?_ ?_ ?_ ?_
              rotate_left
              rotate_left
              · go_simp; first | (refine And.intro ?_ ?_ <;> rfl) | rfl
              · repeat (first | exact Calm.okC_nil | (refine Calm.okC_cons (Or.inl (by decide +kernel)) ?_) | (refine Calm.okC_cons (Or.inr (by first | exact HG2.out _ (below_step HB2.out (below_alloc (Below.refl _ _) _)) | exact HGL.out _ (below_step HB2.out (below_alloc (Below.refl _ _) _)))) ?_))
              rotate_left
              · simp only [Act.put, List.setIfInBounds_toArray, List.set_cons_zero, List.set_cons_succ, i64_w, i32_w]; rfl
              have hsz_ := HB2.out.size
              have HB3 := Aside0.mk (below_step HB2.out (below_alloc (Below.refl wb.heap.size wb) (.cells #[.string t] 9)))
              have HA := Aside0.mk (Kd.R_alloc HA.out (.cells #[.string t] 9))
              have HL := Aside0.mk (blk_new wb (.cells #[.string t] 9))
              generalize hw_ : World.alloc wb (.cells #[.string t] 9) = wc at HB3 HA HL ⊢
              obtain ⟨bl, hbl⟩ : ∃ z, wb.heap.size = z := ⟨_, rfl⟩
              rw [hbl] at HL ⊢
              have HLT := Aside0.mk (show bl < wc.heap.size from blk_lt HL.out)
              clear hw_ hbl hsz_
              refine Calm.c_law rfl ?_
              refine Kd.R_append_rows_step Kd.string (w0 := wd) wd.heap.size (by rfl) (.tmp 58) (.tmp 60) 34 9 (.string (⟨#[]⟩ : ByteArray)) 16 rfl Try.underlying34 infoS rfl (by decide) (by decide) (.slice A1 LX k1) x.l [t] (some ⟨bl, 0, none⟩) 1 1 (fun k => wd.heap.size ≤ k) (fun _ => False) rfl rfl HA.out (lit_one Kd.string (base := wd.heap.size) (okp := fun _ => False) (cs := [.string t]) HL.out rfl) (fun _ _ h => h) (fun _ hk => hk.elim) ?aF HB3.out ?aS ?aL ?_
              case aF => exact fun k hk => Nat.le_trans HB3.out.size hk
              case aS => exact HB3.out.size
              case aL => have := HLX.out; have := HLXB.out; omega
              intro v2 we hR_ hB_ hg_ hat_
              obtain ⟨n2, hn2⟩ : ∃ z, (x.l ++ [t]).length = z := ⟨_, rfl⟩
              obtain ⟨A2, k2, hv2⟩ := Kd.R_slice hR_
              rw [hn2] at hv2
              subst hv2
              have HB4 := Aside0.mk hB_
              have HH := Aside0.mk ((HD.out.below hB_).setf i HIN.out (v2 := .slice A2 n2 k2) (l2 := x.l ++ [t]) (q_fresh hR_ HD.out.bel.size (fun k hk _ => .inr (Nat.le_trans HD.out.keep.1 hk)) (fun k hk => .inr (Nat.le_trans HD.out.keep.1 hk))))
              have c4_ := HGL.out _ hB_
              have f5_ := HFL.out _ hB_
              clear hn2 hR_ hB_ hg_ hat_
              refine And.intro ?_ ?_
              · repeat (first | exact Calm.okC_nil | (refine Calm.okC_cons (Or.inl (by decide +kernel)) ?_) | (refine Calm.okC_cons (Or.inr (by first | exact HG2.out _ HB4.out | exact HGL.out _ HB4.out)) ?_))
              refine Calm.put_dst (a' := ?_) rfl ?_ ?_
              rotate_left
              · simp only [Act.put, List.setIfInBounds_toArray, List.set_cons_zero, List.set_cons_succ, i64_w, i32_w]; rfl
              refine Calm.c_value (v := ?_) (w1 := ?_) (a' := ?_) rfl rfl (by rfl) ?_ ?_ ?_ ?_
              rotate_left
              rotate_left
              · go_simp; first | (refine And.intro ?_ ?_ <;> rfl) | rfl
              · repeat (first | exact Calm.okC_nil | (refine Calm.okC_cons (Or.inl (by decide +kernel)) ?_) | (refine Calm.okC_cons (Or.inr (by fail)) ?_))
              rotate_left
              · simp only [Act.put, List.setIfInBounds_toArray, List.set_cons_zero, List.set_cons_succ, i64_w, i32_w]; rfl
              refine Calm.c_value (v := ?_) (w1 := ?_) (a' := ?_) rfl rfl (by rfl) ?_ ?_ ?_ ?_
              rotate_left
              rotate_left
              · go_simp; first | (refine And.intro ?_ ?_ <;> rfl) | rfl
              · repeat (first | exact Calm.okC_nil | (refine Calm.okC_cons (Or.inl (by decide +kernel)) ?_) | (refine Calm.okC_cons (Or.inr (by fail)) ?_))
              rotate_left
              · simp only [Act.put, List.setIfInBounds_toArray, List.set_cons_zero, List.set_cons_succ, i64_w, i32_w]; rfl
              refine Calm.c_store (w1 := ?_) rfl (by rfl) rfl ?_ ?_ ?_
              rotate_left
              · go_simp; rfl
              · repeat (first | exact Calm.okC_nil | (refine Calm.okC_cons (Or.inl (by decide +kernel)) ?_) | (refine Calm.okC_cons (Or.inr (by fail)) ?_))
              refine Calm.h_nil ?_
              refine Calm.tr_done ?_
              simp only [Exit.inBlock, Exit.then]
              go_wp2_with (fail)
              go_ret
              rw [HE1.out, HE2.out]
              exact ⟨rfl, hit_fin HH.out HXI.out HID.out HND.out⟩
            · refine Calm.c_value (v := ?_) (w1 := ?_) (a' := ?_) rfl rfl (by rfl) ?_ ?_ ?_ ?_
              rotate_left
              rotate_left
              · go_simp; first | (refine And.intro ?_ ?_ <;> rfl) | rfl
              · repeat (first | exact Calm.okC_nil | (refine Calm.okC_cons (Or.inl (by decide +kernel)) ?_) | (refine Calm.okC_cons (Or.inr (by first | exact HG2.out _ (below_step HB1.out (below_alloc (Below.refl _ _) _)) | exact HGL.out _ (below_step HB1.out (below_alloc (Below.refl _ _) _)))) ?_))
              rotate_left
              · simp only [Act.put, List.setIfInBounds_toArray, List.set_cons_zero, List.set_cons_succ, i64_w, i32_w]; rfl
              have hsz_ := HB1.out.size
              have hlt_ := Kd.R_lt HE.out be rfl
              have HB2 := Aside0.mk (below_step HB1.out (below_alloc (Below.refl wa.heap.size wa) (.cells #[.string t] 9)))
              have HE := Aside0.mk (Kd.R_alloc HE.out (.cells #[.string t] 9))
              have HL := Aside0.mk (blk_new wa (.cells #[.string t] 9))
              generalize hw_ : World.alloc wa (.cells #[.string t] 9) = wb at HB2 HE HL ⊢
              obtain ⟨bl, hbl⟩ : ∃ z, wa.heap.size = z := ⟨_, rfl⟩
              rw [hbl] at HL ⊢
              have HLT := Aside0.mk (show bl < wb.heap.size from blk_lt HL.out)
              have HNE := Aside0.mk (show bl ≠ be by omega)
              clear hw_ hbl hsz_ hlt_
              refine Calm.h_nil ?_
              refine Calm.tr_lin ?_
              refine Calm.c_law rfl ?_
              refine Kd.R_append_rows_step Kd.string (w0 := wd) wd.heap.size (by rfl) (.tmp 49) (.tmp 57) 34 9 (.string (⟨#[]⟩ : ByteArray)) 16 rfl Try.underlying34 infoS rfl (by decide) (by decide) (.slice (some ⟨be, 0, none⟩) 0 0) [] x.l AX LX cX (fun k => wd.heap.size ≤ k) (fun _ => False) rfl rfl HE.out (HSR.out _ HB2.out) (fun _ _ h => h) (fun _ hk => hk.elim) ?aF HB2.out ?aS ?aL ?_
              case aF => exact fun k hk => (by first | exact Nat.le_trans HB2.out.size hk | exact .inr (Nat.le_trans HD.out.keep.1 (Nat.le_trans HB2.out.size hk)))
              case aS => exact HB2.out.size
              case aL => have := HLXB.out; simp; omega
              intro v1 wc hR_ hB_ hg_ hat_
              rw [List.nil_append] at hR_
              obtain ⟨A1, k1, hv1⟩ := Kd.R_slice hR_
              rw [HLX.out] at hv1
              subst hv1
              have HA := Aside0.mk hR_
              have HB3 := Aside0.mk hB_
              have HL := Aside0.mk ((hg_.block bl (blk_lt HL.out) (fun e => by injection e with e; exact HNE.out e)).trans HL.out)
              clear hR_ hB_ hg_ hat_
              refine And.intro ?_ ?_
              · repeat (first | exact Calm.okC_nil | (refine Calm.okC_cons (Or.inl (by decide +kernel)) ?_) | (refine Calm.okC_cons (Or.inr (by first | exact HG2.out _ HB3.out | exact HGL.out _ HB3.out)) ?_))
              refine Calm.put_dst (a' := ?_) rfl ?_ ?_
              rotate_left
              · simp only [Act.put, List.setIfInBounds_toArray, List.set_cons_zero, List.set_cons_succ, i64_w, i32_w]; rfl
              refine Calm.c_law rfl ?_
              refine Kd.R_append_rows_step Kd.string (w0 := wd) wd.heap.size (by rfl) (.tmp 58) (.tmp 60) 34 9 (.string (⟨#[]⟩ : ByteArray)) 16 rfl Try.underlying34 infoS rfl (by decide) (by decide) (.slice A1 LX k1) x.l [t] (some ⟨bl, 0, none⟩) 1 1 (fun k => wd.heap.size ≤ k) (fun _ => False) rfl rfl HA.out (lit_one Kd.string (base := wd.heap.size) (okp := fun _ => False) (cs := [.string t]) HL.out rfl) (fun _ _ h => h) (fun _ hk => hk.elim) ?aF HB3.out ?aS ?aL ?_
              case aF => exact fun k hk => Nat.le_trans HB3.out.size hk
              case aS => exact HB3.out.size
              case aL => have := HLX.out; have := HLXB.out; omega
              intro v2 we hR_ hB_ hg_ hat_
              obtain ⟨n2, hn2⟩ : ∃ z, (x.l ++ [t]).length = z := ⟨_, rfl⟩
              obtain ⟨A2, k2, hv2⟩ := Kd.R_slice hR_
              rw [hn2] at hv2
              subst hv2
              have HB4 := Aside0.mk hB_
              have HH := Aside0.mk ((HD.out.below hB_).setf i HIN.out (v2 := .slice A2 n2 k2) (l2 := x.l ++ [t]) (q_fresh hR_ HD.out.bel.size (fun k hk _ => .inr (Nat.le_trans HD.out.keep.1 hk)) (fun k hk => .inr (Nat.le_trans HD.out.keep.1 hk))))
              have c4_ := HGL.out _ hB_
              have f5_ := HFL.out _ hB_
              clear hn2 hR_ hB_ hg_ hat_
              refine And.intro ?_ ?_
              · repeat (first | exact Calm.okC_nil | (refine Calm.okC_cons (Or.inl (by decide +kernel)) ?_) | (refine Calm.okC_cons (Or.inr (by first | exact HG2.out _ HB4.out | exact HGL.out _ HB4.out)) ?_))
              refine Calm.put_dst (a' := ?_) rfl ?_ ?_
              rotate_left
              · simp only [Act.put, List.setIfInBounds_toArray, List.set_cons_zero, List.set_cons_succ, i64_w, i32_w]; rfl
              refine Calm.c_value (v := ?_) (w1 := ?_) (a' := ?_) rfl rfl (by rfl) ?_ ?_ ?_ ?_
              rotate_left
              rotate_left
              · go_simp; first | (refine And.intro ?_ ?_ <;> rfl) | rfl
              · repeat (first | exact Calm.okC_nil | (refine Calm.okC_cons (Or.inl (by decide +kernel)) ?_) | (refine Calm.okC_cons (Or.inr (by fail)) ?_))
              rotate_left
              · simp only [Act.put, List.setIfInBounds_toArray, List.set_cons_zero, List.set_cons_succ, i64_w, i32_w]; rfl
              refine Calm.c_value (v := ?_) (w1 := ?_) (a' := ?_) rfl rfl (by rfl) ?_ ?_ ?_ ?_
              rotate_left
              rotate_left
              · go_simp; first | (refine And.intro ?_ ?_ <;> rfl) | rfl
              · repeat (first | exact Calm.okC_nil | (refine Calm.okC_cons (Or.inl (by decide +kernel)) ?_) | (refine Calm.okC_cons (Or.inr (by fail)) ?_))
              rotate_left
              · simp only [Act.put, List.setIfInBounds_toArray, List.set_cons_zero, List.set_cons_succ, i64_w, i32_w]; rfl
              refine Calm.c_store (w1 := ?_) rfl (by rfl) rfl ?_ ?_ ?_
              rotate_left
              · go_simp; rfl
              · repeat (first | exact Calm.okC_nil | (refine Calm.okC_cons (Or.inl (by decide +kernel)) ?_) | (refine Calm.okC_cons (Or.inr (by fail)) ?_))
              refine Calm.h_nil ?_
              refine Calm.tr_done ?_
              simp only [Exit.inBlock, Exit.then]
              go_wp2_with (fail)
              go_ret
              rw [HE1.out, HE2.out]
              exact ⟨rfl, hit_fin HH.out HXI.out HID.out HND.out⟩
          · refine Calm.c_value (v := ?_) (w1 := ?_) (a' := ?_) rfl rfl (by rfl) ?_ ?_ ?_ ?_
            rotate_left
            rotate_left
            · go_simp; first | (refine And.intro ?_ ?_ <;> rfl) | rfl
            · repeat (first | exact Calm.okC_nil | (refine Calm.okC_cons (Or.inl (by decide +kernel)) ?_) | (refine Calm.okC_cons (Or.inr (by first | exact HG2.out _ (below_step HB0.out (below_alloc (Below.refl _ _) _)) | exact HGL.out _ (below_step HB0.out (below_alloc (Below.refl _ _) _)))) ?_))
            rotate_left
            · simp only [Act.put, List.setIfInBounds_toArray, List.set_cons_zero, List.set_cons_succ, i64_w, i32_w]; rfl
            have hsz_ := HB0.out.size
            have HB1 := Aside0.mk (below_step HB0.out (below_alloc (Below.refl wd.heap.size wd) (.cells #[.string t] 9)))
            have HL := Aside0.mk (blk_new wd (.cells #[.string t] 9))
            generalize hw_ : World.alloc wd (.cells #[.string t] 9) = wa at HB1 HL ⊢
            obtain ⟨bl, hbl⟩ : ∃ z, wd.heap.size = z := ⟨_, rfl⟩
            rw [hbl] at HL ⊢
            have HLT := Aside0.mk (show bl < wa.heap.size from blk_lt HL.out)
            clear hw_ hbl hsz_
            refine Calm.h_nil ?_
            refine Calm.tr_lin ?_
            refine Calm.c_value (v := ?_) (w1 := ?_) (a' := ?_) rfl rfl (by rfl) ?_ ?_ ?_ ?_
            rotate_left
            rotate_left
            · go_simp; first | (refine And.intro ?_ ?_ <;> rfl) | rfl
            · repeat (first | exact Calm.okC_nil | (refine Calm.okC_cons (Or.inl (by decide +kernel)) ?_) | (refine Calm.okC_cons (Or.inr (by first | exact HG2.out _ (below_step HB1.out (below_alloc (Below.refl _ _) _)) | exact HGL.out _ (below_step HB1.out (below_alloc (Below.refl _ _) _)))) ?_))
            rotate_left
            · simp only [Act.put, List.setIfInBounds_toArray, List.set_cons_zero, List.set_cons_succ, i64_w, i32_w]; rfl
            have hsz_ := HB1.out.size
            have HB2 := Aside0.mk (below_step HB1.out (below_alloc (Below.refl wa.heap.size wa) (.cells #[] 9)))
            have HL := Aside0.mk (blk_alloc HL.out (.cells #[] 9))
            have HE := Aside0.mk (Kd.R_lower (lit_empty Kd.string wa 9 (fun k => wd.heap.size ≤ k) (by first | exact hsz_ | exact .inr (Nat.le_trans HD.out.keep.1 hsz_))) hsz_)
            generalize hw_ : World.alloc wa (.cells #[] 9) = wb at HB2 HL HE ⊢
            obtain ⟨be, hbe⟩ : ∃ z, wa.heap.size = z := ⟨_, rfl⟩
            have HE := Aside0.mk (show Kd.string.R 9 wb wd.heap.size (fun k => wd.heap.size ≤ k) (.slice (some ⟨be, 0, none⟩) 0 0) [] by rw [← hbe]; exact HE.out)
            rw [hbe]
            have HNE := Aside0.mk (show bl ≠ be by have := HLT.out; omega)
            clear hw_ hbe hsz_
            refine Calm.c_law rfl ?_
            refine Kd.R_append_rows_step Kd.string (w0 := wd) wd.heap.size (by rfl) (.tmp 49) (.tmp 57) 34 9 (.string (⟨#[]⟩ : ByteArray)) 16 rfl Try.underlying34 infoS rfl (by decide) (by decide) (.slice (some ⟨be, 0, none⟩) 0 0) [] x.l AX LX cX (fun k => wd.heap.size ≤ k) (fun _ => False) rfl rfl HE.out (HSR.out _ HB2.out) (fun _ _ h => h) (fun _ hk => hk.elim) ?aF HB2.out ?aS ?aL ?_
            case aF => exact fun k hk => (by first | exact Nat.le_trans HB2.out.size hk | exact .inr (Nat.le_trans HD.out.keep.1 (Nat.le_trans HB2.out.size hk)))
            case aS => exact HB2.out.size
            case aL => have := HLXB.out; simp; omega
            intro v1 wc hR_ hB_ hg_ hat_
            rw [List.nil_append] at hR_
            obtain ⟨A1, k1, hv1⟩ := Kd.R_slice hR_
            rw [HLX.out] at hv1
            subst hv1
            have HA := Aside0.mk hR_
            have HB3 := Aside0.mk hB_
            have HL := Aside0.mk ((hg_.block bl (blk_lt HL.out) (fun e => by injection e with e; exact HNE.out e)).trans HL.out)
            clear hR_ hB_ hg_ hat_
            refine And.intro ?_ ?_
            · repeat (first | exact Calm.okC_nil | (refine Calm.okC_cons (Or.inl (by decide +kernel)) ?_) | (refine Calm.okC_cons (Or.inr (by first | exact HG2.out _ HB3.out | exact HGL.out _ HB3.out)) ?_))
            refine Calm.put_dst (a' := ?_) rfl ?_ ?_
            rotate_left
            · simp only [Act.put, List.setIfInBounds_toArray, List.set_cons_zero, List.set_cons_succ, i64_w, i32_w]; rfl
            refine Calm.c_law rfl ?_
            refine Kd.R_append_rows_step Kd.string (w0 := wd) wd.heap.size (by rfl) (.tmp 58) (.tmp 60) 34 9 (.string (⟨#[]⟩ : ByteArray)) 16 rfl Try.underlying34 infoS rfl (by decide) (by decide) (.slice A1 LX k1) x.l [t] (some ⟨bl, 0, none⟩) 1 1 (fun k => wd.heap.size ≤ k) (fun _ => False) rfl rfl HA.out (lit_one Kd.string (base := wd.heap.size) (okp := fun _ => False) (cs := [.string t]) HL.out rfl) (fun _ _ h => h) (fun _ hk => hk.elim) ?aF HB3.out ?aS ?aL ?_
            case aF => exact fun k hk => Nat.le_trans HB3.out.size hk
            case aS => exact HB3.out.size
            case aL => have := HLX.out; have := HLXB.out; omega
            intro v2 we hR_ hB_ hg_ hat_
            obtain ⟨n2, hn2⟩ : ∃ z, (x.l ++ [t]).length = z := ⟨_, rfl⟩
            obtain ⟨A2, k2, hv2⟩ := Kd.R_slice hR_
            rw [hn2] at hv2
            subst hv2
            have HB4 := Aside0.mk hB_
            have HH := Aside0.mk ((HD.out.below hB_).setf i HIN.out (v2 := .slice A2 n2 k2) (l2 := x.l ++ [t]) (q_fresh hR_ HD.out.bel.size (fun k hk _ => .inr (Nat.le_trans HD.out.keep.1 hk)) (fun k hk => .inr (Nat.le_trans HD.out.keep.1 hk))))
            have c4_ := HGL.out _ hB_
            have f5_ := HFL.out _ hB_
            clear hn2 hR_ hB_ hg_ hat_
            refine And.intro ?_ ?_
            · repeat (first | exact Calm.okC_nil | (refine Calm.okC_cons (Or.inl (by decide +kernel)) ?_) | (refine Calm.okC_cons (Or.inr (by first | exact HG2.out _ HB4.out | exact HGL.out _ HB4.out)) ?_))
            refine Calm.put_dst (a' := ?_) rfl ?_ ?_
            rotate_left
            · simp only [Act.put, List.setIfInBounds_toArray, List.set_cons_zero, List.set_cons_succ, i64_w, i32_w]; rfl
            refine Calm.c_value (v := ?_) (w1 := ?_) (a' := ?_) rfl rfl (by rfl) ?_ ?_ ?_ ?_
            rotate_left
            rotate_left
            · go_simp; first | (refine And.intro ?_ ?_ <;> rfl) | rfl
            · repeat (first | exact Calm.okC_nil | (refine Calm.okC_cons (Or.inl (by decide +kernel)) ?_) | (refine Calm.okC_cons (Or.inr (by fail)) ?_))
            rotate_left
            · simp only [Act.put, List.setIfInBounds_toArray, List.set_cons_zero, List.set_cons_succ, i64_w, i32_w]; rfl
            refine Calm.c_value (v := ?_) (w1 := ?_) (a' := ?_) rfl rfl (by rfl) ?_ ?_ ?_ ?_
            rotate_left
            rotate_left
            · go_simp; first | (refine And.intro ?_ ?_ <;> rfl) | rfl
            · repeat (first | exact Calm.okC_nil | (refine Calm.okC_cons (Or.inl (by decide +kernel)) ?_) | (refine Calm.okC_cons (Or.inr (by fail)) ?_))
            rotate_left
            · simp only [Act.put, List.setIfInBounds_toArray, List.set_cons_zero, List.set_cons_succ, i64_w, i32_w]; rfl
            refine Calm.c_store (w1 := ?_) rfl (by rfl) rfl ?_ ?_ ?_
            rotate_left
            · go_simp; rfl
            · repeat (first | exact Calm.okC_nil | (refine Calm.okC_cons (Or.inl (by decide +kernel)) ?_) | (refine Calm.okC_cons (Or.inr (by fail)) ?_))
            refine Calm.h_nil ?_
            refine Calm.tr_done ?_
            simp only [Exit.inBlock, Exit.then]
            go_wp2_with (fail)
            go_ret
            rw [HE1.out, HE2.out]
            exact ⟨rfl, hit_fin HH.out HXI.out HID.out HND.out⟩
      · have HID := Aside0.mk hid
        have E1 : (x.id == id) = false := beq_eq_false_iff_ne.2 hid
        clear hid
        go_wp2_with (fail)
        go_roundw
        case rel =>
          refine ⟨i + 1, by first | rfl | simp, by first | rfl | trivial, ⟨by have := HD1.out; omega, fun y hy => ?_⟩⟩
          rw [List.take_add_one, List.getElem?_eq_getElem HIN.out] at hy
          rcases List.mem_append.1 hy with hy | hy
          · exact HI1.out.2 y hy
          · have hy2 : y = s.st[i] := by simpa using hy
            rw [hy2, HXI.out]; exact HID.out
        case measure => clear i1 i2; have := HD1.out; simp [intOf]; omega
    · have hall : ∀ y ∈ s.st, y.id ≠ id := by
        have h1 := HI1.out.2
        rw [List.take_of_length_le (by have := HI1.out.1; have := HN.out; omega)] at h1
        exact h1
      have hlo := listOf_none hall
      have h1 : ¬ (((listOf s.st id).length : Int) = s.lim) := by rw [hlo]; have := HI.out.l0; simp; omega
      have HE1 := Aside0.mk (show pushE s id t = 0 from (if_neg h0).trans (if_neg h1))
      have HE2 := Aside0.mk (show pushS s id t = ⟨s.lim, s.qu, s.st ++ [⟨id, [t], 0⟩], s.sv⟩ by rw [← addQ_new hall]; exact (if_neg h0).trans (if_neg h1))
      have M1 : decide ((i : Int) < (n : Int)) = false := decide_eq_false (by have := HI1.out.1; omega)
      have M2 : decide (i < n) = false := decide_eq_false (by have := HI1.out.1; omega)
      have hb := below_alloc (Below.refl wr.heap.size wr) (.cells #[.string t] 9)
      have HS := Aside0.mk (lit_str wr t)
      obtain ⟨wl, hwl⟩ : ∃ z, wr.alloc (.cells #[.string t] 9) = z := ⟨_, rfl⟩
      rw [hwl] at hb HS
      have HL := Aside0.mk (HH0.out.below hb)
      obtain ⟨-, -, l2, -, -, -⟩ := HL.out.cells
      have HVL := Aside0.mk (fun k (e : (Value.slice AV n cV).ownBlock = some k) => Kd.Q_lt HH0.out.row k e)
      clear d1 hall hlo h1 hb
      go_wp2_with ((with_reducible refine gate_builtin (b := .append) (xs := #[.tmp 68, .tmp 73]) rfl ?_); at_builtin; refine Kd.Q_append rq (w0 := w0) w0.heap.size rfl (.tmp 68) (.tmp 73) 56 60 (.agg #[.int .i64 0, .slice none 0 0, .int .i64 0]) 40 rfl Try.underlying56 infoQ rfl (by decide) (by decide) (.slice AV n cV) s.st ⟨id, [t], 0⟩ [.int .i64 id, .slice (some ⟨wr.heap.size, 0, none⟩) 1 1, .int .i64 0] (fun k => ok k ∨ wr.heap.size ≤ k) (fun k => k = wr.heap.size) rfl rfl ?aP ?aO ?aF HL.out.row HL.out.bel ?aS ?aL ?_; (case aP => exact ⟨_, rfl, Kd.Q_lower (Kd.Q_of_R HS.out) HH0.out.bel.size⟩); (case aO => exact fun k hk => ⟨.inr (Nat.le_of_eq hk.symm), fun e => by have := HVL.out k e.symm; omega⟩); (case aF => exact fun k hk => .inr (Nat.le_trans HL.out.keep.1 hk)); (case aS => exact HL.out.bel.size); (case aL => have := HN.out; have := HLN.out; omega); intro v1 w3 hQ_ hB_ hg_ hat_; obtain ⟨A1, k1, hv1, -⟩ := Kd.Q_slice hQ_; obtain ⟨n1, hn1⟩ : ∃ z, (s.st ++ [(⟨id, [t], 0⟩ : Qu)]).length = z := ⟨_, rfl⟩; rw [hn1] at hv1; subst hv1; have hgr := (hg_.block g (blk_lt HL.out.blk) (rq_type HL.out.row HL.out.blk (by decide))).trans HL.out.blk; have g2_ := (blk_cell hgr 2).trans (rfl : _ = some (Value.slice AV n cV)); have gf_ := blk_frozen hgr 2; have H3 := Aside0.mk (HL.out.app hB_ hg_ hQ_); clear hn1 hQ_ hB_ hg_ hat_ hgr)
      go_ret
      rw [HE1.out, HE2.out]
      exact ⟨by first | rfl | trivial, _, H3.out⟩
theorem rpush_c (g : Nat) (id : Int) (t : ByteArray) (s : FS) (ok : Nat → Prop) (w0 W : World) (h : RO w0 W W ok g s) (hi : FI s) (hk : (Lit.int .i64 id).wf = true) (hl : s.st.length ≤ 100000) :
    Calls Try.prog 14 #[.pointer (some ⟨g, 0, none⟩), .int .i64 id, .string t] W fun e w' => e = .returned (.int .i64 (pushE s id t)) ∧ RO w0 W w' ok g (pushS s id t) := by
  by_cases h0 : 65535 < t.size
  · exact rpush_long g id t s ok w0 W h hi hk hl h0
  · exact rpush_all g id t s ok w0 W h hi hk hl h0
end Go.Proofs.Ytcieopcihbgfdaa.Rf
