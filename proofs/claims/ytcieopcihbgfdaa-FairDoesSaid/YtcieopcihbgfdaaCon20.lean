/- Layer 20: New and Push. gen/mk_q20.py writes this text. -/
import Derived.Test.YtcieopcihbgfdaaFair1
import Derived.Carry
namespace Go.Proofs.Ytcieopcihbgfdaa.Fq
open Go.RowKit Go.Proofs.YtcieopcihbgfdaaW.PrintWords Go.Proofs.YtcieopcihbgfdaaW.PrintLast Go.Proofs.YtcieopcihbgfdaaW.PrintMore Go.Proofs.Ytcieopcihbgfdaa.PFairDoes Go.Proofs.Ytcieopcihbgfdaa Go.Proofs.Ytcieopcihbgfdaa.Fair
set_option linter.unusedVariables false
set_option linter.unusedSimpArgs false
def cutV (n : Int) : Int := mn (mx n 1) 1048576
theorem cut_c (n : Int) (w : World) : Calls Try.prog 19 #[.int .i64 n] w fun e w' => e = .returned (.int .i64 (cutV n)) ∧ Below w.heap.size w w' := fair_cut.calls n _ w rfl
theorem infoS : (Try.prog.info? 9).map (fun i => (i.zero, i.size, i.bytes)) = some (some (.string (⟨#[]⟩ : ByteArray)), 1, 16) := by kernel_rfl
theorem infoI : (Try.prog.info? 2).map (fun i => (i.zero, i.size, i.bytes)) = some (some (.int .i64 0), 1, 8) := by kernel_rfl
theorem zeroP (w : World) : (zeroValue 51).run Try.prog w = .ok (.pointer none) w := by kernel_rfl
theorem fm_in {l : List Int} {qb : Int → Nat} {k : Int} (h : k ∈ l) : fm l qb k = some (.pointer (some ⟨qb k, 0, none⟩)) := if_pos h
theorem fm_out {l : List Int} {qb : Int → Nat} {k : Int} (h : k ∉ l) : fm l qb k = none := if_neg h
theorem new_fin {lim qu : Int} {w0 W w2 w3 : World} {gb : Nat} (h2 : Below w0.heap.size w0 w2) (h2' : Below W.heap.size W w2) (hx : w3.heap[gb]? = some (.cells #[.int .i64 lim, .int .i64 qu, .map (some w2.heap.size), .slice none 0 0, .bool false] 50 (0, 0)))
    (hb3 : Below (w2.alloc (.map #[] 0)).heap.size (w2.alloc (.map #[] 0)) w3) (hg : (w2.alloc (.map #[] 0)).heap.size ≤ gb) :
    ∃ g, Ending.returned (Value.pointer (some ⟨gb, 0, none⟩)) = .returned (.pointer (some ⟨g, 0, none⟩)) ∧ w0.heap.size ≤ g ∧ FO w0 W w3 (fun _ => False) g ⟨lim, qu, [], false⟩ := by
  have hbm : Below w2.heap.size w2 (w2.alloc (.map #[] 0)) := below_alloc (Below.refl _ _) _
  have hsz : (w2.alloc (.map #[] 0)).heap.size = w2.heap.size + 1 := by simp
  have hm := VM.made w2
  have h02 := h2.size
  have hW := h2'.size
  have hb := below_step hbm hb3
  refine ⟨gb, rfl, by omega, w2.heap.size, .slice none 0 0, fun _ => 0, fun _ => 0, ⟨below_step h2 hb, Kept.of_below (below_step h2' hb) _, hx, .inr (by omega), .inr hW, by omega, h02, ?_, Kd.Q_nil _ _ _ _ _, fun x hx => by cases hx⟩⟩
  exact (hm.same (hb3.block _ hm.lt)).congr (fun k => by unfold fm ids; simp)
theorem here_fin {w0 W w : World} {ok : Nat → Prop} {g m : Nat} {vr : Value} {qb : Int → Nat} {ow : Nat → Int} {s : FS} {id : Int} {t : ByteArray} (h : FH w0 W w ok g m vr qb ow s.lim s.qu s.sv (ids s) s.st.length (fm (ids s) qb) (addQ s.st id t)) (hm : id ∈ ids s) : FO w0 W w ok g ⟨s.lim, s.qu, addQ s.st id t, s.sv⟩ := by
  refine ⟨m, vr, qb, ow, ?_⟩
  have ei : ids ⟨s.lim, s.qu, addQ s.st id t, s.sv⟩ = ids s := addQ_ids hm
  have el : (addQ s.st id t).length = s.st.length := addQ_len hm
  rw [ei]
  show FH _ _ _ _ _ _ _ _ _ _ _ _ _ (addQ s.st id t).length _ _
  rw [el]
  exact h
theorem new_fin2 {w0 W w w1 : World} {ok : Nat → Prop} {g m gb : Nat} {vr : Value} {qb qb2 : Int → Nat} {ow ow1 : Nat → Int} {s : FS} {id : Int} {t : ByteArray} (h : FH w0 W w ok g m vr qb2 ow s.lim s.qu s.sv (ids s ++ [id]) (if (fm (ids s) qb id).isSome = true then s.st.length else s.st.length + 1) (VM.put (fm (ids s) qb) id (.pointer (some ⟨gb, 0, none⟩))) (⟨id, [], 0⟩ :: s.st))
    (hq : qb2 id = gb) (hqo : ∀ k, k ≠ id → qb2 k = qb k) (hm : id ∉ ids s) (hn : ∀ y ∈ s.st, y.id ≠ id) {v v1 : Value} (hv : w.heap[gb]? = some (.cells #[v, .int .i64 0] 54 (0, 0))) (hvq : Kd.string.Q 9 w w0.heap.size (fun k => (ok k ∨ W.heap.size ≤ k) ∧ ow k = id) v [])
    (hb : Below w0.heap.size w0 w1) (hg : w.grownBy w1 v.ownBlock) (how : ∀ k, k < w.heap.size → ow1 k = ow k) (hQ : Kd.string.Q 9 w1 w0.heap.size (fun k => (ok k ∨ W.heap.size ≤ k) ∧ ow1 k = id) v1 ([] ++ [t])) :
    FO w0 W (w1.setCell ⟨gb, 0, none⟩ v1) ok g ⟨s.lim, s.qu, s.st ++ [⟨id, [t], 0⟩], s.sv⟩ := by
  subst hq
  have h9 := h.setq (x := ⟨id, [], 0⟩) List.mem_cons_self hv hvq hb hg (j := 0) rfl how hQ (st1 := s.st ++ [⟨id, [t], 0⟩]) (fun y hy => by
    rcases List.mem_append.1 hy with h | h
    · exact .inr ⟨List.mem_cons_of_mem _ h, hn y h⟩
    · exact .inl (List.mem_singleton.1 h))
  have e1 : (fm (ids s) qb id).isSome = false := by rw [fm_out hm]; rfl
  rw [e1, if_neg (by decide)] at h9
  have ei : ids ⟨s.lim, s.qu, s.st ++ [⟨id, [t], 0⟩], s.sv⟩ = ids s ++ [id] := by simp [ids]
  refine ⟨m, vr, qb2, ow1, ?_⟩
  rw [ei]
  have ef : VM.put (fm (ids s) qb) id (.pointer (some ⟨qb2 id, 0, none⟩)) = fm (ids s ++ [id]) qb2 := by
    funext k
    unfold VM.put
    by_cases hk : k = id
    · subst hk
      rw [if_pos rfl, fm_in (by simp)]
    · rw [if_neg hk]
      by_cases hk2 : k ∈ ids s
      · rw [fm_in hk2, fm_in (List.mem_append_left _ hk2), hqo k hk]
      · rw [fm_out hk2, fm_out (by simp [hk, hk2])]
  rw [ef] at h9
  show FH _ _ _ _ _ _ _ _ _ _ _ _ _ (s.st ++ [(⟨id, [t], 0⟩ : Qu)]).length _ _
  rw [List.length_append]
  exact h9
theorem lab_ow {w : World} {k : Nat} {i : Int} {ow : Nat → Int} (h : k < w.heap.size) : (if w.heap.size ≤ k then i else ow k) = ow k := if_neg (by omega)
theorem lab_q {W : World} {n B : Nat} {ok : Nat → Prop} {ow : Nat → Int} {i : Int} {v : Value} {l : List ByteArray} (h : Kd.string.Q 9 (W.drewN n) B (fun k => (ok k ∨ W.heap.size ≤ k) ∧ ow k = i) v l) : Kd.string.Q 9 (W.drewN n) B (fun k => (ok k ∨ W.heap.size ≤ k) ∧ (if W.heap.size ≤ k then i else ow k) = i) v l :=
  Kd.Q_mono h (fun k hk => ⟨hk.1, by split; rfl; exact hk.2⟩)
set_option maxHeartbeats 8000000 in
set_option maxRecDepth 100000 in
theorem new_c (lim qu : Int) (w0 W : World) (hB : Below w0.heap.size w0 W) : Calls Try.prog 9 #[.int .i64 lim, .int .i64 qu] W fun e w' => ∃ g, e = .returned (.pointer (some ⟨g, 0, none⟩)) ∧ w0.heap.size ≤ g ∧ FO w0 W w' (fun _ => False) g ⟨cutV lim, cutV qu, [], false⟩ := by
  have HB := Aside0.mk hB
  have hmm := @run_makeMap Try.prog
  clear hB
  go_enter Try.func9, Try.ntmps9
  go_wp2_with (first | (go_at_call 19; (with_reducible refine (cut_c lim _).mono ?_); rintro e_ w1 ⟨rfl, hd⟩; have HB1 := Aside0.mk (below_step HB.out hd); have HC1 := Aside0.mk hd; clear hd) | (go_at_call 19; (with_reducible refine (cut_c qu _).mono ?_); rintro e_ w2 ⟨rfl, hd⟩; have HB2 := Aside0.mk (below_step HB1.out hd); have HC2 := Aside0.mk (below_step HC1.out hd); clear hd) | ((with_reducible refine gate_dst (N := 11) rfl ?_); refine box_event ?hg (N := 11) ?hd (cs := [.int .i64 (cutV lim), .int .i64 (cutV qu), .map (some w2.heap.size), .slice none 0 0, .bool false].toArray) (t := 50) ?hr ?_; (case hd => rfl); (case hg => rfl); (case hr => first | (go_simp; done) | (go_simp; rfl)); intro gb hgb w3 hbox hb; have HX := Aside0.mk hbox; have HB3 := Aside0.mk hb; have HGB := Aside0.mk hgb; clear hgb hbox hb))
  go_ret
  exact new_fin HB2.out HC2.out HX.out HB3.out (Nat.le_of_eq HGB.out.symm)
set_option maxHeartbeats 8000000 in
set_option maxRecDepth 100000 in
theorem push_long (g : Nat) (id : Int) (t : ByteArray) (s : FS) (ok : Nat → Prop) (w0 W : World) (h : FO w0 W W ok g s) (hi : FI s) (hk : (Lit.int .i64 id).wf = true) (hl : s.st.length ≤ 100000) (h0 : 65535 < t.size) :
    Calls Try.prog 10 #[.pointer (some ⟨g, 0, none⟩), .int .i64 id, .string t] W fun e w' => e = .returned (.int .i64 (pushE s id t)) ∧ FO w0 W w' ok g (pushS s id t) := by
  have e1 : pushE s id t = 8 := if_pos h0
  have e2 : pushS s id t = s := if_pos h0
  rw [e1, e2]
  have S1 : decide ((t.size : Int) > 65535) = true := decide_eq_true (by omega)
  have S2 : decide ((65535 : Int) < (t.size : Int)) = true := S1
  have S3 : decide (65535 < t.size) = true := decide_eq_true h0
  have HF := Aside0.mk h
  clear h hi hk hl h0 e1 e2
  go_enter Try.func10, Try.ntmps10
  go_wp2_with (fail)
  go_ret
  exact ⟨rfl, HF.out⟩
set_option maxHeartbeats 8000000 in
set_option maxRecDepth 100000 in
theorem push_full (g : Nat) (id : Int) (t : ByteArray) (s : FS) (ok : Nat → Prop) (w0 W : World) (h : FO w0 W W ok g s) (hi : FI s) (hk : (Lit.int .i64 id).wf = true) (hl : s.st.length ≤ 100000) (h0 : ¬ 65535 < t.size) (hm : id ∈ ids s) (h1 : ((listOf s.st id).length : Int) = s.lim) :
    Calls Try.prog 10 #[.pointer (some ⟨g, 0, none⟩), .int .i64 id, .string t] W fun e w' => e = .returned (.int .i64 (pushE s id t)) ∧ FO w0 W w' ok g (pushS s id t) := by
  have e1 : pushE s id t = 4 := (if_neg h0).trans (if_pos h1)
  have e2 : pushS s id t = s := (if_neg h0).trans (if_pos h1)
  rw [e1, e2]
  have S1 : decide ((t.size : Int) > 65535) = false := decide_eq_false (by omega)
  have S2 : decide ((65535 : Int) < (t.size : Int)) = false := S1
  have S3 : decide (65535 < t.size) = false := decide_eq_false h0
  have HF := Aside0.mk h
  obtain ⟨m, vr, qb, ow, hH⟩ := h
  have hlook := VM.lookup_ok hH.mp Try.underlying47 (zeroP W) hk
  obtain ⟨x, hx, rfl⟩ := mem_ids hm
  rw [fm_in hm] at hlook
  dsimp only [Option.getD_some, Option.isSome_some] at hlook
  obtain ⟨v, hv, hvq⟩ := (hH.qs x hx).blk
  obtain ⟨A, c, rfl, hlc⟩ := Kd.Q_slice hvq
  have hq0 := (blk_cell hv 0).trans (rfl : _ = some (Value.slice A x.l.length c))
  obtain ⟨c0, -, c2, -, -, -, -⟩ := hH.cells
  have hlx := listOf_mem hi.nd hx
  rw [hlx] at h1
  have z1 : ((x.l.length : Int) == s.lim) = true := by rw [h1]; exact beq_self_eq_true _
  have z2 : decide ((x.l.length : Int) = s.lim) = true := decide_eq_true h1
  clear hH hv hvq hlc hlx hx hm hi hl h0 e1 e2
  go_enter Try.func10, Try.ntmps10
  go_wp2_with (fail)
  go_quiet (fail)
  go_wp2_with (fail)
  go_ret
  exact ⟨rfl, by repeat (first | exact HF.out | exact FO.below HF.out (pw_below_drewN (Below.refl _ _) _))⟩
set_option maxHeartbeats 8000000 in
set_option maxRecDepth 100000 in
theorem push_here (g : Nat) (id : Int) (t : ByteArray) (s : FS) (ok : Nat → Prop) (w0 W : World) (h : FO w0 W W ok g s) (hi : FI s) (hk : (Lit.int .i64 id).wf = true) (hl : s.st.length ≤ 100000) (h0 : ¬ 65535 < t.size) (hm : id ∈ ids s) (h1 : ¬ ((listOf s.st id).length : Int) = s.lim) :
    Calls Try.prog 10 #[.pointer (some ⟨g, 0, none⟩), .int .i64 id, .string t] W fun e w' => e = .returned (.int .i64 (pushE s id t)) ∧ FO w0 W w' ok g (pushS s id t) := by
  have e1 : pushE s id t = 0 := (if_neg h0).trans (if_neg h1)
  have e2 : pushS s id t = ⟨s.lim, s.qu, addQ s.st id t, s.sv⟩ := (if_neg h0).trans (if_neg h1)
  rw [e1, e2]
  have S1 : decide ((t.size : Int) > 65535) = false := decide_eq_false (by omega)
  have S2 : decide ((65535 : Int) < (t.size : Int)) = false := S1
  have S3 : decide (65535 < t.size) = false := decide_eq_false h0
  obtain ⟨m, vr, qb, ow, hH⟩ := h
  have hlook := VM.lookup_ok hH.mp Try.underlying47 (zeroP W) hk
  obtain ⟨x, hx, rfl⟩ := mem_ids hm
  rw [fm_in hm] at hlook
  dsimp only [Option.getD_some, Option.isSome_some] at hlook
  obtain ⟨v, hv, hvq⟩ := (hH.qs x hx).blk
  obtain ⟨A, c, rfl, hlc⟩ := Kd.Q_slice hvq
  have hq0 := (blk_cell hv 0).trans (rfl : _ = some (Value.slice A x.l.length c))
  obtain ⟨c0, -, c2, -, -, -, -⟩ := hH.cells
  have hlx := listOf_mem hi.nd hx
  rw [hlx] at h1
  have z1 : ((x.l.length : Int) == s.lim) = false := beq_eq_false_iff_ne.2 h1
  have z2 : decide ((x.l.length : Int) = s.lim) = false := decide_eq_false h1
  have HLN := Aside0.mk (show x.l.length ≤ 1048576 by have := (hi.q x hx).le; have := hi.l1; omega)
  have H0 := Aside0.mk (hH.below (w1 := W.drewN 0) (pw_below_drewN (Below.refl _ _) 0))
  have HM := Aside0.mk hm
  have HX := Aside0.mk hx
  have HND := Aside0.mk hi.nd
  have HH := Aside0.mk hH
  have HV0 := Aside0.mk hv
  have HQ0 := Aside0.mk hvq
  clear hH hv hvq hlc hlx hx hm hi hl h0 e1 e2 H0
  go_enter Try.func10, Try.ntmps10
  go_wp2_with (fail)
  go_quiet (fail)
  have H1 := Aside0.mk (HH.out.below (w1 := W.drewN nq) (pw_below_drewN (Below.refl _ _) _))
  have HV : Aside0 ((W.drewN nq).heap[qb x.id]? = some (.cells #[.slice A x.l.length c, .int .i64 x.d] 54 (0, 0))) := ⟨blk_drewN HV0.out _⟩
  have HQ : Aside0 (Kd.string.Q 9 (W.drewN nq) w0.heap.size (fun k => (ok k ∨ W.heap.size ≤ k) ∧ ow k = x.id) (.slice A x.l.length c) x.l) := ⟨Kd.Q_drewN HQ0.out _⟩
  have HQ9 : Aside0 (Kd.string.Q 9 (W.drewN nq) w0.heap.size (fun k => (ok k ∨ W.heap.size ≤ k) ∧ (if W.heap.size ≤ k then x.id else ow k) = x.id) (.slice A x.l.length c) x.l) := ⟨lab_q HQ.out⟩
  go_wp2_with ((with_reducible refine gate_builtin (b := .append) (xs := #[.tmp 55, .tmp 57]) rfl ?_); at_builtin; refine Kd.Q_append Kd.string (w0 := w0) w0.heap.size rfl (.tmp 55) (.tmp 57) 34 9 (.string (⟨#[]⟩ : ByteArray)) 16 rfl Try.underlying34 infoS rfl (by decide) (by decide) (.slice A x.l.length c) x.l t [.string t] (fun k => (ok k ∨ W.heap.size ≤ k) ∧ (if W.heap.size ≤ k then x.id else ow k) = x.id) (fun _ => False) rfl rfl ?aP (fun _ hk_ => hk_.elim) ?aF HQ9.out H1.out.bel ?aS ?aL ?_; (case aP => rfl); (case aF => exact fun k_ hk_ => ⟨.inr hk_, if_pos hk_⟩); (case aS => exact H1.out.bel.size); (case aL => have := HLN.out; omega); intro v1 w1 hQ_ hB_ hg_ hat_; obtain ⟨A1_, c1_, hv1_, -⟩ := Kd.Q_slice hQ_; obtain ⟨n1_, hn1_⟩ : ∃ n_, (x.l ++ [t]).length = n_ := ⟨_, rfl⟩; rw [hn1_] at hv1_; subst hv1_; clear hn1_; have hb1_ := H1.out.qat HV.out HQ9.out (by decide) hg_; have hc5 := (blk_cell hb1_ 0).trans (rfl : _ = some ((.slice A x.l.length c) : Value)); have hf5 := blk_frozen hb1_ 0; have H9 := Aside0.mk (And.intro (H1.out.setq HX.out HV.out HQ.out hB_ hg_ (j := 0) rfl (fun k_ hk_ => lab_ow hk_) hQ_ (addQ_mem HND.out HX.out (t := t))) trivial); clear hQ_ hB_ hg_ hat_ hb1_)
  go_ret
  exact ⟨rfl, here_fin H9.out.1 HM.out⟩
set_option maxHeartbeats 8000000 in
set_option maxRecDepth 100000 in
theorem push_new (g : Nat) (id : Int) (t : ByteArray) (s : FS) (ok : Nat → Prop) (w0 W : World) (h : FO w0 W W ok g s) (hi : FI s) (hk : (Lit.int .i64 id).wf = true) (hl : s.st.length ≤ 100000) (h0 : ¬ 65535 < t.size) (hm : id ∉ ids s) :
    Calls Try.prog 10 #[.pointer (some ⟨g, 0, none⟩), .int .i64 id, .string t] W fun e w' => e = .returned (.int .i64 (pushE s id t)) ∧ FO w0 W w' ok g (pushS s id t) := by
  have hn := not_ids hm
  have h1 : ¬ (((listOf s.st id).length : Int) = s.lim) := by rw [listOf_none hn]; have := hi.l0; simp; omega
  have e1 : pushE s id t = 0 := (if_neg h0).trans (if_neg h1)
  have e2 : pushS s id t = ⟨s.lim, s.qu, s.st ++ [⟨id, [t], 0⟩], s.sv⟩ := by rw [← addQ_new hn]; exact (if_neg h0).trans (if_neg h1)
  rw [e1, e2]
  have S1 : decide ((t.size : Int) > 65535) = false := decide_eq_false (by omega)
  have S2 : decide ((65535 : Int) < (t.size : Int)) = false := S1
  have S3 : decide (65535 < t.size) = false := decide_eq_false h0
  obtain ⟨m, vr, qb, ow, hH⟩ := h
  have hlook := VM.lookup_ok hH.mp Try.underlying47 (zeroP W) hk
  rw [fm_out hm] at hlook
  dsimp only [Option.getD_none, Option.isSome_none] at hlook
  obtain ⟨Ar, cr, rfl, hlr⟩ := Kd.Q_slice hH.row
  obtain ⟨-, -, c2, -, -, -, -⟩ := hH.cells
  have hl0 := hi.l0
  have z1 : ((0 : Int) == s.lim) = false := beq_eq_false_iff_ne.2 (by omega)
  have z2 : decide ((0 : Int) = s.lim) = false := decide_eq_false (by omega)
  have z3 : ((0 : Int) = s.lim) = False := eq_false (by omega)
  have HLN := Aside0.mk (show ([] : List ByteArray).length ≤ 1048576 by decide)
  have HL := Aside0.mk (show (ids s).length ≤ 100000 by unfold ids; rw [List.length_map]; exact hl)
  have HL2 := Aside0.mk (show s.st.length < maxLen by unfold maxLen; omega)
  have HK := Aside0.mk hk
  have HN := Aside0.mk hn
  have HH := Aside0.mk hH
  have HM := Aside0.mk hm
  clear hH hlr hm hn hi hl hl0 h0 h1 e1 e2 hk
  go_enter Try.func10, Try.ntmps10
  go_wp2_with (first | ((with_reducible refine gate_dst (N := 24) rfl ?_); refine box_event ?hg (N := 24) ?hd (cs := [.slice none 0 0, .int .i64 0].toArray) (t := 54) ?hr ?_; (case hd => rfl); (case hg => rfl); (case hr => first | (go_simp; done) | (go_simp; rfl)); intro gb hgb w1 hbox hb; obtain ⟨qb2, ow2, hqb2, hqo, hnew⟩ := HH.out.newq' id HN.out hb hbox (Nat.le_of_eq hgb.symm); have H1 := Aside0.mk hnew; have HQB := Aside0.mk hqb2; have HQO := Aside0.mk hqo; obtain ⟨-, -, d2, -, -, -, -⟩ := hnew.cells; clear hgb hbox hb hnew hqb2 hqo) | (refine VM.update_arm rfl (.tmp 28) (.tmp 29) (.tmp 30) (Or.inl rfl) H1.out.mp Try.underlying47 HL2.out id HK.out (.pointer (some ⟨gb, 0, none⟩)) rfl rfl rfl ?_; intro w2 hM2 ht2; have H2 := Aside0.mk (H1.out.setm hM2 ht2); obtain ⟨e0, -, -, e3, -, -, -⟩ := H2.out.cells; clear hM2 ht2) | ((with_reducible refine gate_builtin (b := .append) (xs := #[.tmp 35, .tmp 37]) rfl ?_); at_builtin; refine Kd.Q_append (Kd.int .i64) (w0 := w0) w0.heap.size rfl (.tmp 35) (.tmp 37) 48 2 (.int .i64 0) 8 rfl Try.underlying48 infoI rfl (by decide) (by decide) (.slice Ar (ids s).length cr) (ids s) id [.int .i64 id] (fun k => ok k ∨ W.heap.size ≤ k) (fun _ => False) rfl rfl ?aP (fun _ hk_ => hk_.elim) ?aF H2.out.row H2.out.bel ?aS ?aL ?_; (case aP => rfl); (case aF => exact fun k_ hk_ => .inr (Nat.le_trans H2.out.keep.1 hk_)); (case aS => exact H2.out.bel.size); (case aL => have := HL.out; omega); intro v1 w3 hQ_ hB_ hg_ hat_; obtain ⟨A1_, c1_, hv1_, -⟩ := Kd.Q_slice hQ_; obtain ⟨n1_, hn1_⟩ : ∃ n_, (ids s ++ [id]).length = n_ := ⟨_, rfl⟩; rw [hn1_] at hv1_; subst hv1_; clear hn1_; have hb1_ := H2.out.gat hg_; have g3 := (blk_cell hb1_ 3).trans (rfl : _ = some (Value.slice Ar (ids s).length cr)); have gf3 := blk_frozen hb1_ 3; have H3 := Aside0.mk (H2.out.setrow hB_ hg_ hQ_); clear hQ_ hB_ hg_ hat_ hb1_))
  obtain ⟨w4, hw4⟩ : ∃ x, w3.setCell ⟨g, 3, none⟩ (.slice A1_ n1_ c1_) = x := ⟨_, rfl⟩
  rw [hw4] at H3 ⊢
  obtain ⟨v, hv, hvq⟩ := (H3.out.qs _ List.mem_cons_self).blk
  obtain ⟨A, c, rfl, hlc⟩ := Kd.Q_slice hvq
  have hv2 : w4.heap[gb]? = some (.cells #[.slice A 0 c, .int .i64 0] 54 (0, 0)) := by rw [← HQB.out]; exact hv
  have hq0 := (blk_cell hv2 0).trans (rfl : _ = some (Value.slice A 0 c))
  obtain ⟨f0, -, -, -, -, -, -⟩ := H3.out.cells
  have HV0 := Aside0.mk hv
  have HQ0 := Aside0.mk hvq
  clear hv hvq hlc hv2
  go_quiet (fail)
  have H4 := Aside0.mk (H3.out.below (w1 := w4.drewN nq) (pw_below_drewN (Below.refl _ _) _))
  have HV : Aside0 ((w4.drewN nq).heap[gb]? = some (.cells #[.slice A 0 c, .int .i64 0] 54 (0, 0))) := ⟨by rw [← HQB.out]; exact blk_drewN HV0.out _⟩
  have HQ : Aside0 (Kd.string.Q 9 (w4.drewN nq) w0.heap.size (fun k => (ok k ∨ W.heap.size ≤ k) ∧ ow2 k = id) (.slice A 0 c) []) := ⟨Kd.Q_drewN HQ0.out _⟩
  have HQ9 : Aside0 (Kd.string.Q 9 (w4.drewN nq) w0.heap.size (fun k => (ok k ∨ W.heap.size ≤ k) ∧ (if w4.heap.size ≤ k then id else ow2 k) = id) (.slice A 0 c) []) := ⟨Kd.Q_mono HQ.out (fun k hk => ⟨hk.1, by split; rfl; exact hk.2⟩)⟩
  go_wp2_with ((with_reducible refine gate_builtin (b := .append) (xs := #[.tmp 55, .tmp 57]) rfl ?_); at_builtin; refine Kd.Q_append Kd.string (w0 := w0) w0.heap.size rfl (.tmp 55) (.tmp 57) 34 9 (.string (⟨#[]⟩ : ByteArray)) 16 rfl Try.underlying34 infoS rfl (by decide) (by decide) (.slice A 0 c) [] t [.string t] (fun k => (ok k ∨ W.heap.size ≤ k) ∧ (if w4.heap.size ≤ k then id else ow2 k) = id) (fun _ => False) rfl rfl ?aP (fun _ hk_ => hk_.elim) ?aF HQ9.out H4.out.bel ?aS ?aL ?_; (case aP => rfl); (case aF => exact fun k_ hk_ => ⟨.inr (Nat.le_trans H3.out.keep.1 hk_), if_pos hk_⟩); (case aS => exact H4.out.bel.size); (case aL => have := HLN.out; omega); intro v1 w1 hQ_ hB_ hg_ hat_; obtain ⟨A1_, c1_, hv1_, -⟩ := Kd.Q_slice hQ_; obtain ⟨n1_, hn1_⟩ : ∃ n_, ([] ++ [t]).length = n_ := ⟨_, rfl⟩; rw [hn1_] at hv1_; subst hv1_; clear hn1_; have hb1_ := H4.out.qat HV.out HQ9.out (by decide) hg_; have hc5 := (blk_cell hb1_ 0).trans (rfl : _ = some ((.slice A 0 c) : Value)); have hf5 := blk_frozen hb1_ 0; have H9 := Aside0.mk (new_fin2 (ow1 := fun k => if w4.heap.size ≤ k then id else ow2 k) H4.out HQB.out HQO.out HM.out HN.out HV.out HQ.out hB_ hg_ (fun k_ hk_ => lab_ow hk_) hQ_); clear hQ_ hB_ hg_ hat_ hb1_)
  go_ret
  exact ⟨rfl, H9.out⟩
theorem push_c (g : Nat) (id : Int) (t : ByteArray) (s : FS) (ok : Nat → Prop) (w0 W : World) (h : FO w0 W W ok g s) (hi : FI s) (hk : (Lit.int .i64 id).wf = true) (hl : s.st.length ≤ 100000) :
    Calls Try.prog 10 #[.pointer (some ⟨g, 0, none⟩), .int .i64 id, .string t] W fun e w' => e = .returned (.int .i64 (pushE s id t)) ∧ FO w0 W w' ok g (pushS s id t) := by
  by_cases h0 : 65535 < t.size
  · exact push_long g id t s ok w0 W h hi hk hl h0
  by_cases hm : id ∈ ids s
  · by_cases h1 : ((listOf s.st id).length : Int) = s.lim
    · exact push_full g id t s ok w0 W h hi hk hl h0 hm h1
    · exact push_here g id t s ok w0 W h hi hk hl h0 hm h1
  · exact push_new g id t s ok w0 W h hi hk hl h0 hm
end Go.Proofs.Ytcieopcihbgfdaa.Fq
