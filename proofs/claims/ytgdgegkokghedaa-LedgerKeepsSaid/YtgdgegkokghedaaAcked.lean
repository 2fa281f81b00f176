/- ledger.Ledger.Acked. -/
import Derived.Test.YtgdgegkokghedaaLedPlain
namespace Go.Proofs.Ytgdgegkokghedaa.Led
open Go.RowKit Go.Deep Go.Proofs.YtgdgegkokghedaaW.PrintWords Go.Proofs.YtgdgegkokghedaaW.PrintLast Go.Proofs.YtgdgegkokghedaaW.PrintMore Go.Proofs.Ytgdgegkokghedaa.PLedgerKeeps Go.Proofs.Ytgdgegkokghedaa
set_option linter.unusedVariables false
set_option linter.unusedSimpArgs false
def hiOf (r : List S34) : Int := (r.getD 0 z34).f1
def ackTold (s : LS) (r : List S34) : List S58 := s.fl.filter (fun x => anyR x.f0 r)
def ackS0 (s : LS) (r : List S34) : LS := { s with fl := s.fl.filter (fun x => !anyR x.f0 r) }
def ackS1 (s : LS) (r : List S34) : LS := toldS (ackS0 s r) (ackTold s r)
def ackLost (s : LS) (r : List S34) : List S58 := (ackS1 s r).fl.filter (farP (hiOf r))
def ackS2 (s : LS) (r : List S34) : LS := { ackS1 s r with fl := (ackS1 s r).fl.filter (fun x => !farP (hiOf r) x) }
def ackS3 (s : LS) (r : List S34) : LS := loseS (ackS2 s r) (ackLost s r)
/-- What Acked leaves and tells. -/
structure Acks (w0 W w1 w' : World) (g : Nat) (v : Value) (s' : LS) (ta tb : List Int) (er : Int) (e : Ending) : Prop where
  out : ∃ va vb v2, e = .returned (.tuple #[va, vb, .int .i64 er]) ∧ LP w0 W w' g v v2 s' ∧ Kd.R (Kd.int .i64) 2 w' w1.heap.size (fun _ => True) va ta ∧ Kd.R (Kd.int .i64) 2 w' w1.heap.size (fun _ => True) vb tb
theorem Took.later {w0 w1 w2 w : World} {g : Nat} {v1 v2 vt : Value} {l : List S58} {s : LS} (h : Took w0 w1 w2 g v1 v2 l vt) (h1 : LG w0.heap.size w1 g s v1) (hk : KeepBut w2 w g v2.ownBlock) : Kd.R k58 58 w w0.heap.size (fun k => k ≠ g ∧ w1.heap.size ≤ k) vt l :=
  Kd.R_step h.row (fun k hok hl => hk.2 k hl hok.1 (fun he => by
    have h2 := ((Kd.R_bound h1.row).1 k (by rw [← h.own]; exact he.symm)).2.2.1
    have := hok.2
    omega))
set_option maxHeartbeats 8000000 in
set_option maxRecDepth 100000 in
theorem acked_bad (w0 W w1 : World) (g cr : Nat) (Ar : Option Addr) (r : List S34) (v v1 : Value) (s : LS) (h : LP w0 W w1 g v v1 s) (hg : w0.heap.size ≤ g) (hC : ∀ w, KeepBut w1 w g v1.ownBlock → Kd.C k34 w Ar r.length r) (hcap : r.length ≤ cr) (hbad : chkV r ≠ 0) :
    Calls Try.prog 12 #[.pointer (some ⟨g, 0, none⟩), .slice Ar r.length cr] w1 fun e w' => Acks w0 W w1 w' g v s [] [] 2 e := by
  have HL := Aside0.mk h
  have HG := Aside0.mk hg
  have HCK := Aside0.mk hC
  have HC := Aside0.mk (show ∀ w, Below w1.heap.size w1 w → Kd.C k34 w Ar r.length r from fun w hb => hC w ⟨hb.size, fun k hk _ _ => hb.block k hk⟩)
  have HCAP := Aside0.mk hcap
  obtain ⟨er, her⟩ : ∃ er, chkV r = er := ⟨_, rfl⟩
  have HE := Aside0.mk her
  have HTOP := Aside0.mk trivial
  have HHI := Aside0.mk trivial
  have hne : (er == 0) = false := beq_eq_false_iff_ne.mpr (by rw [← her]; exact hbad)
  have hne2 : (er != 0) = true := by unfold bne; rw [hne]; rfl
  clear h hg hC hcap hbad her
  go_enter Try.func12, Try.ntmps12
  go_wp2_with ((with_reducible refine gate_dst (N := 3) rfl ?_); refine box_event ?hg (N := 3) ?hd (cs := [.slice Ar r.length cr].toArray) (t := 35) ?hr ?_; (case hd => rfl); (case hg => rfl); (case hr => first | (go_simp; done) | (go_simp; rfl)); intro gb hgb w2 hbox hb; have HX := Aside0.mk hbox; have HB2 := Aside0.mk hb; have HGB := Aside0.mk hgb; clear hgb hbox hb)
  have HXd := Aside0.mk (show w2.drew.heap[gb]? = some (.cells #[.slice Ar r.length cr] 35 (0, 0)) from HX.out)
  refine Calm.wp_region_phC [(0, fun w_ => w_.cell? ⟨gb, 0, none⟩ = some (.slice Ar r.length cr))] [([0], [1]), ([2, 3, 4, 5, 6, 7, 8, 9, 10, 11, 12, 13, 14, 15, 16, 17, 18], [])] (by kernel_rfl) (by kernel_rfl) ?_
  refine Calm.ph_next ?_ ?_
  · repeat (first | exact Calm.okI_nil | (refine Calm.okI_cons (Or.inl (by decide)) ?_) | (refine Calm.okI_cons (Or.inr (by exact (blk_cell HXd.out 0).trans rfl)) ?_))
  repeat (first
    | (refine Calm.g_value (v := ?_) (a' := ?_) rfl rfl (by rfl) ?_ ?_ ?_; rotate_left; (· rintro w' hS'; (try simp only [Calm.SC_cons, Calm.SC_nil, Nat.reduceEqDiff, forall_const, false_implies, and_true, true_and] at hS'); (try obtain ⟨hS1, hS2⟩ := hS'); go_simp; with_reducible rfl); rotate_left; (· simp only [Act.put, List.setIfInBounds_toArray, List.set_cons_zero, List.set_cons_succ, i64_w, i32_w]; rfl)))
  refine Calm.g_nil ?_
  refine Calm.c_call rfl rfl Try.func23 (by kernel_rfl) rfl #[.slice Ar r.length cr] (by rfl) rfl (by (try simp only [List.map_toArray, List.map_cons, List.map_nil]); rfl) ?_
  (with_reducible refine (acks_Check.calls _ Ar cr r (chkV r) _ (HC.out _ (below_drew1 HB2.out)) HCAP.out (chk_acks r)).mono ?_)
  rw [HE.out]; rintro e_ w3 ⟨rfl, hb⟩; have HB3 := Aside0.mk (below_step (below_drew1 HB2.out) hb); have HX3 := Aside0.mk (blk_below HXd.out hb); clear hb
  refine ⟨_, rfl, ?_, ?_⟩
  · repeat (first | exact Calm.okC_nil | (refine Calm.okC_cons (Or.inl (by decide +kernel)) ?_) | (refine Calm.okC_cons (Or.inr (by first | exact (blk_cell HX3.out 0).trans rfl | exact HTOP.out _ HB3.out | exact HHI.out _ HB3.out)) ?_))
  refine Calm.put_to (a' := ?_) ?_ ?_
  rotate_left
  · simp only [Act.put, List.setIfInBounds_toArray, List.set_cons_zero, List.set_cons_succ, i64_w, i32_w]; rfl
  refine Calm.h_nil ?_
  refine Calm.ph_next ?_ ?_
  · repeat (first | exact Calm.okI_nil | (refine Calm.okI_cons (Or.inl (by decide)) ?_) | (refine Calm.okI_cons (Or.inr (by first | exact (blk_cell HX3.out 0).trans rfl | exact HTOP.out _ HB3.out | exact HHI.out _ HB3.out)) ?_))
  repeat (first
    | (refine Calm.g_value (v := ?_) (a' := ?_) rfl rfl (by rfl) ?_ ?_ ?_; rotate_left; (· rintro w' hS'; (try simp only [Calm.SC_cons, Calm.SC_nil, Nat.reduceEqDiff, forall_const, false_implies, and_true, true_and] at hS'); (try obtain ⟨hS1, hS2⟩ := hS'); go_simp; with_reducible rfl); rotate_left; (· simp only [Act.put, List.setIfInBounds_toArray, List.set_cons_zero, List.set_cons_succ, i64_w, i32_w]; rfl))
    | (refine Calm.g_off (a' := ?_) rfl rfl (by rfl) ?_ ?_; rotate_left; (· simp only [Act.put, List.setIfInBounds_toArray, List.set_cons_zero, List.set_cons_succ, i64_w, i32_w]; rfl)))
  refine Calm.g_nil ?_
  refine Calm.h_nil ?_
  refine Calm.ph_end ?_
  simp only [Exit.inBlock, Exit.then]
  go_wp2_with (fail)
  go_ret3
  exact ⟨_, _, _, rfl, HL.out.below HB3.out, Kd.R_nil _ _ _ _ _, Kd.R_nil _ _ _ _ _⟩
set_option maxHeartbeats 8000000 in
set_option maxRecDepth 100000 in
theorem acked_nil (w0 W w1 : World) (g cr : Nat) (Ar : Option Addr) (r : List S34) (v v1 : Value) (s : LS) (h : LP w0 W w1 g v v1 s) (hg : w0.heap.size ≤ g) (hC : ∀ w, KeepBut w1 w g v1.ownBlock → Kd.C k34 w Ar r.length r) (hcap : r.length ≤ cr) (hok : chkV r = 0) (hnil : r.length = 0) :
    Calls Try.prog 12 #[.pointer (some ⟨g, 0, none⟩), .slice Ar r.length cr] w1 fun e w' => Acks w0 W w1 w' g v s [] [] 0 e := by
  have HL := Aside0.mk h
  have HG := Aside0.mk hg
  have HCK := Aside0.mk hC
  have HC := Aside0.mk (show ∀ w, Below w1.heap.size w1 w → Kd.C k34 w Ar r.length r from fun w hb => hC w ⟨hb.size, fun k hk _ _ => hb.block k hk⟩)
  have HCAP := Aside0.mk hcap
  obtain ⟨-, ct, -, -, -, -, -⟩ := h.lg.cells
  obtain ⟨top, htop⟩ : ∃ top, s.top = top := ⟨_, rfl⟩
  rw [htop] at ct
  have HTOP := Aside0.mk (show ∀ w, Below w1.heap.size w1 w → w.cell? ⟨g, 1, none⟩ = some (.int .i64 top) from fun w hb => (hb.cell (blk_lt h.lg.blk)).trans ct)
  clear ct
  have hr1 := eq_false (show ¬ (0 : Int) < (r.length : Int) by omega)
  have hr2 := eq_false (show ¬ 0 < r.length by omega)
  have hr3 := eq_true hnil
  have hr4 : decide ((r.length : Int) > 0) = false := decide_eq_false (by omega)
  have hr5 : decide (0 < r.length) = false := decide_eq_false (by omega)
  have hr6 : ((r.length : Int) == 0) = true := beq_iff_eq.mpr (by omega)
  have hr7 : decide (0 < (r.length : Int)) = false := decide_eq_false (by omega)
  have HE := Aside0.mk hok
  have HHI := Aside0.mk trivial
  clear h hg hC hcap hok hnil
  go_enter Try.func12, Try.ntmps12
  go_wp2_with ((with_reducible refine gate_dst (N := 3) rfl ?_); refine box_event ?hg (N := 3) ?hd (cs := [.slice Ar r.length cr].toArray) (t := 35) ?hr ?_; (case hd => rfl); (case hg => rfl); (case hr => first | (go_simp; done) | (go_simp; rfl)); intro gb hgb w2 hbox hb; have HX := Aside0.mk hbox; have HB2 := Aside0.mk hb; have HGB := Aside0.mk hgb; clear hgb hbox hb)
  have HXd := Aside0.mk (show w2.drew.heap[gb]? = some (.cells #[.slice Ar r.length cr] 35 (0, 0)) from HX.out)
  refine Calm.wp_region_phC [(0, fun w_ => w_.cell? ⟨gb, 0, none⟩ = some (.slice Ar r.length cr)), (4, fun w_ => w_.cell? ⟨gb, 0, none⟩ = some (.slice Ar r.length cr))] [([0], [1]), ([2, 3, 4, 5, 6, 7, 8, 9, 10, 11, 12, 13, 14, 15, 16, 17, 18], [])] (by kernel_rfl) (by kernel_rfl) ?_
  refine Calm.ph_next ?_ ?_
  · repeat (first | exact Calm.okI_nil | (refine Calm.okI_cons (Or.inl (by decide)) ?_) | (refine Calm.okI_cons (Or.inr (by exact (blk_cell HXd.out 0).trans rfl)) ?_))
  repeat (first
    | (refine Calm.g_value (v := ?_) (a' := ?_) rfl rfl (by rfl) ?_ ?_ ?_; rotate_left; (· rintro w' hS'; (try simp only [Calm.SC_cons, Calm.SC_nil, Nat.reduceEqDiff, forall_const, false_implies, and_true, true_and] at hS'); (try obtain ⟨hS1, hS2⟩ := hS'); go_simp; with_reducible rfl); rotate_left; (· simp only [Act.put, List.setIfInBounds_toArray, List.set_cons_zero, List.set_cons_succ, i64_w, i32_w]; rfl)))
  refine Calm.g_nil ?_
  refine Calm.c_call rfl rfl Try.func23 (by kernel_rfl) rfl #[.slice Ar r.length cr] (by rfl) rfl (by (try simp only [List.map_toArray, List.map_cons, List.map_nil]); rfl) ?_
  (with_reducible refine (acks_Check.calls _ Ar cr r (chkV r) _ (HC.out _ (below_drew1 HB2.out)) HCAP.out (chk_acks r)).mono ?_)
  rw [HE.out]; rintro e_ w3 ⟨rfl, hb⟩; have HB3 := Aside0.mk (below_step (below_drew1 HB2.out) hb); have HX3 := Aside0.mk (blk_below HXd.out hb); clear hb
  refine ⟨_, rfl, ?_, ?_⟩
  · repeat (first | exact Calm.okC_nil | (refine Calm.okC_cons (Or.inl (by decide +kernel)) ?_) | (refine Calm.okC_cons (Or.inr (by first | exact (blk_cell HX3.out 0).trans rfl | exact HTOP.out _ HB3.out | exact HHI.out _ HB3.out)) ?_))
  refine Calm.put_to (a' := ?_) ?_ ?_
  rotate_left
  · simp only [Act.put, List.setIfInBounds_toArray, List.set_cons_zero, List.set_cons_succ, i64_w, i32_w]; rfl
  refine Calm.h_nil ?_
  refine Calm.ph_next ?_ ?_
  · repeat (first | exact Calm.okI_nil | (refine Calm.okI_cons (Or.inl (by decide)) ?_) | (refine Calm.okI_cons (Or.inr (by first | exact (blk_cell HX3.out 0).trans rfl | exact HTOP.out _ HB3.out | exact HHI.out _ HB3.out)) ?_))
  repeat (first
    | (refine Calm.g_value (v := ?_) (a' := ?_) rfl rfl (by rfl) ?_ ?_ ?_; rotate_left; (· rintro w' hS'; (try simp only [Calm.SC_cons, Calm.SC_nil, Nat.reduceEqDiff, forall_const, false_implies, and_true, true_and] at hS'); (try obtain ⟨hS1, hS2⟩ := hS'); go_simp; with_reducible rfl); rotate_left; (· simp only [Act.put, List.setIfInBounds_toArray, List.set_cons_zero, List.set_cons_succ, i64_w, i32_w]; rfl))
    | (refine Calm.g_off (a' := ?_) rfl rfl (by rfl) ?_ ?_; rotate_left; (· simp only [Act.put, List.setIfInBounds_toArray, List.set_cons_zero, List.set_cons_succ, i64_w, i32_w]; rfl)))
  refine Calm.g_nil ?_
  refine Calm.h_nil ?_
  refine Calm.ph_end ?_
  simp only [Exit.inBlock, Exit.then]
  have hcr := (blk_cell HX3.out 0).trans (rfl : _ = some (Value.slice Ar r.length cr))
  go_wp2_with (fail)
  go_ret3
  exact ⟨_, _, _, rfl, HL.out.below HB3.out, Kd.R_nil _ _ _ _ _, Kd.R_nil _ _ _ _ _⟩
set_option maxHeartbeats 8000000 in
set_option maxRecDepth 100000 in
theorem acked_high (w0 W w1 : World) (g cr : Nat) (Ar : Option Addr) (r : List S34) (v v1 : Value) (s : LS) (h : LP w0 W w1 g v v1 s) (hg : w0.heap.size ≤ g) (hC : ∀ w, KeepBut w1 w g v1.ownBlock → Kd.C k34 w Ar r.length r) (hcap : r.length ≤ cr) (hok : chkV r = 0) (hsome : 0 < r.length) (hhigh : hiOf r > s.top) :
    Calls Try.prog 12 #[.pointer (some ⟨g, 0, none⟩), .slice Ar r.length cr] w1 fun e w' => Acks w0 W w1 w' g v s [] [] 2 e := by
  have HL := Aside0.mk h
  have HG := Aside0.mk hg
  have HCK := Aside0.mk hC
  have HC := Aside0.mk (show ∀ w, Below w1.heap.size w1 w → Kd.C k34 w Ar r.length r from fun w hb => hC w ⟨hb.size, fun k hk _ _ => hb.block k hk⟩)
  have HCAP := Aside0.mk hcap
  obtain ⟨-, ct, -, -, -, -, -⟩ := h.lg.cells
  obtain ⟨top, htop⟩ : ∃ top, s.top = top := ⟨_, rfl⟩
  rw [htop] at ct
  have HTOP := Aside0.mk (show ∀ w, Below w1.heap.size w1 w → w.cell? ⟨g, 1, none⟩ = some (.int .i64 top) from fun w hb => (hb.cell (blk_lt h.lg.blk)).trans ct)
  clear ct
  have hr1 := eq_true (show (0 : Int) < (r.length : Int) by omega)
  have hr2 := eq_true hsome
  have hr3 := eq_false (show ¬ r.length = 0 by omega)
  have hr4 : decide ((r.length : Int) > 0) = true := decide_eq_true (by omega)
  have hr5 : decide (0 < r.length) = true := decide_eq_true (by omega)
  have hr6 : ((r.length : Int) == 0) = false := beq_eq_false_iff_ne.mpr (by omega)
  have hr7 : decide (0 < (r.length : Int)) = true := decide_eq_true (by omega)
  obtain ⟨ad, hA, rows⟩ := crow34 (HC.out w1 (Below.refl _ _)) 0 (by omega) (by omega)
  subst hA
  rw [show ad.add ((0 : Int).toNat * 2) = ad from add_nil ad] at rows
  obtain ⟨hi, hhi⟩ : ∃ hi, hiOf r = hi := ⟨_, rfl⟩
  have HHI := Aside0.mk (show ∀ w, Below w1.heap.size w1 w → w.cell? ⟨ad.block, ad.off + 1, none⟩ = some (.int .i64 hi) from fun w hb => by rw [← hhi]; exact (rows w hb).2)
  clear rows
  rw [hhi, htop] at hhigh
  have hd1 : decide (hi > top) = true := decide_eq_true hhigh
  have hd2 : decide (top < hi) = true := decide_eq_true hhigh
  have HE := Aside0.mk hok
  clear h hg hC hcap hok hsome hhigh
  go_enter Try.func12, Try.ntmps12
  go_wp2_with ((with_reducible refine gate_dst (N := 3) rfl ?_); refine box_event ?hg (N := 3) ?hd (cs := [.slice (some ad) r.length cr].toArray) (t := 35) ?hr ?_; (case hd => rfl); (case hg => rfl); (case hr => first | (go_simp; done) | (go_simp; rfl)); intro gb hgb w2 hbox hb; have HX := Aside0.mk hbox; have HB2 := Aside0.mk hb; have HGB := Aside0.mk hgb; clear hgb hbox hb)
  have HXd := Aside0.mk (show w2.drew.heap[gb]? = some (.cells #[.slice (some ad) r.length cr] 35 (0, 0)) from HX.out)
  refine Calm.wp_region_phC [(0, fun w_ => w_.cell? ⟨gb, 0, none⟩ = some (.slice (some ad) r.length cr)), (4, fun w_ => w_.cell? ⟨gb, 0, none⟩ = some (.slice (some ad) r.length cr)), (8, fun w_ => w_.cell? ⟨gb, 0, none⟩ = some (.slice (some ad) r.length cr)), (11, fun w_ => w_.cell? ⟨ad.block, ad.off + 1, none⟩ = some (.int .i64 hi)), (15, fun w_ => w_.cell? ⟨g, 1, none⟩ = some (.int .i64 top))] [([0], [1]), ([2, 3, 4, 5, 6, 7, 8, 9, 10, 11, 12, 13, 14, 15, 16, 17, 18], [])] (by kernel_rfl) (by kernel_rfl) ?_
  refine Calm.ph_next ?_ ?_
  · repeat (first | exact Calm.okI_nil | (refine Calm.okI_cons (Or.inl (by decide)) ?_) | (refine Calm.okI_cons (Or.inr (by exact (blk_cell HXd.out 0).trans rfl)) ?_))
  repeat (first
    | (refine Calm.g_value (v := ?_) (a' := ?_) rfl rfl (by rfl) ?_ ?_ ?_; rotate_left; (· rintro w' hS'; (try simp only [Calm.SC_cons, Calm.SC_nil, Nat.reduceEqDiff, forall_const, false_implies, and_true, true_and] at hS'); (try obtain ⟨hS1, hS2⟩ := hS'); go_simp; with_reducible rfl); rotate_left; (· simp only [Act.put, List.setIfInBounds_toArray, List.set_cons_zero, List.set_cons_succ, i64_w, i32_w]; rfl)))
  refine Calm.g_nil ?_
  refine Calm.c_call rfl rfl Try.func23 (by kernel_rfl) rfl #[.slice (some ad) r.length cr] (by rfl) rfl (by (try simp only [List.map_toArray, List.map_cons, List.map_nil]); rfl) ?_
  (with_reducible refine (acks_Check.calls _ (some ad) cr r (chkV r) _ (HC.out _ (below_drew1 HB2.out)) HCAP.out (chk_acks r)).mono ?_)
  rw [HE.out]; rintro e_ w3 ⟨rfl, hb⟩; have HB3 := Aside0.mk (below_step (below_drew1 HB2.out) hb); have HX3 := Aside0.mk (blk_below HXd.out hb); clear hb
  refine ⟨_, rfl, ?_, ?_⟩
  · repeat (first | exact Calm.okC_nil | (refine Calm.okC_cons (Or.inl (by decide +kernel)) ?_) | (refine Calm.okC_cons (Or.inr (by first | exact (blk_cell HX3.out 0).trans rfl | exact HTOP.out _ HB3.out | exact HHI.out _ HB3.out)) ?_))
  refine Calm.put_to (a' := ?_) ?_ ?_
  rotate_left
  · simp only [Act.put, List.setIfInBounds_toArray, List.set_cons_zero, List.set_cons_succ, i64_w, i32_w]; rfl
  refine Calm.h_nil ?_
  refine Calm.ph_next ?_ ?_
  · repeat (first | exact Calm.okI_nil | (refine Calm.okI_cons (Or.inl (by decide)) ?_) | (refine Calm.okI_cons (Or.inr (by first | exact (blk_cell HX3.out 0).trans rfl | exact HTOP.out _ HB3.out | exact HHI.out _ HB3.out)) ?_))
  repeat (first
    | (refine Calm.g_value (v := ?_) (a' := ?_) rfl rfl (by rfl) ?_ ?_ ?_; rotate_left; (· rintro w' hS'; (try simp only [Calm.SC_cons, Calm.SC_nil, Nat.reduceEqDiff, forall_const, false_implies, and_true, true_and] at hS'); (try obtain ⟨hS1, hS2⟩ := hS'); go_simp; with_reducible rfl); rotate_left; (· simp only [Act.put, List.setIfInBounds_toArray, List.set_cons_zero, List.set_cons_succ, i64_w, i32_w]; rfl))
    | (refine Calm.g_off (a' := ?_) rfl rfl (by rfl) ?_ ?_; rotate_left; (· simp only [Act.put, List.setIfInBounds_toArray, List.set_cons_zero, List.set_cons_succ, i64_w, i32_w]; rfl)))
  refine Calm.g_nil ?_
  refine Calm.h_nil ?_
  refine Calm.ph_end ?_
  simp only [Exit.inBlock, Exit.then]
  go_wp2_with (fail)
  go_ret3
  exact ⟨_, _, _, rfl, HL.out.below HB3.out, Kd.R_nil _ _ _ _ _, Kd.R_nil _ _ _ _ _⟩
set_option maxHeartbeats 8000000 in
set_option maxRecDepth 100000 in
theorem acked_main (w0 W w1 : World) (g cr : Nat) (Ar : Option Addr) (r : List S34) (v v1 : Value) (s : LS) (h : LP w0 W w1 g v v1 s) (hg : w0.heap.size ≤ g) (hC : ∀ w, KeepBut w1 w g v1.ownBlock → Kd.C k34 w Ar r.length r) (hcap : r.length ≤ cr) (hI : Inv s) (hn : s.fl.length ≤ 100000) (hok : chkV r = 0) (hsome : 0 < r.length) (hhigh : hiOf r ≤ s.top) :
    Calls Try.prog 12 #[.pointer (some ⟨g, 0, none⟩), .slice Ar r.length cr] w1 fun e w' => Acks w0 W w1 w' g v (ackS3 s r) (nums (ackTold s r)) (nums (ackLost s r)) 0 e := by
  have HL := Aside0.mk h
  have HG := Aside0.mk hg
  have HCK := Aside0.mk hC
  have HC := Aside0.mk (show ∀ w, Below w1.heap.size w1 w → Kd.C k34 w Ar r.length r from fun w hb => hC w ⟨hb.size, fun k hk _ _ => hb.block k hk⟩)
  have HCAP := Aside0.mk hcap
  obtain ⟨-, ct, -, -, -, -, -⟩ := h.lg.cells
  obtain ⟨top, htop⟩ : ∃ top, s.top = top := ⟨_, rfl⟩
  rw [htop] at ct
  have HTOP := Aside0.mk (show ∀ w, Below w1.heap.size w1 w → w.cell? ⟨g, 1, none⟩ = some (.int .i64 top) from fun w hb => (hb.cell (blk_lt h.lg.blk)).trans ct)
  clear ct
  have hr1 := eq_true (show (0 : Int) < (r.length : Int) by omega)
  have hr2 := eq_true hsome
  have hr3 := eq_false (show ¬ r.length = 0 by omega)
  have hr4 : decide ((r.length : Int) > 0) = true := decide_eq_true (by omega)
  have hr5 : decide (0 < r.length) = true := decide_eq_true (by omega)
  have hr6 : ((r.length : Int) == 0) = false := beq_eq_false_iff_ne.mpr (by omega)
  have hr7 : decide (0 < (r.length : Int)) = true := decide_eq_true (by omega)
  obtain ⟨ad, hA, rows⟩ := crow34 (HC.out w1 (Below.refl _ _)) 0 (by omega) (by omega)
  subst hA
  rw [show ad.add ((0 : Int).toNat * 2) = ad from add_nil ad] at rows
  obtain ⟨hi, hhi⟩ : ∃ hi, hiOf r = hi := ⟨_, rfl⟩
  have HHI := Aside0.mk (show ∀ w, Below w1.heap.size w1 w → w.cell? ⟨ad.block, ad.off + 1, none⟩ = some (.int .i64 hi) from fun w hb => by rw [← hhi]; exact (rows w hb).2)
  clear rows
  rw [hhi, htop] at hhigh
  have hd1 : decide (hi > top) = false := decide_eq_false (by omega)
  have hd2 : decide (top < hi) = false := decide_eq_false (by omega)
  have HE := Aside0.mk hok
  have HI := Aside0.mk hI
  have HN := Aside0.mk hn
  have HSM := Aside0.mk hsome
  have HHE := Aside0.mk hhi
  clear h hg hC hcap hok hsome hhigh hI hn hhi
  go_enter Try.func12, Try.ntmps12
  go_wp2_with ((with_reducible refine gate_dst (N := 3) rfl ?_); refine box_event ?hg (N := 3) ?hd (cs := [.slice (some ad) r.length cr].toArray) (t := 35) ?hr ?_; (case hd => rfl); (case hg => rfl); (case hr => first | (go_simp; done) | (go_simp; rfl)); intro gb hgb w2 hbox hb; have HX := Aside0.mk hbox; have HB2 := Aside0.mk hb; have HGB := Aside0.mk hgb; clear hgb hbox hb)
  have HXd := Aside0.mk (show w2.drew.heap[gb]? = some (.cells #[.slice (some ad) r.length cr] 35 (0, 0)) from HX.out)
  refine Calm.wp_region_phC [(0, fun w_ => w_.cell? ⟨gb, 0, none⟩ = some (.slice (some ad) r.length cr)), (4, fun w_ => w_.cell? ⟨gb, 0, none⟩ = some (.slice (some ad) r.length cr)), (8, fun w_ => w_.cell? ⟨gb, 0, none⟩ = some (.slice (some ad) r.length cr)), (11, fun w_ => w_.cell? ⟨ad.block, ad.off + 1, none⟩ = some (.int .i64 hi)), (15, fun w_ => w_.cell? ⟨g, 1, none⟩ = some (.int .i64 top))] [([0], [1]), ([2, 3, 4, 5, 6, 7, 8, 9, 10, 11, 12, 13, 14, 15, 16, 17, 18], [])] (by kernel_rfl) (by kernel_rfl) ?_
  refine Calm.ph_next ?_ ?_
  · repeat (first | exact Calm.okI_nil | (refine Calm.okI_cons (Or.inl (by decide)) ?_) | (refine Calm.okI_cons (Or.inr (by exact (blk_cell HXd.out 0).trans rfl)) ?_))
  repeat (first
    | (refine Calm.g_value (v := ?_) (a' := ?_) rfl rfl (by rfl) ?_ ?_ ?_; rotate_left; (· rintro w' hS'; (try simp only [Calm.SC_cons, Calm.SC_nil, Nat.reduceEqDiff, forall_const, false_implies, and_true, true_and] at hS'); (try obtain ⟨hS1, hS2⟩ := hS'); go_simp; with_reducible rfl); rotate_left; (· simp only [Act.put, List.setIfInBounds_toArray, List.set_cons_zero, List.set_cons_succ, i64_w, i32_w]; rfl)))
  refine Calm.g_nil ?_
  refine Calm.c_call rfl rfl Try.func23 (by kernel_rfl) rfl #[.slice (some ad) r.length cr] (by rfl) rfl (by (try simp only [List.map_toArray, List.map_cons, List.map_nil]); rfl) ?_
  (with_reducible refine (acks_Check.calls _ (some ad) cr r (chkV r) _ (HC.out _ (below_drew1 HB2.out)) HCAP.out (chk_acks r)).mono ?_)
  rw [HE.out]; rintro e_ w3 ⟨rfl, hb⟩; have HB3 := Aside0.mk (below_step (below_drew1 HB2.out) hb); have HX3 := Aside0.mk (blk_below HXd.out hb); clear hb
  refine ⟨_, rfl, ?_, ?_⟩
  · repeat (first | exact Calm.okC_nil | (refine Calm.okC_cons (Or.inl (by decide +kernel)) ?_) | (refine Calm.okC_cons (Or.inr (by first | exact (blk_cell HX3.out 0).trans rfl | exact HTOP.out _ HB3.out | exact HHI.out _ HB3.out)) ?_))
  refine Calm.put_to (a' := ?_) ?_ ?_
  rotate_left
  · simp only [Act.put, List.setIfInBounds_toArray, List.set_cons_zero, List.set_cons_succ, i64_w, i32_w]; rfl
  refine Calm.h_nil ?_
  refine Calm.ph_next ?_ ?_
  · repeat (first | exact Calm.okI_nil | (refine Calm.okI_cons (Or.inl (by decide)) ?_) | (refine Calm.okI_cons (Or.inr (by first | exact (blk_cell HX3.out 0).trans rfl | exact HTOP.out _ HB3.out | exact HHI.out _ HB3.out)) ?_))
  repeat (first
    | (refine Calm.g_value (v := ?_) (a' := ?_) rfl rfl (by rfl) ?_ ?_ ?_; rotate_left; (· rintro w' hS'; (try simp only [Calm.SC_cons, Calm.SC_nil, Nat.reduceEqDiff, forall_const, false_implies, and_true, true_and] at hS'); (try obtain ⟨hS1, hS2⟩ := hS'); go_simp; with_reducible rfl); rotate_left; (· simp only [Act.put, List.setIfInBounds_toArray, List.set_cons_zero, List.set_cons_succ, i64_w, i32_w]; rfl))
    | (refine Calm.g_off (a' := ?_) rfl rfl (by rfl) ?_ ?_; rotate_left; (· simp only [Act.put, List.setIfInBounds_toArray, List.set_cons_zero, List.set_cons_succ, i64_w, i32_w]; rfl)))
  refine Calm.g_nil ?_
  refine Calm.h_nil ?_
  refine Calm.ph_end ?_
  simp only [Exit.inBlock, Exit.then]
  have hcr := (blk_cell HX3.out 0).trans (rfl : _ = some (Value.slice (some ad) r.length cr))
  have hL3 := HL.out.below HB3.out
  have hrd : RdR v1.ownBlock w3 gb cr (some ad) r := ⟨HX3.out, fun he => by have h2 := ((Kd.R_bound HL.out.lg.row).1 gb he.symm).2.2.1; have := HGB.out; omega, fun w ha => HCK.out w ⟨Nat.le_trans HB3.out.size ha.1, fun k hk _ hr => (ha.2 k (Nat.lt_of_lt_of_le hk HB3.out.size) hr).trans (HB3.out.block k hk)⟩⟩
  have HL3 := Aside0.mk hL3
  have HRD := Aside0.mk hrd
  clear hL3 hrd
  obtain ⟨tl, htl⟩ : ∃ tl, ackTold s r = tl := ⟨_, rfl⟩
  obtain ⟨s1, hs1⟩ : ∃ s1, ackS0 s r = s1 := ⟨_, rfl⟩
  have htake := take_c w0 w3 g _ _ _ s v1 (acked1_p HRD.out) HL3.out.lg HL3.out.bel HG.out HN.out
  try dsimp only at htake
  rw [show s.fl.filter (fun x => anyR x.f0 r) = tl from htl, show ({ s with fl := s.fl.filter (fun x => !anyR x.f0 r) } : LS) = s1 from hs1] at htake
  have HTK := Aside0.mk htake
  have HI1 := Aside0.mk (show Inv s1 by rw [← hs1]; exact inv_keep HI.out _)
  have HF1 := Aside0.mk (show s1.fl.length ≤ 100000 by rw [← hs1]; exact Nat.le_trans (List.length_filter_le _ _) HN.out)
  have HTM := Aside0.mk (show ∀ x ∈ tl, 1 ≤ x.f2 ∧ x.f2 ≤ 1200 by rw [← htl]; exact fun x hx => (HI.out.fl x (List.mem_filter.1 hx).1).2.2)
  have HTN := Aside0.mk (show tl.length ≤ 100000 by rw [← htl]; exact Nat.le_trans (List.length_filter_le _ _) HN.out)
  have EQ1 := Aside0.mk hs1
  have EQ2 := Aside0.mk htl
  clear htake hs1 htl
  go_wp2_with (go_at_call 24; (with_reducible refine (HTK.out).mono ?_); rintro e_ w4 ⟨vt, v2, rfl, hlp, htk⟩; obtain ⟨At, ctt, rfl⟩ := Kd.R_slice htk.row; have HL4 := Aside0.mk hlp; have HT4 := Aside0.mk htk; clear hlp htk)
  go_loopw [38] (fun v38 wr => ∃ i : Int, v38 = .int .i64 i ∧ Aside0 (0 ≤ i ∧ i ≤ tl.length) ∧ Aside0 (LP w0 w4 wr g v2 v2 (toldS s1 (tl.take i.toNat)))) (fun v38 _ => ((tl.length : Int) - intOf v38).toNat)
  case atStart => exact ⟨0, rfl, ⟨by omega⟩, ⟨LP.start HL4.out.lg HL4.out.bel⟩⟩
  case round =>
    obtain ⟨i, rfl, HIX, HD⟩ := hrel
    have hi0 := HIX.out.1
    by_cases d1 : i < (tl.length : Int)
    · have M1 : decide (i < (tl.length : Int)) = true := decide_eq_true d1
      obtain ⟨ad2, hA2, rows2⟩ := crow58 (Kd.R_reads' (HT4.out.later HL3.out.lg HD.out.keep)).2.2 i hi0 d1
      subst hA2
      obtain ⟨x0, x1, x2⟩ := rows2 wr (Below.refl _ _)
      have p0 := eq_true hi0
      have p1 := eq_true d1
      have hw1 : wrap64 (i + 1) = i + 1 := by have := HTN.out; unfold wrap64; omega
      have hw2 : IntKind.i64.wrap (i + 1) = i + 1 := (i64_w _).trans hw1
      have hxm : tl.getD i.toNat z58 ∈ tl := by rw [List.getD_eq_getElem?_getD, List.getElem?_eq_getElem (by omega)]; exact List.getElem_mem _
      have hxr := HTM.out _ hxm
      have hst : toldS s1 (tl.take (i + 1).toNat) = { toldS s1 (tl.take i.toNat) with win := growW (toldS s1 (tl.take i.toNat)).win (toldS s1 (tl.take i.toNat)).thr (tl.getD i.toNat z58).f2, back := 0 } := by rw [show (i + 1).toNat = i.toNat + 1 by omega, take58 tl i.toNat (by omega), told_app]; rfl
      have him : Inv (toldS s1 (tl.take i.toNat)) := inv_told _ _ HI1.out (fun x hx => HTM.out x (List.mem_of_mem_take hx))
      have HST := Aside0.mk hst
      generalize tl.getD i.toNat z58 = x at x0 x1 x2 hxr HST
      generalize toldS s1 (tl.take i.toNat) = m at him HST HD
      obtain ⟨f0, f1, f2⟩ := x
      dsimp only at x0 x1 x2 hxr HST
      have HIM := Aside0.mk him
      have HXR := Aside0.mk hxr
      have HJX := Aside0.mk (And.intro hi0 d1)
      have hgrow := fun w hb => grow_c g m v2 v2 f2 w0 w4 w (HD.out.below hb) HG.out him.w0 him.w1 hxr.1 hxr.2
      have HGR := Aside0.mk hgrow
      have PB := Aside0.mk (blk_new wr (.cells #[.int .i64 f0, .int .i64 f1, .int .i64 f2] 58))
      clear hst him hxr hxm d1 hi0 rows2 hgrow
      go_wp2_with (go_at_call 28; (with_reducible refine (HGR.out _ (below_alloc (Below.refl _ _) _)).mono ?_); rintro e_ w6 ⟨rfl, h6⟩; obtain ⟨-, -, -, -, -, k5, fr6⟩ := h6.lg.cells; have f5 := fr6 5; have H6 := Aside0.mk h6; clear h6 fr6)
      go_roundw
      case rel =>
        have h7 := H6.out.set HG.out 5 (.int .i64 0) { m with win := growW m.win m.thr f2, back := 0 } rfl rfl
        refine ⟨i + 1, rfl, ⟨by have := HJX.out; omega, by have := HJX.out; omega⟩, ⟨?_⟩⟩
        rw [HST.out]
        exact h7
      case measure => have := HJX.out; simp [intOf]; omega
    · have M1 : decide (i < (tl.length : Int)) = false := decide_eq_false d1
      have hend : tl.take i.toNat = tl := List.take_of_length_le (by have := HIX.out; omega)
      have hd := HD.out
      rw [hend] at hd
      have him : Inv (toldS s1 tl) := inv_told _ _ HI1.out HTM.out
      have hfl : (toldS s1 tl).fl.length ≤ 100000 := by rw [(told_fl tl s1).1]; exact HF1.out
      obtain ⟨s2, hs2⟩ : ∃ s2, toldS s1 tl = s2 := ⟨_, rfl⟩
      rw [hs2] at hd him hfl
      have hgb4 : w4.heap[gb]? = some (.cells #[.slice (some ad) r.length cr] 35 (0, 0)) := (HT4.out.keep.2 gb (blk_lt HX3.out) (fun he => by have := blk_lt HL.out.lg.blk; have := HGB.out; omega) HRD.out.ne).trans HX3.out
      have hown := HT4.out.own
      have hgbr : wr.heap[gb]? = some (.cells #[.slice (some ad) r.length cr] 35 (0, 0)) := (hd.keep.2 gb (blk_lt hgb4) (fun he => by have := blk_lt HL.out.lg.blk; have := HGB.out; omega) (by rw [hown]; exact HRD.out.ne)).trans hgb4
      have hrd2 : RdR v2.ownBlock wr gb cr (some ad) r := ⟨hgbr, by rw [hown]; exact HRD.out.ne, fun w ha => HCK.out w ⟨Nat.le_trans HB3.out.size (Nat.le_trans HT4.out.keep.1 (Nat.le_trans hd.keep.1 ha.1)), fun k hk hkg hr => by
        have k3 := Nat.lt_of_lt_of_le hk HB3.out.size
        have k4 := Nat.lt_of_lt_of_le k3 HT4.out.keep.1
        have k5 := Nat.lt_of_lt_of_le k4 hd.keep.1
        rw [ha.2 k k5 (by rw [hown]; exact hr), hd.keep.2 k k4 hkg (by rw [hown]; exact hr), HT4.out.keep.2 k k3 hkg hr]
        exact HB3.out.block k hk⟩⟩
      have htake2 := take_c w0 wr g _ _ _ s2 v2 (acked2_p hrd2 HSM.out) hd.lg hd.bel HG.out hfl
      obtain ⟨ll, hll⟩ : ∃ ll, s2.fl.filter (farP (r.getD 0 z34).f1) = ll := ⟨_, rfl⟩
      obtain ⟨s3, hs3⟩ : ∃ s3, ({ s2 with fl := s2.fl.filter (fun x => !farP (r.getD 0 z34).f1 x) } : LS) = s3 := ⟨_, rfl⟩
      rw [hll, hs3] at htake2
      have HT5 := Aside0.mk htake2
      have him3 : Inv s3 := by rw [← hs3]; exact inv_keep him _
      have HI3 := Aside0.mk him3
      have HLN := Aside0.mk (show ll.length ≤ 100000 by rw [← hll]; exact Nat.le_trans (List.length_filter_le _ _) hfl)
      have EQ3 := Aside0.mk (show ackS3 s r = loseS s3 ll ∧ ackLost s r = ll by unfold ackS3 ackS2 ackLost ackS1; rw [EQ1.out, EQ2.out, hs2]; exact ⟨by unfold hiOf; rw [hs3, hll], hll⟩)
      have HD9 := Aside0.mk hd
      have hgbc := (blk_cell hgbr 0).trans (rfl : _ = some (Value.slice (some ad) r.length cr))
      clear hd him hfl hs2 hgb4 hown hgbr hrd2 htake2 hll hs3 him3 d1 hi0 hend
      go_wp2_with (first | (go_at_call 24; (with_reducible refine (HT5.out).mono ?_); rintro e_ w5 ⟨vl, v3, rfl, hlp, htk⟩; obtain ⟨Al, cl, rfl⟩ := Kd.R_slice htk.row; have HL5 := Aside0.mk hlp; have HK5 := Aside0.mk htk; clear hlp htk) | (go_at_call 30; (with_reducible refine (lose_c g s3 v3 v3 Al cl ll w0 _ _ (LP.start HL5.out.lg HL5.out.bel) HG.out (by have := HI3.out.w0; omega) HI3.out.w1 (Kd.R_reads' HK5.out.row).2.2 HLN.out).mono ?_); rintro e_ w6 ⟨rfl, h6⟩; have H6 := Aside0.mk h6; clear h6) | (go_at_call 31; (with_reducible refine (ledger_numbers.calls (tl.length + 1) At ctt tl (nums tl) w6 (Kd.R_reads' (HT4.out.later HL3.out.lg ((HD9.out.trans HL5.out).trans H6.out).keep)).2.2 (Kd.R_reads' HT4.out.row).2.1 (numbers_f tl HTN.out)).mono ?_); rintro e_ w7 ⟨va, rfl, hra, hb7⟩; have HRA := Aside0.mk hra; have HB7 := Aside0.mk hb7; clear hra hb7) | (go_at_call 31; (with_reducible refine (ledger_numbers.calls (ll.length + 1) Al cl ll (nums ll) w7 (Kd.C_below (Kd.R_reads' (HK5.out.later HD9.out.lg H6.out.keep)).2.2 HB7.out) (Kd.R_reads' HK5.out.row).2.1 (numbers_f ll HLN.out)).mono ?_); rintro e_ w8 ⟨vb, rfl, hrb, hb8⟩; have HRB := Aside0.mk hrb; have HB8 := Aside0.mk hb8; clear hrb hb8))
      go_ret3
      have hlp := (((HL3.out.trans HL4.out).trans HD9.out).trans HL5.out).trans H6.out
      have hlp2 := (hlp.below HB7.out).below HB8.out
      have hsz : w1.heap.size ≤ w6.heap.size := Nat.le_trans HB3.out.size (Nat.le_trans HL4.out.keep.1 (Nat.le_trans HD9.out.keep.1 (Nat.le_trans HL5.out.keep.1 H6.out.keep.1)))
      rw [EQ3.out.1, EQ3.out.2, EQ2.out]
      exact ⟨va, vb, v3, rfl, hlp2, Kd.R_lower (Kd.R_below HRA.out HB8.out) hsz, Kd.R_lower HRB.out (Nat.le_trans hsz HB7.out.size)⟩
end Go.Proofs.Ytgdgegkokghedaa.Led
