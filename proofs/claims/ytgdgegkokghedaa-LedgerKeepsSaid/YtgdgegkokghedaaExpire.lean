/- ledger.Ledger.Expire. -/
import Derived.Test.YtgdgegkokghedaaAcked
namespace Go.Proofs.Ytgdgegkokghedaa.Led
open Go.RowKit Go.Deep Go.Proofs.YtgdgegkokghedaaW.PrintWords Go.Proofs.YtgdgegkokghedaaW.PrintLast Go.Proofs.YtgdgegkokghedaaW.PrintMore Go.Proofs.Ytgdgegkokghedaa.PLedgerKeeps Go.Proofs.Ytgdgegkokghedaa
set_option linter.unusedVariables false
set_option linter.unusedSimpArgs false
def dueV (now : Int) (s : LS) : Bool := s.fl.any (dueP now (waitV s.back))
def expS (s : LS) : LS := { loseS { s with fl := [] } s.fl with back := (if 6 < s.back + 1 then 6 else s.back + 1) }
/-- What Expire leaves and tells. -/
structure Exps (w0 W w1 w' : World) (g : Nat) (v : Value) (s' : LS) (ta : List Int) (e : Ending) : Prop where
  out : ∃ va v2, e = .returned va ∧ LP w0 W w' g v v2 s' ∧ Kd.R (Kd.int .i64) 2 w' w1.heap.size (fun _ => True) va ta
set_option maxHeartbeats 8000000 in
set_option maxRecDepth 100000 in
theorem expire_no (w0 W w1 : World) (g : Nat) (now : Int) (v v1 : Value) (s : LS) (h : LP w0 W w1 g v v1 s) (hI : Inv s) (hno : dueV now s = false) :
    Calls Try.prog 13 #[.pointer (some ⟨g, 0, none⟩), .int .i64 now] w1 fun e w' => Exps w0 W w1 w' g v s [] e := by
  obtain ⟨A, c, rfl⟩ := Kd.R_slice h.lg.row
  have HL := Aside0.mk h
  have HI := Aside0.mk hI
  have HNO := Aside0.mk hno
  clear h hI hno
  go_enter Try.func13, Try.ntmps13
  go_wp2_with (first | ((with_reducible refine gate_dst (N := 2) rfl ?_); refine box_event ?hg (N := 2) ?hd (cs := [.pointer (some ⟨g, 0, none⟩)].toArray) (t := 24) ?hr ?_; (case hd => rfl); (case hg => rfl); (case hr => first | (go_simp; done) | (go_simp; rfl)); intro b2 hgb w2 hbox hb; have HX2 := Aside0.mk hbox; have HB2 := Aside0.mk hb; clear hgb hbox hb) | ((with_reducible refine gate_dst (N := 3) rfl ?_); refine box_event ?hg (N := 3) ?hd (cs := [.int .i64 now].toArray) (t := 2) ?hr ?_; (case hd => rfl); (case hg => rfl); (case hr => first | (go_simp; done) | (go_simp; rfl)); intro b3 hgb w3 hbox hb; have hx2 := blk_below HX2.out hb; have y2 := (blk_cell hx2 0).trans (rfl : _ = some (Value.pointer (some ⟨g, 0, none⟩))); have hl3 := HL.out.below (below_step HB2.out hb); obtain ⟨k0, -, -, -, -, -, -⟩ := hl3.lg.cells; have HL3 := Aside0.mk hl3; have HX22 := Aside0.mk hx2; have HX3 := Aside0.mk hbox; have HB3 := Aside0.mk (below_step HB2.out hb); clear hgb hbox hb hx2 hl3) | (go_at_call 32; (with_reducible refine (conP_c w3 _ s.fl.length c A _ _ s.fl none (due_p HL3.out.lg.blk HX3.out HX22.out HI.out.b0 HI.out.b1) (Kd.R_reads' HL3.out.lg.row).2.2 rfl).mono ?_); rw [show s.fl.any (dueP now (waitV s.back)) = false from HNO.out]; rintro e_ w4 ⟨rfl, hb4⟩; have HB4 := Aside0.mk hb4; clear hb4))
  go_ret
  exact ⟨_, _, rfl, HL3.out.below HB4.out, Kd.R_nil _ _ _ _ _⟩
set_option maxHeartbeats 8000000 in
set_option maxRecDepth 100000 in
theorem expire_yes (w0 W w1 : World) (g : Nat) (now : Int) (v v1 : Value) (s : LS) (h : LP w0 W w1 g v v1 s) (hg : w0.heap.size ≤ g) (hI : Inv s) (hn : s.fl.length ≤ 100000) (hyes : dueV now s = true) :
    Calls Try.prog 13 #[.pointer (some ⟨g, 0, none⟩), .int .i64 now] w1 fun e w' => Exps w0 W w1 w' g v (expS s) (nums s.fl) e := by
  obtain ⟨A, c, rfl⟩ := Kd.R_slice h.lg.row
  have HL := Aside0.mk h
  have HG := Aside0.mk hg
  have HI := Aside0.mk hI
  have HN := Aside0.mk hn
  have HYES := Aside0.mk hyes
  have HTK := Aside0.mk (show ∀ w, Below w1.heap.size w1 w → Calls Try.prog 24 #[.pointer (some ⟨g, 0, none⟩), .func (.func 34) #[] #[]] w fun e w' => ∃ vt v2, e = .returned vt ∧ LP w0 w w' g (.slice A s.fl.length c) v2 { s with fl := [] } ∧ Took w0 w w' g (.slice A s.fl.length c) v2 s.fl vt from fun w hb => by
    have hl := h.below hb
    have ht := take_c w0 w g _ _ _ s _ (expire2_p _ w) hl.lg hl.bel hg hn
    rw [show s.fl.filter (fun _ => true) = s.fl from List.filter_eq_self.2 (fun _ _ => rfl), show s.fl.filter (fun _ => !true) = [] from List.filter_eq_nil_iff.2 (fun _ _ => by simp)] at ht
    exact ht)
  clear h hg hI hn hyes
  have hsi : Inv { s with fl := [] } := ⟨HI.out.t0, HI.out.t1, HI.out.w0, HI.out.w1, HI.out.b0, HI.out.b1, fun x (hx : x ∈ ([] : List S58)) => by simp at hx, List.Pairwise.nil⟩
  have HSI := Aside0.mk hsi
  obtain ⟨s2, hs2⟩ : ∃ s2, loseS { s with fl := [] } s.fl = s2 := ⟨_, rfl⟩
  have hbk : s2.back = s.back := by rw [← hs2]; exact (lose_fl _ _).2.2
  have HS2 := Aside0.mk hs2
  have HBK := Aside0.mk hbk
  obtain ⟨bk, hb_⟩ : ∃ bk, s.back = bk := ⟨_, rfl⟩
  have hbr : 0 ≤ bk ∧ bk ≤ 6 := by have := HI.out.b0; have := HI.out.b1; omega
  have hw1 : wrap64 (bk + 1) = bk + 1 := by unfold wrap64; omega
  have hw2 : IntKind.i64.wrap (bk + 1) = bk + 1 := (i64_w _).trans hw1
  obtain ⟨nb, hnb⟩ : ∃ nb, (if 6 < bk + 1 then 6 else bk + 1) = nb := ⟨_, rfl⟩
  have HEX := Aside0.mk (show expS s = { s2 with back := nb } by unfold expS; rw [hs2, hb_, hnb])
  clear hsi hs2 hbk hbr
  go_enter Try.func13, Try.ntmps13
  go_wp2_with (first | ((with_reducible refine gate_dst (N := 2) rfl ?_); refine box_event ?hg (N := 2) ?hd (cs := [.pointer (some ⟨g, 0, none⟩)].toArray) (t := 24) ?hr ?_; (case hd => rfl); (case hg => rfl); (case hr => first | (go_simp; done) | (go_simp; rfl)); intro b2 hgb w2 hbox hb; have HX2 := Aside0.mk hbox; have HB2 := Aside0.mk hb; have HG2 := Aside0.mk hgb; clear hgb hbox hb) | ((with_reducible refine gate_dst (N := 3) rfl ?_); refine box_event ?hg (N := 3) ?hd (cs := [.int .i64 now].toArray) (t := 2) ?hr ?_; (case hd => rfl); (case hg => rfl); (case hr => first | (go_simp; done) | (go_simp; rfl)); intro b3 hgb w3 hbox hb; have hx2 := blk_below HX2.out hb; have y2 := (blk_cell hx2 0).trans (rfl : _ = some (Value.pointer (some ⟨g, 0, none⟩))); have hl3 := HL.out.below (below_step HB2.out hb); obtain ⟨k0, -, -, -, -, -, -⟩ := hl3.lg.cells; have HL3 := Aside0.mk hl3; have HX22 := Aside0.mk hx2; have HX3 := Aside0.mk hbox; have HB3 := Aside0.mk (below_step HB2.out hb); clear hgb hbox hb hx2 hl3) | (go_at_call 32; (with_reducible refine (conP_c w3 _ s.fl.length c A _ _ s.fl none (due_p HL3.out.lg.blk HX3.out HX22.out HI.out.b0 HI.out.b1) (Kd.R_reads' HL3.out.lg.row).2.2 rfl).mono ?_); rw [show s.fl.any (dueP now (waitV s.back)) = true from HYES.out]; rintro e_ w4 ⟨rfl, hb4⟩; have HB4 := Aside0.mk (below_step HB3.out hb4); have hx4 := blk_below HX22.out hb4; have y4 := (blk_cell hx4 0).trans (rfl : _ = some (Value.pointer (some ⟨g, 0, none⟩))); have HX4 := Aside0.mk hx4; have HL4 := Aside0.mk (HL3.out.below hb4); clear hb4 hx4) | (go_at_call 24; (with_reducible refine (HTK.out _ HB4.out).mono ?_); rintro e_ w5 ⟨vl, v3, rfl, hlp, htk⟩; obtain ⟨Al, cl, rfl⟩ := Kd.R_slice htk.row; have hne : some b2 ≠ (Value.slice A s.fl.length c).ownBlock := (fun he => by have h2 := ((Kd.R_bound HL.out.lg.row).1 b2 he.symm).2.2.1; have := HG2.out; omega); have hng : b2 ≠ g := (by have := blk_lt HL.out.lg.blk; have := HG2.out; omega); have hx5 := (hlp.keep.2 b2 (blk_lt HX4.out) hng hne).trans HX4.out; have y5 := (blk_cell hx5 0).trans (rfl : _ = some (Value.pointer (some ⟨g, 0, none⟩))); have HX5 := Aside0.mk hx5; have HNE := Aside0.mk (And.intro hng (show some b2 ≠ v3.ownBlock by rw [htk.own]; exact hne)); have HL5 := Aside0.mk hlp; have HK5 := Aside0.mk htk; clear hlp htk hne hng hx5) | (go_at_call 30; (with_reducible refine (lose_c g { s with fl := [] } v3 v3 Al cl s.fl w0 _ _ (LP.start HL5.out.lg HL5.out.bel) HG.out (by have := HSI.out.w0; exact Int.le_trans (by decide) this) HSI.out.w1 (Kd.R_reads' HK5.out.row).2.2 HN.out).mono ?_); rw [HS2.out]; rintro e_ w6 ⟨rfl, h6⟩; have hx6 := (h6.keep.2 b2 (blk_lt HX5.out) HNE.out.1 HNE.out.2).trans HX5.out; have y6 := (blk_cell hx6 0).trans (rfl : _ = some (Value.pointer (some ⟨g, 0, none⟩))); obtain ⟨-, -, -, -, -, k5, fr6⟩ := h6.lg.cells; rw [HBK.out, hb_] at k5; have f5 := fr6 5; have H6 := Aside0.mk h6; clear h6 hx6 fr6))
  go_region
  simp only [Exit.then]
  have H7 := Aside0.mk (H6.out.set HG.out 5 (.int .i64 nb) { s2 with back := nb } rfl rfl).drew
  have hn7 := ledger_numbers.calls (s.fl.length + 1) Al cl s.fl (nums s.fl) _ (Kd.R_reads' (HK5.out.later HL4.out.lg H7.out.keep)).2.2 (Kd.R_reads' HK5.out.row).2.1 (numbers_f s.fl HN.out)
  have HN7 := Aside0.mk hn7
  clear hn7
  go_wp2_with (go_at_call 31; (with_reducible refine (HN7.out).mono ?_); rintro e_ w8 ⟨va, rfl, hra, hb8⟩; have HRA := Aside0.mk hra; have HB8 := Aside0.mk hb8; clear hra hb8)
  go_ret
  have hlp := ((HL4.out.trans HL5.out).trans H7.out).below HB8.out
  have hsz := Nat.le_trans HB4.out.size (Nat.le_trans HL5.out.keep.1 H7.out.keep.1)
  rw [HEX.out]
  exact ⟨va, v3, rfl, hlp, Kd.R_lower HRA.out hsz⟩
end Go.Proofs.Ytgdgegkokghedaa.Led
