/- The function value of ledger.Ledger.Expire. -/
import Derived.Test.YtgdgegkokghedaaPreds2
namespace Go.Proofs.Ytgdgegkokghedaa.Led
open Go.RowKit Go.Deep Go.Proofs.YtgdgegkokghedaaW.PrintWords Go.Proofs.YtgdgegkokghedaaW.PrintLast Go.Proofs.YtgdgegkokghedaaW.PrintMore Go.Proofs.Ytgdgegkokghedaa.PLedgerKeeps Go.Proofs.Ytgdgegkokghedaa
set_option linter.unusedVariables false
set_option linter.unusedSimpArgs false
def dueP (now wt : Int) (x : S58) : Bool := decide (now > x.f1) && decide (IntKind.u64.wrap wt ≤ IntKind.u64.wrap (IntKind.u64.wrap now - IntKind.u64.wrap x.f1))
set_option maxHeartbeats 8000000 in
set_option maxRecDepth 100000 in
theorem due_p {W : World} {g bN bL : Nat} {s : LS} {v : Value} {now : Int} (hg : W.heap[g]? = some (.cells (lcells v s) 56 (0, 0))) (hN : W.heap[bN]? = some (.cells #[.int .i64 now] 2 (0, 0))) (hL : W.heap[bL]? = some (.cells #[.pointer (some ⟨g, 0, none⟩)] 24 (0, 0))) (h0 : 0 ≤ s.back) (h6 : s.back ≤ 6) : PredC 33 #[.pointer (some ⟨bN, 0, none⟩), .pointer (some ⟨bL, 0, none⟩)] (dueP now (waitV s.back)) none W := by
  refine ⟨fun args w => by go_simp, fun x w ha => ?_⟩
  have kb : ∀ k, k < W.heap.size → w.heap[k]? = W.heap[k]? := fun k hk => ha.2 k hk (by simp)
  have hg' := (kb g (blk_lt hg)).trans hg
  have hN' := (kb bN (blk_lt hN)).trans hN
  have hL' := (kb bL (blk_lt hL)).trans hL
  have HGB := Aside0.mk hg'
  have cN := (blk_cell hN' 0).trans (rfl : _ = some (Value.int .i64 now))
  have cL := (blk_cell hL' 0).trans (rfl : _ = some (Value.pointer (some ⟨g, 0, none⟩)))
  have HNB := Aside0.mk (blk_lt hN')
  have HLB := Aside0.mk (blk_lt hL')
  have HBK := Aside0.mk (And.intro h0 h6)
  clear ha kb hg hN hL hg' hN' hL' h0 h6
  unfold pk dueP
  obtain ⟨n, a, z⟩ := x
  dsimp only
  by_cases d1 : now > a
  · have E1 : decide (now > a) = true := decide_eq_true d1
    have E2 : decide (a < now) = true := decide_eq_true d1
    obtain ⟨q, hq⟩ : ∃ q, waitV s.back = q := ⟨_, rfl⟩
    have HQ := Aside0.mk hq
    rw [hq, E1]
    clear d1 hq
    go_enter Try.func33, Try.ntmps33
    go_wp2_with ((with_reducible refine gate_dst (N := 3) rfl ?_); refine box_event ?hg (N := 3) ?hd (cs := [.int .i64 n, .int .i64 a, .int .i64 z].toArray) (t := 58) ?hr ?_; (case hd => rfl); (case hg => rfl); (case hr => first | (go_simp; done) | (go_simp; rfl)); intro gb hgb w1 hbox hb; have c1 := (hb.cell HNB.out).trans cN; have c2 := (hb.cell HLB.out).trans cL; have g1 := (blk_cell hbox 1).trans (rfl : _ = some (Value.int .i64 a)); have HGW := Aside0.mk (blk_below HGB.out hb); have HB1 := Aside0.mk hb; clear hgb hbox hb)
    have HWT := Aside0.mk (show ∀ n, Calls Try.prog 21 #[.pointer (some ⟨g, 0, none⟩)] (w1.drewN n) fun e w' => e = .returned (.int .i64 q) ∧ ∃ m, w' = (w1.drewN n).drewN m from fun n => (wait_b g s v (w1.drewN n) HGW.out HBK.out.1 HBK.out.2).mono (fun e w' h => ⟨by rw [← HQ.out]; exact h.1, by obtain ⟨m, hm⟩ := h.2; exact ⟨m, hm⟩⟩))
    go_quiet (first | (go_at_call 21; refine Calls.quiet_of (HWT.out _)))
    simp only [Exit.then]
    go_wp2_with (fail)
    go_ret
    exact ⟨by simp, pw_below_drewN HB1.out nq⟩
  · have E1 : decide (now > a) = false := decide_eq_false d1
    have E2 : decide (a < now) = false := decide_eq_false d1
    rw [E1]
    clear d1
    go_enter Try.func33, Try.ntmps33
    go_wp2_with ((with_reducible refine gate_dst (N := 3) rfl ?_); refine box_event ?hg (N := 3) ?hd (cs := [.int .i64 n, .int .i64 a, .int .i64 z].toArray) (t := 58) ?hr ?_; (case hd => rfl); (case hg => rfl); (case hr => first | (go_simp; done) | (go_simp; rfl)); intro gb hgb w1 hbox hb; have c1 := (hb.cell HNB.out).trans cN; have c2 := (hb.cell HLB.out).trans cL; have g1 := (blk_cell hbox 1).trans (rfl : _ = some (Value.int .i64 a)); have HB1 := Aside0.mk hb; clear hgb hbox hb)
    go_region
    simp only [Exit.then]
    go_wp2_with (fail)
    go_ret
    exact ⟨rfl, by first | exact HB1.out | exact below_drew1 HB1.out⟩
end Go.Proofs.Ytgdgegkokghedaa.Led
