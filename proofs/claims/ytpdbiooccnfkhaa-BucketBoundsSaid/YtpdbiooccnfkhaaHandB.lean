/- The bucket's functions, and the chapter's: their contracts. -/
import Derived.Test.YtpdbiooccnfkhaaProg
import Derived.Test.YtpdbiooccnfkhaaWMore
import Derived.Test.YtpdbiooccnfkhaaCalm
import Derived.Test.YtpdbiooccnfkhaaConv
import Derived.WalkKit
import Derived.Laws.LoneSync
import Derived.StillTailTactics
import Derived.LoopN
import Derived.IntWalk
namespace Go.Proofs.Ytpdbiooccnfkhaa.Hand
open Go.RowKit Go.Proofs.YtpdbiooccnfkhaaW.PrintWords Go.Proofs.YtpdbiooccnfkhaaW.PrintLast Go.Proofs.YtpdbiooccnfkhaaW.PrintMore
set_option linter.unusedVariables false
set_option linter.unusedSimpArgs false
/-- Block g is a bucket. -/
def BK (W : World) (g : Nat) (rate burst level taken not : Int) : Prop := W.heap[g]? = some (.cells #[.int .i64 rate, .int .i64 burst, .int .i64 level, .int .i64 taken, .int .i64 not] 47 (0, 0))
/-- Block g is the chapter's bucket. -/
def RK (W : World) (g : Nat) (rate burst level taken not : Int) : Prop := W.heap[g]? = some (.cells #[.int .i64 rate, .int .i64 burst, .int .i64 level, .int .i64 taken, .int .i64 not] 39 (0, 0))
theorem load_c (p : Addr) (x : Int) (W : World) (h : W.cell? p = some (.int .i64 x)) : Calls Try.prog 17 #[.pointer (some p)] W fun e w' => e = .returned (.int .i64 x) ∧ W = w' := by
  have hl := run_call_load (P := Try.prog) Try.func22 (by kernel_rfl) (by kernel_rfl) (by kernel_rfl) .i64 (by kernel_rfl) h
  go_enter Try.func17, Try.ntmps17
  go_wp2
  go_ret
  exact ⟨rfl, rfl⟩
theorem store_c (p : Addr) (x y : Int) (W : World) (h : W.cell? p = some (.int .i64 x)) (hf : W.frozen? p = false) : Calls Try.prog 16 #[.pointer (some p), .int .i64 y] W fun e w' => e = .returned (.tuple #[]) ∧ W.setCell p (.int .i64 y) = w' := by
  have hl := run_call_store (P := Try.prog) Try.func21 (by kernel_rfl) (by kernel_rfl) (by kernel_rfl) (by kernel_rfl) (k := .i64) (y := y) h hf
  go_enter Try.func16, Try.ntmps16
  go_wp2
  first | go_end0 | ((try simp only [Exit.inBlock, Exit.then]); refine bodyPost_ret (results_none rfl _ _ _) rfl ?_)
  exact ⟨rfl, rfl⟩
theorem cas_c (p : Addr) (x y : Int) (W : World) (h : W.cell? p = some (.int .i64 x)) (hf : W.frozen? p = false) : Calls Try.prog 18 #[.pointer (some p), .int .i64 x, .int .i64 y] W fun e w' => e = .returned (.bool true) ∧ W.setCell p (.int .i64 y) = w' := by
  have hl := run_call_cas_hit (P := Try.prog) Try.func23 (by kernel_rfl) (by kernel_rfl) (by kernel_rfl) .i64 (by kernel_rfl) (y := y) h hf
  go_enter Try.func18, Try.ntmps18
  go_wp2
  go_ret
  exact ⟨rfl, rfl⟩
theorem add_c (p : Addr) (x y : Int) (W : World) (h : W.cell? p = some (.int .i64 x)) (hf : W.frozen? p = false) : Calls Try.prog 19 #[.pointer (some p), .int .i64 y] W fun e w' => e = .returned (.int .i64 (wrap64 (x + y))) ∧ W.setCell p (.int .i64 (wrap64 (x + y))) = w' := by
  have hl := run_call_add (P := Try.prog) Try.func24 (by kernel_rfl) (by kernel_rfl) (by kernel_rfl) .i64 (by kernel_rfl) (y := y) (s := wrap64 (x + y)) h hf (by simp [go_sem, i64_w])
  go_enter Try.func19, Try.ntmps19
  go_wp2
  go_ret
  exact ⟨rfl, rfl⟩
theorem ret_int {k : IntKind} {a b : Int} (h : a = b) : Ending.returned (.int k a) = .returned (.int k b) := by rw [h]
/-- A number from 0 to 2^30. -/
def cutv (n : Int) : Int := if n < 0 then 0 else if 1073741824 < n then 1073741824 else n
theorem cutv_range (n : Int) : 0 ≤ cutv n ∧ cutv n ≤ 1073741824 := by
  unfold cutv
  split
  · omega
  · split <;> omega
attribute [local go_sem] max2_int min2_int max_two min_two
theorem cut_c (n : Int) (W : World) : Calls Try.prog 15 #[.int .i64 n] W fun e w' => e = .returned (.int .i64 (cutv n)) ∧ W = w' := by
  by_cases h1 : n < 0
  · rw [show cutv n = 0 by unfold cutv; rw [if_pos h1]]
    go_enter Try.func15, Try.ntmps15
    go_wp2
    all_goals first | (exfalso; omega) | (go_ret; first | exact ⟨rfl, rfl⟩ | exact ⟨ret_int (a := 0) (b := n) (by omega), rfl⟩ | exact ⟨ret_int (a := 1073741824) (b := n) (by omega), rfl⟩ | (exfalso; split at * <;> omega))
  · by_cases h2 : 1073741824 < n
    · rw [show cutv n = 1073741824 by unfold cutv; rw [if_neg h1, if_pos h2]]
      go_enter Try.func15, Try.ntmps15
      go_wp2
      all_goals first | (exfalso; omega) | (go_ret; first | exact ⟨rfl, rfl⟩ | exact ⟨ret_int (a := 0) (b := n) (by omega), rfl⟩ | exact ⟨ret_int (a := 1073741824) (b := n) (by omega), rfl⟩ | (exfalso; split at * <;> omega))
    · rw [show cutv n = n by unfold cutv; rw [if_neg h1, if_neg h2]]
      go_enter Try.func15, Try.ntmps15
      go_wp2
      all_goals first | (exfalso; omega) | (go_ret; first | exact ⟨rfl, rfl⟩ | exact ⟨ret_int (a := 0) (b := n) (by omega), rfl⟩ | exact ⟨ret_int (a := 1073741824) (b := n) (by omega), rfl⟩ | (exfalso; split at * <;> omega))
theorem rcut_c (n : Int) (W : World) : Calls Try.prog 20 #[.int .i64 n] W fun e w' => e = .returned (.int .i64 (cutv n)) ∧ W = w' := by
  by_cases h1 : n < 0
  · rw [show cutv n = 0 by unfold cutv; rw [if_pos h1]]
    go_enter Try.func20, Try.ntmps20
    go_wp2
    all_goals first | (exfalso; omega) | (go_ret; first | exact ⟨rfl, rfl⟩ | exact ⟨ret_int (a := 0) (b := n) (by omega), rfl⟩ | exact ⟨ret_int (a := 1073741824) (b := n) (by omega), rfl⟩ | (exfalso; split at * <;> omega))
  · by_cases h2 : 1073741824 < n
    · rw [show cutv n = 1073741824 by unfold cutv; rw [if_neg h1, if_pos h2]]
      go_enter Try.func20, Try.ntmps20
      go_wp2
      all_goals first | (exfalso; omega) | (go_ret; first | exact ⟨rfl, rfl⟩ | exact ⟨ret_int (a := 0) (b := n) (by omega), rfl⟩ | exact ⟨ret_int (a := 1073741824) (b := n) (by omega), rfl⟩ | (exfalso; split at * <;> omega))
    · rw [show cutv n = n by unfold cutv; rw [if_neg h1, if_neg h2]]
      go_enter Try.func20, Try.ntmps20
      go_wp2
      all_goals first | (exfalso; omega) | (go_ret; first | exact ⟨rfl, rfl⟩ | exact ⟨ret_int (a := 0) (b := n) (by omega), rfl⟩ | exact ⟨ret_int (a := 1073741824) (b := n) (by omega), rfl⟩ | (exfalso; split at * <;> omega))
theorem level_c (g : Nat) (rate burst level taken not : Int) (W : World) (h : BK W g rate burst level taken not) : Calls Try.prog 10 #[.pointer (some ⟨g, 0, none⟩)] W fun e w' => e = .returned (.int .i64 level) ∧ W = w' := by
  have h2 : W.cell? ⟨g, 2, none⟩ = some (.int .i64 level) := (blk_cell h 2).trans rfl
  go_enter Try.func10, Try.ntmps10
  go_wp2_with (go_at_call 17; refine (load_c _ level _ h2).mono ?_; rintro e w' ⟨rfl, rfl⟩)
  go_ret
  exact ⟨rfl, rfl⟩
theorem take_neg (g : Nat) (n : Int) (hn : n < 0) (W : World) : Calls Try.prog 9 #[.pointer (some ⟨g, 0, none⟩), .int .i64 n] W fun e w' => e = .returned (.bool false) ∧ W = w' := by
  have q : decide (n < 0) = true := decide_eq_true hn
  clear hn
  go_enter Try.func9, Try.ntmps9
  go_wp2_with (fail)
  go_ret
  exact ⟨rfl, rfl⟩
theorem take_no (g : Nat) (n rate burst level taken not : Int) (hn : 0 ≤ n) (hl : level < n) (W : World) (h : BK W g rate burst level taken not) : Calls Try.prog 9 #[.pointer (some ⟨g, 0, none⟩), .int .i64 n] W fun e w' => e = .returned (.bool false) ∧ W.setCell ⟨g, 4, none⟩ (.int .i64 (wrap64 (not + n))) = w' := by
  have h2 : W.cell? ⟨g, 2, none⟩ = some (.int .i64 level) := (blk_cell h 2).trans rfl
  have h4 : W.cell? ⟨g, 4, none⟩ = some (.int .i64 not) := (blk_cell h 4).trans rfl
  have f4 := blk_frozen h 4
  have q : decide (n < 0) = false := decide_eq_false (by omega)
  have q2 : decide (level < n) = true := decide_eq_true hl
  clear hn hl
  go_enter Try.func9, Try.ntmps9
  go_wp2_with (fail)
  refine wp_loop_rounds 1 ?_
  rw [rounds_succ]
  go_wp2_with (first | (go_at_call 17; (with_reducible refine (load_c _ level _ h2).mono ?_); rintro e w' ⟨rfl, rfl⟩) | (go_at_call 19; (with_reducible refine (add_c _ not n _ h4 f4).mono ?_); rintro e w' ⟨rfl, rfl⟩))
  go_ret
  exact ⟨rfl, rfl⟩
theorem take_yes (g : Nat) (n rate burst level taken not : Int) (hn : 0 ≤ n) (hl : n ≤ level) (hb : level ≤ 1073741824) (W : World) (h : BK W g rate burst level taken not) : Calls Try.prog 9 #[.pointer (some ⟨g, 0, none⟩), .int .i64 n] W fun e w' => e = .returned (.bool true) ∧ (W.setCell ⟨g, 2, none⟩ (.int .i64 (level - n))).setCell ⟨g, 3, none⟩ (.int .i64 (wrap64 (taken + n))) = w' := by
  have h2 : W.cell? ⟨g, 2, none⟩ = some (.int .i64 level) := (blk_cell h 2).trans rfl
  have f2 := blk_frozen h 2
  have hh := blk_put h 2 (.int .i64 (level - n)) rfl
  have h3 := (blk_cell hh 3).trans rfl
  have f3 := blk_frozen hh 3
  have q : decide (n < 0) = false := decide_eq_false (by omega)
  have q2 : decide (level < n) = false := decide_eq_false (by omega)
  have hw : IntKind.i64.wrap (level - n) = level - n := by rw [IntKind.wrap_i64]; omega
  have hw2 : wrap64 (level - n) = level - n := (i64_w _).symm.trans hw
  clear hn hl hb hh
  go_enter Try.func9, Try.ntmps9
  go_wp2_with (fail)
  refine wp_loop_rounds 1 ?_
  rw [rounds_succ]
  go_wp2_with (first | (go_at_call 17; (with_reducible refine (load_c _ level _ h2).mono ?_); rintro e w' ⟨rfl, rfl⟩) | (go_at_call 18; (with_reducible refine (cas_c _ level (level - n) _ h2 f2).mono ?_); rintro e w' ⟨rfl, rfl⟩) | (go_at_call 19; (with_reducible refine (add_c _ taken n _ h3 f3).mono ?_); rintro e w' ⟨rfl, rfl⟩))
  go_ret
  exact ⟨rfl, rfl⟩
theorem tick_c (g : Nat) (n rate burst level taken not : Int) (hr : 0 ≤ rate ∧ rate ≤ 1073741824) (hl : 0 ≤ level ∧ level ≤ 1073741824) (W : World) (h : BK W g rate burst level taken not) : Calls Try.prog 8 #[.pointer (some ⟨g, 0, none⟩), .int .i64 n] W fun e w' => e = .returned (.tuple #[]) ∧ (W.setCell ⟨g, 2, none⟩ (.int .i64 (mn burst (level + rate * cutv n)))).drew = w' := by
  have h0 : W.cell? ⟨g, 0, none⟩ = some (.int .i64 rate) := (blk_cell h 0).trans rfl
  have h1 : W.cell? ⟨g, 1, none⟩ = some (.int .i64 burst) := (blk_cell h 1).trans rfl
  have h2 : W.cell? ⟨g, 2, none⟩ = some (.int .i64 level) := (blk_cell h 2).trans rfl
  have f2 := blk_frozen h 2
  have h2d : W.drew.cell? ⟨g, 2, none⟩ = some (.int .i64 level) := h2
  have f2d : W.drew.frozen? ⟨g, 2, none⟩ = false := f2
  have hmul : 0 ≤ rate * cutv n ∧ rate * cutv n ≤ 1152921504606846976 := by
    obtain ⟨c0, c1⟩ := cutv_range n
    exact ⟨Int.mul_nonneg hr.1 c0, Int.le_trans (Int.mul_le_mul hr.2 c1 c0 (by omega)) (by omega)⟩
  obtain ⟨c, hc⟩ : ∃ c, cutv n = c := ⟨_, rfl⟩
  rw [hc] at hmul
  rw [hc]
  have hm1 : IntKind.i64.wrap (rate * c) = rate * c := by rw [IntKind.wrap_i64]; omega
  have hm2 : IntKind.i64.wrap (level + rate * c) = level + rate * c := by rw [IntKind.wrap_i64]; omega
  have hm3 : wrap64 (rate * c) = rate * c := (i64_w _).symm.trans hm1
  have hm4 : wrap64 (level + rate * c) = level + rate * c := (i64_w _).symm.trans hm2
  have HC := Aside0.mk hc
  clear hc hmul hr hl
  have key : ∀ v : Int, (v = level + rate * c ∧ level + rate * c < burst) ∨ (v = burst ∧ burst ≤ level + rate * c) → Calls Try.prog 8 #[.pointer (some ⟨g, 0, none⟩), .int .i64 n] W fun e w' => e = .returned (.tuple #[]) ∧ (W.setCell ⟨g, 2, none⟩ (.int .i64 v)).drew = w' := by
    rintro v (⟨rfl, q⟩ | ⟨rfl, q⟩)
    all_goals
      go_enter Try.func8, Try.ntmps8
      go_wp2_with (fail)
      refine wp_loop_rounds 1 ?_
      rw [rounds_succ]
      go_wp2_with (go_at_call 17; (with_reducible refine (load_c _ level _ h2).mono ?_); rintro e w' ⟨rfl, rfl⟩)
      refine wp_region_still_tail 18 (by kernel_rfl) (by kernel_rfl) ?_
      change wpStill _ _ (World.drew _) (fun a' => wpList _ _ _ _ a' (World.drew _)) _ _
      simp only [List.take_succ_cons, List.take_zero, List.drop_succ_cons, List.drop_zero]
      repeat (first | still_step | (still_call ((cut_c n W.drew).mono fun _ _ ⟨h1, h2⟩ => ⟨h1.trans (by rw [HC.out]), h2.symm⟩)))
      refine wpStill_nil ?_
      go_wp2_with (go_at_call 18; (with_reducible refine (cas_c _ level _ _ h2d f2d).mono ?_); rintro e w' ⟨rfl, rfl⟩)
      first | go_end0 | ((try simp only [Exit.inBlock, Exit.then]); refine bodyPost_ret (results_none rfl _ _ _) rfl ?_)
      exact ⟨rfl, rfl⟩
  refine key _ ?_
  unfold mn
  split <;> omega
theorem rtick_c (g : Nat) (n rate burst level taken not : Int) (hr : 0 ≤ rate ∧ rate ≤ 1073741824) (hl : 0 ≤ level ∧ level ≤ 1073741824) (W : World) (h : RK W g rate burst level taken not) : Calls Try.prog 12 #[.pointer (some ⟨g, 0, none⟩), .int .i64 n] W fun e w' => e = .returned (.tuple #[]) ∧ (W.setCell ⟨g, 2, none⟩ (.int .i64 (mn burst (level + rate * cutv n)))).drew = w' := by
  have h0 : W.cell? ⟨g, 0, none⟩ = some (.int .i64 rate) := (blk_cell h 0).trans rfl
  have h1 : W.cell? ⟨g, 1, none⟩ = some (.int .i64 burst) := (blk_cell h 1).trans rfl
  have h2 : W.cell? ⟨g, 2, none⟩ = some (.int .i64 level) := (blk_cell h 2).trans rfl
  have f2 := blk_frozen h 2
  have hmul : 0 ≤ rate * cutv n ∧ rate * cutv n ≤ 1152921504606846976 := by
    obtain ⟨c0, c1⟩ := cutv_range n
    exact ⟨Int.mul_nonneg hr.1 c0, Int.le_trans (Int.mul_le_mul hr.2 c1 c0 (by omega)) (by omega)⟩
  obtain ⟨c, hc⟩ : ∃ c, cutv n = c := ⟨_, rfl⟩
  rw [hc] at hmul
  rw [hc]
  have hm1 : IntKind.i64.wrap (rate * c) = rate * c := by rw [IntKind.wrap_i64]; omega
  have hm2 : IntKind.i64.wrap (level + rate * c) = level + rate * c := by rw [IntKind.wrap_i64]; omega
  have hm3 : wrap64 (rate * c) = rate * c := (i64_w _).symm.trans hm1
  have hm4 : wrap64 (level + rate * c) = level + rate * c := (i64_w _).symm.trans hm2
  have HC := Aside0.mk hc
  clear hc hmul hr hl
  have key : ∀ v : Int, (v = level + rate * c ∧ level + rate * c < burst) ∨ (v = burst ∧ burst ≤ level + rate * c) → Calls Try.prog 12 #[.pointer (some ⟨g, 0, none⟩), .int .i64 n] W fun e w' => e = .returned (.tuple #[]) ∧ (W.setCell ⟨g, 2, none⟩ (.int .i64 v)).drew = w' := by
    rintro v (⟨rfl, q⟩ | ⟨rfl, q⟩)
    all_goals
      go_enter Try.func12, Try.ntmps12
      go_wp2_with (fail)
      refine wp_region_still_tail 20 (by kernel_rfl) (by kernel_rfl) ?_
      change wpStill _ _ (World.drew _) (fun a' => wpList _ _ _ _ a' (World.drew _)) _ _
      simp only [List.take_succ_cons, List.take_zero, List.drop_succ_cons, List.drop_zero]
      repeat (first | still_step | (still_call ((rcut_c n W.drew).mono fun _ _ ⟨h1, h2⟩ => ⟨h1.trans (by rw [HC.out]), h2.symm⟩)))
      refine wpStill_nil ?_
      go_wp2_with (fail)
      first | go_end0 | ((try simp only [Exit.inBlock, Exit.then]); refine bodyPost_ret (results_none rfl _ _ _) rfl ?_)
      exact ⟨rfl, rfl⟩
  refine key _ ?_
  unfold mn
  split <;> omega
theorem rtake_neg (g : Nat) (n : Int) (hn : n < 0) (W : World) : Calls Try.prog 13 #[.pointer (some ⟨g, 0, none⟩), .int .i64 n] W fun e w' => e = .returned (.bool false) ∧ W = w' := by
  have q : decide (n < 0) = true := decide_eq_true hn
  clear hn
  go_enter Try.func13, Try.ntmps13
  go_wp2_with (fail)
  go_ret
  exact ⟨rfl, rfl⟩
theorem rtake_no (g : Nat) (n rate burst level taken not : Int) (hn : 0 ≤ n) (hl : level < n) (W : World) (h : RK W g rate burst level taken not) : Calls Try.prog 13 #[.pointer (some ⟨g, 0, none⟩), .int .i64 n] W fun e w' => e = .returned (.bool false) ∧ W.setCell ⟨g, 4, none⟩ (.int .i64 (wrap64 (not + n))) = w' := by
  have h2 : W.cell? ⟨g, 2, none⟩ = some (.int .i64 level) := (blk_cell h 2).trans rfl
  have h4 : W.cell? ⟨g, 4, none⟩ = some (.int .i64 not) := (blk_cell h 4).trans rfl
  have f4 := blk_frozen h 4
  have q : decide (n < 0) = false := decide_eq_false (by omega)
  have q2 : decide (level < n) = true := decide_eq_true hl
  clear hn hl
  go_enter Try.func13, Try.ntmps13
  go_wp2_with (fail)
  go_ret
  exact ⟨rfl, rfl⟩
theorem rtake_yes (g : Nat) (n rate burst level taken not : Int) (hn : 0 ≤ n) (hl : n ≤ level) (hb : level ≤ 1073741824) (W : World) (h : RK W g rate burst level taken not) : Calls Try.prog 13 #[.pointer (some ⟨g, 0, none⟩), .int .i64 n] W fun e w' => e = .returned (.bool true) ∧ (W.setCell ⟨g, 2, none⟩ (.int .i64 (level - n))).setCell ⟨g, 3, none⟩ (.int .i64 (wrap64 (taken + n))) = w' := by
  have h2 : W.cell? ⟨g, 2, none⟩ = some (.int .i64 level) := (blk_cell h 2).trans rfl
  have f2 := blk_frozen h 2
  have hh := blk_put h 2 (.int .i64 (level - n)) rfl
  have h3 : (W.setCell ⟨g, 2, none⟩ (.int .i64 (level - n))).cell? ⟨g, 3, none⟩ = some (.int .i64 taken) := (blk_cell hh 3).trans rfl
  have f3 := blk_frozen hh 3
  have q : decide (n < 0) = false := decide_eq_false (by omega)
  have q2 : decide (level < n) = false := decide_eq_false (by omega)
  have hw : IntKind.i64.wrap (level - n) = level - n := by rw [IntKind.wrap_i64]; omega
  have hw2 : wrap64 (level - n) = level - n := (i64_w _).symm.trans hw
  clear hn hl hb hh
  go_enter Try.func13, Try.ntmps13
  go_wp2_with (fail)
  go_ret
  exact ⟨rfl, rfl⟩
theorem counts_c (g : Nat) (rate burst level taken not : Int) (W : World) (h : BK W g rate burst level taken not) : Calls Try.prog 14 #[.pointer (some ⟨g, 0, none⟩)] W fun e w' => e = .returned (.tuple #[.int .i64 taken, .int .i64 not]) ∧ W.drew = w' := by
  have h3 : W.drew.cell? ⟨g, 3, none⟩ = some (.int .i64 taken) := (blk_cell h 3).trans rfl
  have h4 : W.drew.cell? ⟨g, 4, none⟩ = some (.int .i64 not) := (blk_cell h 4).trans rfl
  go_enter Try.func14, Try.ntmps14
  go_wp2_with (fail)
  refine wp_region_still_lit (by kernel_rfl) (by kernel_rfl) ?_
  change wpStill _ _ (World.drew _) (fun a' => _) _ _
  repeat (first | still_step | (still_call ((load_c _ taken _ h3).mono fun _ _ ⟨h1, h2⟩ => ⟨h1, h2.symm⟩)) | (still_call ((load_c _ not _ h4).mono fun _ _ ⟨h1, h2⟩ => ⟨h1, h2.symm⟩)))
  refine wpStill_nil ?_
  go_wp2_with (fail)
  go_ret2
  exact ⟨rfl, rfl⟩
theorem new_c (rate burst : Int) (W : World) : Calls Try.prog 7 #[.int .i64 rate, .int .i64 burst] W fun e w' => e = .returned (.pointer (some ⟨W.heap.size, 0, none⟩)) ∧ (W.alloc (.cells #[.int .i64 (cutv rate), .int .i64 (cutv burst), .int .i64 (cutv burst), .int .i64 0, .int .i64 0] 47)).drew = w' := by
  obtain ⟨c, hc⟩ : ∃ c, cutv burst = c := ⟨_, rfl⟩
  have hw1 : wrap64 rate = wrap64 rate := rfl
  have HC := Aside0.mk hc
  rw [hc]
  clear hc hw1
  go_enter Try.func7, Try.ntmps7
  go_wp2_with (first | (go_at_call 15; (with_reducible refine (cut_c rate _).mono ?_); rintro e w' ⟨rfl, rfl⟩) | (go_at_call 15; (with_reducible refine (cut_c burst _).mono ?_); rintro e w' ⟨rfl, rfl⟩))
  rw [HC.out]
  have hd : (W.alloc (.cells #[.int .i64 (cutv rate), .int .i64 c, .int .i64 0, .int .i64 0, .int .i64 0] 47)).drew.heap[W.heap.size]? = some (.cells #[.int .i64 (cutv rate), .int .i64 c, .int .i64 0, .int .i64 0, .int .i64 0] 47 (0, 0)) := blk_drew (blk_new W _)
  have h2 : (W.alloc (.cells #[.int .i64 (cutv rate), .int .i64 c, .int .i64 0, .int .i64 0, .int .i64 0] 47)).drew.cell? ⟨W.heap.size, 2, none⟩ = some (.int .i64 0) := (blk_cell hd 2).trans rfl
  have f2 := blk_frozen hd 2
  refine wp_region_still_tail 7 (by kernel_rfl) (by kernel_rfl) ?_
  change wpStill _ _ (World.drew _) (fun a' => wpList _ _ _ _ a' (World.drew _)) _ _
  simp only [List.take_succ_cons, List.take_zero, List.drop_succ_cons, List.drop_zero]
  repeat still_step
  refine wpStill_nil ?_
  go_wp2_with (go_at_call 16; (with_reducible refine (store_c _ 0 _ _ h2 f2).mono ?_); rintro e w' ⟨rfl, rfl⟩)
  go_ret
  exact ⟨rfl, rfl⟩
theorem rnew_c (rate burst : Int) (W : World) : Calls Try.prog 11 #[.int .i64 rate, .int .i64 burst] W fun e w' => e = .returned (.pointer (some ⟨W.heap.size, 0, none⟩)) ∧ W.alloc (.cells #[.int .i64 (cutv rate), .int .i64 (cutv burst), .int .i64 (cutv burst), .int .i64 0, .int .i64 0] 39) = w' := by
  go_enter Try.func11, Try.ntmps11
  go_wp2_with (first | (go_at_call 20; (with_reducible refine (rcut_c rate _).mono ?_); rintro e w' ⟨rfl, rfl⟩) | (go_at_call 20; (with_reducible refine (rcut_c burst _).mono ?_); rintro e w' ⟨rfl, rfl⟩))
  go_ret
  exact ⟨rfl, rfl⟩
theorem mn_range (B l m : Int) (hB : 0 ≤ B ∧ B ≤ 1073741824) (hl : 0 ≤ l ∧ l ≤ 1073741824) (hm : 0 ≤ m) : 0 ≤ mn B (l + m) ∧ mn B (l + m) ≤ 1073741824 := by
  unfold mn
  split <;> omega
/-! ### In one form for all ways -/
/-- What taking n answers, and leaves: level, taken, refused. -/
def takeS (level taken not n : Int) : Bool × Int × Int × Int :=
  if n < 0 then (false, level, taken, not) else if level < n then (false, level, taken, wrap64 (not + n)) else (true, level - n, wrap64 (taken + n), not)
theorem takeS_level (level taken not n : Int) (h : 0 ≤ level ∧ level ≤ 1073741824) : 0 ≤ (takeS level taken not n).2.1 ∧ (takeS level taken not n).2.1 ≤ 1073741824 := by
  unfold takeS
  split
  · exact h
  · split
    · exact h
    · show 0 ≤ level - n ∧ level - n ≤ 1073741824
      omega
theorem takeS_le (level taken not n : Int) : (takeS level taken not n).2.1 ≤ level := by
  unfold takeS
  split
  · exact Int.le_refl _
  · split
    · exact Int.le_refl _
    · show level - n ≤ level
      omega
theorem u64_range (n : Int) : 0 ≤ IntKind.u64.wrap n ∧ IntKind.u64.wrap n < 18446744073709551616 := by
  simp only [IntKind.wrap, IntKind.bits, IntKind.signed]
  simp
  omega
theorem mn_step (B l R i : Int) (hR : 0 ≤ R) : mn B (mn B (l + R * i) + R * cutv 1) = mn B (l + R * (i + 1)) := by
  have e : R * cutv 1 = R := by
    show R * 1 = R
    omega
  rw [e, Int.mul_add, Int.mul_one]
  unfold mn
  split <;> split <;> (try split) <;> omega
theorem take_c (g : Nat) (n rate burst level taken not : Int) (hb : level ≤ 1073741824) (W : World) (h : BK W g rate burst level taken not) (b : Bool) (l' t' n' : Int) (ht : takeS level taken not n = (b, l', t', n')) :
    Calls Try.prog 9 #[.pointer (some ⟨g, 0, none⟩), .int .i64 n] W fun e w' => e = .returned (.bool b) ∧ BK w' g rate burst l' t' n' ∧ Conv.Only W w' g := by
  unfold takeS at ht
  by_cases h0 : n < 0
  · rw [if_pos h0] at ht
    obtain ⟨rfl, rfl, rfl, rfl⟩ := (by simpa using ht : false = b ∧ level = l' ∧ taken = t' ∧ not = n')
    refine (take_neg g n h0 W).mono ?_
    rintro e w' ⟨rfl, rfl⟩
    exact ⟨rfl, h, Conv.Only.refl _ _⟩
  rw [if_neg h0] at ht
  by_cases h1 : level < n
  · rw [if_pos h1] at ht
    obtain ⟨rfl, rfl, rfl, rfl⟩ := (by simpa using ht : false = b ∧ level = l' ∧ taken = t' ∧ wrap64 (not + n) = n')
    refine (take_no g n rate burst level taken not (by omega) h1 W h).mono ?_
    rintro e w' ⟨rfl, rfl⟩
    exact ⟨rfl, blk_put h 4 _ rfl, (Conv.Only.refl _ _).set 4 _⟩
  rw [if_neg h1] at ht
  obtain ⟨rfl, rfl, rfl, rfl⟩ := (by simpa using ht : true = b ∧ level - n = l' ∧ wrap64 (taken + n) = t' ∧ not = n')
  refine (take_yes g n rate burst level taken not (by omega) (by omega) hb W h).mono ?_
  rintro e w' ⟨rfl, rfl⟩
  exact ⟨rfl, blk_put (blk_put h 2 _ rfl) 3 _ rfl, ((Conv.Only.refl _ _).set 2 _).set 3 _⟩
theorem rtake_c (g : Nat) (n rate burst level taken not : Int) (hb : level ≤ 1073741824) (W : World) (h : RK W g rate burst level taken not) (b : Bool) (l' t' n' : Int) (ht : takeS level taken not n = (b, l', t', n')) :
    Calls Try.prog 13 #[.pointer (some ⟨g, 0, none⟩), .int .i64 n] W fun e w' => e = .returned (.bool b) ∧ RK w' g rate burst l' t' n' ∧ Conv.Only W w' g := by
  unfold takeS at ht
  by_cases h0 : n < 0
  · rw [if_pos h0] at ht
    obtain ⟨rfl, rfl, rfl, rfl⟩ := (by simpa using ht : false = b ∧ level = l' ∧ taken = t' ∧ not = n')
    refine (rtake_neg g n h0 W).mono ?_
    rintro e w' ⟨rfl, rfl⟩
    exact ⟨rfl, h, Conv.Only.refl _ _⟩
  rw [if_neg h0] at ht
  by_cases h1 : level < n
  · rw [if_pos h1] at ht
    obtain ⟨rfl, rfl, rfl, rfl⟩ := (by simpa using ht : false = b ∧ level = l' ∧ taken = t' ∧ wrap64 (not + n) = n')
    refine (rtake_no g n rate burst level taken not (by omega) h1 W h).mono ?_
    rintro e w' ⟨rfl, rfl⟩
    exact ⟨rfl, blk_put h 4 _ rfl, (Conv.Only.refl _ _).set 4 _⟩
  rw [if_neg h1] at ht
  obtain ⟨rfl, rfl, rfl, rfl⟩ := (by simpa using ht : true = b ∧ level - n = l' ∧ wrap64 (taken + n) = t' ∧ not = n')
  refine (rtake_yes g n rate burst level taken not (by omega) (by omega) hb W h).mono ?_
  rintro e w' ⟨rfl, rfl⟩
  exact ⟨rfl, blk_put (blk_put h 2 _ rfl) 3 _ rfl, ((Conv.Only.refl _ _).set 2 _).set 3 _⟩
theorem tick_o (g : Nat) (n rate burst level taken not : Int) (hr : 0 ≤ rate ∧ rate ≤ 1073741824) (hl : 0 ≤ level ∧ level ≤ 1073741824) (W : World) (h : BK W g rate burst level taken not) :
    Calls Try.prog 8 #[.pointer (some ⟨g, 0, none⟩), .int .i64 n] W fun e w' => e = .returned (.tuple #[]) ∧ BK w' g rate burst (mn burst (level + rate * cutv n)) taken not ∧ Conv.Only W w' g := by
  refine (tick_c g n rate burst level taken not hr hl W h).mono ?_
  rintro e w' ⟨rfl, rfl⟩
  exact ⟨rfl, blk_drew (blk_put h 2 _ rfl), ((Conv.Only.refl _ _).set 2 _).drew⟩
theorem rtick_o (g : Nat) (n rate burst level taken not : Int) (hr : 0 ≤ rate ∧ rate ≤ 1073741824) (hl : 0 ≤ level ∧ level ≤ 1073741824) (W : World) (h : RK W g rate burst level taken not) :
    Calls Try.prog 12 #[.pointer (some ⟨g, 0, none⟩), .int .i64 n] W fun e w' => e = .returned (.tuple #[]) ∧ RK w' g rate burst (mn burst (level + rate * cutv n)) taken not ∧ Conv.Only W w' g := by
  refine (rtick_c g n rate burst level taken not hr hl W h).mono ?_
  rintro e w' ⟨rfl, rfl⟩
  exact ⟨rfl, blk_drew (blk_put h 2 _ rfl), ((Conv.Only.refl _ _).set 2 _).drew⟩
end Go.Proofs.Ytpdbiooccnfkhaa.Hand
