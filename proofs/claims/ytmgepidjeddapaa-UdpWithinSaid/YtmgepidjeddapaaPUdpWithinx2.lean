/- Written by a program of this session (xprint.py, over the kit's print): Go functions told as Lean functions, each with the proof that a call answers just so. -/
import Derived.Test.YtmgepidjeddapaaPUdpWithinx0
import Derived.Test.YtmgepidjeddapaaPUdpWithinx1
namespace Go.Proofs.Ytmgepidjeddapaa.PUdpWithin
open Go.Proofs.Ytmgepidjeddapaa.Hand
open Go.RowKit Go.Proofs.YtmgepidjeddapaaW.PrintWords Go.Proofs.YtmgepidjeddapaaW.PrintLast Go.Proofs.YtmgepidjeddapaaW.PrintMore
attribute [local go_sem] max2_int min2_int max_two min_two max_three min_three max_four min_four   -- for this text's walks alone
set_option linter.unusedVariables false
set_option linter.unusedSimpArgs false

/-! ### ipv4_Build: by hand (an array, its loop; defer, recover; a block of the call's own, filled in parts) -/
set_option maxHeartbeats 8000000 in
set_option maxRecDepth 100000 in
theorem ipv4_Sum.same (k : Nat) (a0 : ByteArray) (r : Int) (w : World) (h : ipv4_Sum.f k a0 = some r) :
    Calls Try.prog 17 #[.string a0] w fun e w' => e = .returned (.int .i64 r) ∧ w = w' := by
  have H : (ipv4_Sum.l0 k a0 0 (a0.size : Int) 0) = some r := h
  clear h
  have H' := Aside0.mk H
  clear H
  go_enter Try.func17, Try.ntmps17
  go_wp2
  go_loopg [3, 7] k (fun kq v3 v7 w' => ∃ (x3_1 : Int) (x7_1 : Int), v3 = .int .i64 x3_1 ∧ v7 = .int .i64 x7_1 ∧ Aside0 (ipv4_Sum.l0 kq a0 x3_1 (a0.size : Int) x7_1 = some r) ∧ Aside0 (kq ≤ k) ∧ w = w')
  case atStart => exact ⟨(0), (0), (by first | rfl | (simp; done) | (simp [*]; done)), (by first | rfl | (simp; done) | (simp [*]; done)), H', ⟨Nat.le_refl _⟩, rfl⟩
  case round =>
    clear H'
    try clear c1
    obtain ⟨x3_1, x7_1, rfl, rfl, HA, HK1, rfl⟩ := hrel
    cases gk with
    | zero => exact absurd HA.out (by simp [ipv4_Sum.l0])
    | succ k1 =>
      have H := HA.out
      clear HA
      simp only [ipv4_Sum.l0] at H
      by_cases c2 : x7_1 < (a0.size : Int)
      · rw [if_pos c2] at H
        have c2b0 : decide (x7_1 < (a0.size : Int)) = true := decide_eq_true c2
        clear c2
        by_cases c3 : 0 ≤ x7_1
        · rw [if_pos c3] at H
          have c3b0 : decide (0 ≤ x7_1) = true := decide_eq_true c3
          clear c3
          by_cases c4 : x7_1 < (a0.size : Int)
          · rw [if_pos c4] at H
            have c4b0 : decide (x7_1 < (a0.size : Int)) = true := decide_eq_true c4
            clear c4
            obtain ⟨ji6, hji6⟩ : ∃ j_ : Int, (wrap64 (8 * (wrap64 (1 - (Int.tmod x7_1 2))))) = j_ := ⟨_, rfl⟩
            replace H : (if 0 ≤ (ji6) then (ipv4_Sum.l0 k1 a0 (wrap64 (x3_1 + (shl .i64 (wrap64 (bt a0 x7_1)) (ji6)))) (a0.size : Int) (wrap64 (x7_1 + 1))) else (none)) = some r := by first | (rw [hji6] at H; exact H) | (simp only [hji6] at H ⊢; exact H)
            have hji6w : (IntKind.i64.wrap (8 * (wrap64 (1 - (Int.tmod x7_1 2))))) = ji6 := (i64_w _).trans hji6
            by_cases c7 : 0 ≤ (ji6)
            · rw [if_pos c7] at H
              have c7b0 := eq_true c7
              have c7b1 : decide (0 ≤ (ji6)) = true := decide_eq_true c7
              clear c7
              obtain ⟨ji8, hji8⟩ : ∃ j_ : Int, (shl .i64 (wrap64 (bt a0 x7_1)) (ji6)) = j_ := ⟨_, rfl⟩
              replace H : (ipv4_Sum.l0 k1 a0 (wrap64 (x3_1 + (ji8))) (a0.size : Int) (wrap64 (x7_1 + 1))) = some r := by first | (rw [hji8] at H; exact H) | (simp only [hji8] at H ⊢; exact H)
              have hji8_ : (IntKind.i64.wrap ((wrap64 (bt a0 x7_1)) * 2 ^ min (ji6).toNat 64)) = ji8 := hji8
              have hji8z : (ji6) ≤ 64 → (IntKind.i64.wrap ((wrap64 (bt a0 x7_1)) * 2 ^ (ji6).toNat)) = ji8 := shl_small hji8
              have hji8y : (wrap64 ((wrap64 (bt a0 x7_1)) * 2 ^ min (ji6).toNat 64)) = ji8 := (i64_w _).symm.trans hji8_
              have hji8x : (ji6) ≤ 64 → (wrap64 ((wrap64 (bt a0 x7_1)) * 2 ^ (ji6).toNat)) = ji8 := fun h_ => (i64_w _).symm.trans (hji8z h_)
              have H' := Aside0.mk H
              clear H
              have p5 : 0 ≤ (x7_1 : Int) := of_decide_eq_true (by first | (with_reducible assumption) | assumption)
              have q5 : x7_1 < (a0.size : Int) := of_decide_eq_true (by first | (with_reducible assumption) | assumption)
              have hx5 := bt_at a0 x7_1
              replace p5 := eq_true p5
              replace q5 := eq_true q5
              go_wp2
              go_roundg k1
              case measure => have := HK1.out; omega
              case rel => exact ⟨(wrap64 (x3_1 + (ji8))), (wrap64 (x7_1 + 1)), (by first | rfl | (simp; done) | (simp only [← hji8] <;> (first | rfl | simp)) | (simp [*]; done)), (by first | rfl | (simp; done) | (simp [*]; done)), H', ⟨by have := HK1.out; omega⟩, rfl⟩
            · rw [if_neg c7] at H
              exact absurd H (by simp)
          · rw [if_neg c4] at H
            exact absurd H (by simp)
        · rw [if_neg c3] at H
          exact absurd H (by simp)
      · rw [if_neg c2] at H
        have c2b0 : decide (x7_1 < (a0.size : Int)) = false := decide_eq_false c2
        clear c2
        have H' := Aside0.mk H
        clear H
        go_wp2
        go_loopg [3] k1 (fun kq v3 w' => ∃ (x3_2 : Int), v3 = .int .i64 x3_2 ∧ Aside0 (ipv4_Sum.l1 kq x3_2 = some r) ∧ Aside0 (kq ≤ k1) ∧ w = w')
        case atStart => exact ⟨(x3_1), (by first | rfl | (simp; done) | (simp [*]; done)), H', ⟨Nat.le_refl _⟩, rfl⟩
        case round =>
          clear H'
          try clear c1
          try clear c2
          try clear c2b0
          try clear p2
          try clear c3
          try clear c3b0
          try clear c4
          try clear c4b0
          try clear p5
          try clear q5
          try clear hx5
          try clear p6
          try clear c7
          try clear c7b0
          try clear c7b1
          try clear p5
          try clear q5
          obtain ⟨x3_2, rfl, HA, HK2, rfl⟩ := hrel
          cases gk with
          | zero => exact absurd HA.out (by simp [ipv4_Sum.l1])
          | succ k2 =>
            have H := HA.out
            clear HA
            simp only [ipv4_Sum.l1] at H
            by_cases c9 : x3_2 > 65535
            · rw [if_pos c9] at H
              have c9b0 : decide (65535 < x3_2) = true := decide_eq_true c9
              clear c9
              have H' := Aside0.mk H
              clear H
              go_wp2
              go_roundg k2
              case measure => have := HK1.out; have := HK2.out; omega
              case rel => exact ⟨(wrap64 ((Go.bits .and .i64 x3_2 65535) + (x3_2 / 65536))), (by first | rfl | (simp; done) | (simp [*]; done)), H', ⟨by have := HK1.out; have := HK2.out; omega⟩, rfl⟩
            · rw [if_neg c9] at H
              have c9b0 : decide (65535 < x3_2) = false := decide_eq_false c9
              clear c9
              obtain rfl := Option.some.inj H
              go_wp2
              go_ret
              exact ⟨by first | rfl | (simp; done) | (simp [*]; done), rfl⟩
set_option maxHeartbeats 4000000 in
set_option maxRecDepth 100000 in
theorem ipv4_put.two (g o c : Nat) (n x0 x1 : Int) (W : World) (h0 : W.cell? ⟨g, o, none⟩ = some (.int .u8 x0)) (f0 : W.frozen? ⟨g, o, none⟩ = false) (h1 : W.cell? ⟨g, o + 1, none⟩ = some (.int .u8 x1)) (f1 : W.frozen? ⟨g, o + 1, none⟩ = false) :
    Calls Try.prog 26 #[.slice (some ⟨g, o, none⟩) 2 c, .int .u32 n] W fun e w' => e = .returned (.tuple #[]) ∧ ((W.setCell ⟨g, o, none⟩ (.int .u8 (n / 256 % 256))).setCell ⟨g, o + 1, none⟩ (.int .u8 (n % 256))) = w' := by
  go_enter Try.func26, Try.ntmps26
  go_wp2
  refine wp_loop_rounds 3 ?_
  rw [rounds_succ]
  go_wp2
  rw [rounds_succ]
  go_wp2
  rw [rounds_succ]
  go_wp2
  first | go_end0 | ((try simp only [Exit.inBlock, Exit.then]); refine bodyPost_ret (results_none rfl _ _ _) rfl ?_)
  exact ⟨rfl, rfl⟩
set_option maxHeartbeats 4000000 in
set_option maxRecDepth 100000 in
theorem ipv4_put.four (g o c : Nat) (n x0 x1 x2 x3 : Int) (W : World) (h0 : W.cell? ⟨g, o, none⟩ = some (.int .u8 x0)) (f0 : W.frozen? ⟨g, o, none⟩ = false) (h1 : W.cell? ⟨g, o + 1, none⟩ = some (.int .u8 x1)) (f1 : W.frozen? ⟨g, o + 1, none⟩ = false) (h2 : W.cell? ⟨g, o + 2, none⟩ = some (.int .u8 x2)) (f2 : W.frozen? ⟨g, o + 2, none⟩ = false) (h3 : W.cell? ⟨g, o + 3, none⟩ = some (.int .u8 x3)) (f3 : W.frozen? ⟨g, o + 3, none⟩ = false) :
    Calls Try.prog 26 #[.slice (some ⟨g, o, none⟩) 4 c, .int .u32 n] W fun e w' => e = .returned (.tuple #[]) ∧ ((((W.setCell ⟨g, o, none⟩ (.int .u8 (n / 16777216 % 256))).setCell ⟨g, o + 1, none⟩ (.int .u8 (n / 65536 % 256))).setCell ⟨g, o + 2, none⟩ (.int .u8 (n / 256 % 256))).setCell ⟨g, o + 3, none⟩ (.int .u8 (n % 256))) = w' := by
  go_enter Try.func26, Try.ntmps26
  go_wp2
  refine wp_loop_rounds 5 ?_
  rw [rounds_succ]
  go_wp2
  rw [rounds_succ]
  go_wp2
  rw [rounds_succ]
  go_wp2
  rw [rounds_succ]
  go_wp2
  rw [rounds_succ]
  go_wp2
  first | go_end0 | ((try simp only [Exit.inBlock, Exit.then]); refine bodyPost_ret (results_none rfl _ _ _) rfl ?_)
  exact ⟨rfl, rfl⟩

def ipv4_Build.hd (a0 a1 a2 a3 a4 a5 a6 n s : Int) : List Int := [69, a0, n / 256 % 256, n % 256, a1 / 256 % 256, a1 % 256, a2 / 256 % 256, a2 % 256, a3, a4, s / 256 % 256, s % 256, a5 / 16777216 % 256, a5 / 65536 % 256, a5 / 256 % 256, a5 % 256, a6 / 16777216 % 256, a6 / 65536 % 256, a6 / 256 % 256, a6 % 256]
def ipv4_Build.f (k : Nat) (a0 a1 a2 a3 a4 a5 a6 : Int) (a7 : ByteArray) : Option (ByteArray × Int) :=
  if ¬ (0 ≤ a0 ∧ a0 ≤ 255 ∧ 0 ≤ a3 ∧ a3 ≤ 255 ∧ 0 ≤ a4 ∧ a4 ≤ 255 ∧ 0 ≤ a1 ∧ a1 ≤ 65535 ∧ 0 ≤ a2 ∧ a2 ≤ 65535) then some (⟨#[]⟩, 2) else if (a7.size : Int) > 65515 then some (⟨#[]⟩, 8) else
  (ipv4_Sum.f k (strOfNums (ipv4_Build.hd a0 a1 a2 a3 a4 a5 a6 (20 + a7.size) 0))).bind fun s => some (strOfNums (ipv4_Build.hd a0 a1 a2 a3 a4 a5 a6 (20 + a7.size) s) ++ a7, 0)
theorem ipv4_Build.mono : ∀ a0 a1 a2 a3 a4 a5 a6 a7 k, LeO (ipv4_Build.f k a0 a1 a2 a3 a4 a5 a6 a7) (ipv4_Build.f (k + 1) a0 a1 a2 a3 a4 a5 a6 a7) := by
  intro a0 a1 a2 a3 a4 a5 a6 a7 k
  unfold ipv4_Build.f
  exact LeO.ite (LeO.refl _) (LeO.ite (LeO.refl _) (LeO.bind (ipv4_Sum.mono _ _) (fun _ => LeO.refl _)))
set_option maxHeartbeats 8000000 in
set_option maxRecDepth 100000 in
theorem ipv4_Build.calls (k : Nat) (a0 a1 a2 a3 a4 a5 a6 : Int) (a7 : ByteArray) (r1 : ByteArray) (r2 : Int) (w : World) (h : ipv4_Build.f k a0 a1 a2 a3 a4 a5 a6 a7 = some (r1, r2)) :
    Calls Try.prog 13 #[.agg #[.int .i64 a0, .int .i64 a1, .int .i64 a2, .int .i64 a3, .int .i64 a4, .int .u32 a5, .int .u32 a6, .string a7]] w fun e w' => e = .returned (.tuple #[.string r1, .int .i64 r2]) ∧ Below w.heap.size w w' := by
  unfold ipv4_Build.f at h
  have HH := Aside0.mk h
  clear h
  have ix0 : ∀ w, (Instr.index 55 (.agg #[.int .i64 a0, .int .i64 a3, .int .i64 a4]) (.int .i64 0)).run Try.prog w = .ok (.int .i64 a0) w := fun _ => by kernel_rfl
  have ix1 : ∀ w, (Instr.index 55 (.agg #[.int .i64 a0, .int .i64 a3, .int .i64 a4]) (.int .i64 1)).run Try.prog w = .ok (.int .i64 a3) w := fun _ => by kernel_rfl
  have ix2 : ∀ w, (Instr.index 55 (.agg #[.int .i64 a0, .int .i64 a3, .int .i64 a4]) (.int .i64 2)).run Try.prog w = .ok (.int .i64 a4) w := fun _ => by kernel_rfl
  have hmk : ∀ w : World, (Instr.makeSlice 31 (.int .i64 20) (.int .i64 20)).run Try.prog w = .ok (.slice (some ⟨w.heap.size, 0, none⟩) 20 20) (w.alloc (.cells #[.int .u8 0, .int .u8 0, .int .u8 0, .int .u8 0, .int .u8 0, .int .u8 0, .int .u8 0, .int .u8 0, .int .u8 0, .int .u8 0, .int .u8 0, .int .u8 0, .int .u8 0, .int .u8 0, .int .u8 0, .int .u8 0, .int .u8 0, .int .u8 0, .int .u8 0, .int .u8 0] 5)) := fun _ => by kernel_rfl
  go_enter_defers Try.func13, Try.ntmps13
  go_wp2_with (fail)
  refine wp_loop_rounds 4 ?_
  rw [rounds_succ]
  by_cases pa : 0 ≤ a0
  rotate_left
  · have P1 : decide (0 ≤ a0) = false := decide_eq_false pa
    have h := HH.out
    clear HH
    rw [if_pos (fun hh => pa (by omega))] at h
    clear pa
    go_wp2_with (fail)
    go_at_call 25
    (with_reducible refine (Hand.check_any _ _ _).mono ?_)
    rintro e w' (⟨hb, rfl, rfl⟩ | ⟨hb, rfl, rfl⟩)
    rotate_left
    · exact absurd hb (by simp)
    clear hb
    obtain ⟨rfl, rfl⟩ := Prod.mk.inj (Option.some.inj h)
    go_wp2_with (fail)
    refine leaves_cons (f := 24) (args := #[.pointer (some ⟨w.heap.size + 1, 0, none⟩)]) (by simp) (by simp [go_sem]) ?_
    refine (Hand.caught_panicking ⟨w.heap.size + 1, 0, none⟩ 0 _ [] _ ?_ ?_).mono ?_
    · simp [go_sem]
    · simp [go_sem]
    rintro e u' w'' ⟨rfl, rfl, rfl⟩
    simp [Leaves, settle, results, Try.results13, go_sem]
    repeat (first | exact Below.refl _ _ | apply below_alloc | apply pw_below_drewN | apply below_drew1 | refine below_set ?_ (Nat.le_succ _))
  have P1 : decide (0 ≤ a0) = true := decide_eq_true pa
  have pa' := Aside0.mk pa
  clear pa
  go_wp2_with (fail)
  go_at_call 25
  (with_reducible refine (Hand.check_any _ _ _).mono ?_)
  rintro e w' (⟨hb, rfl, rfl⟩ | ⟨hb, rfl, rfl⟩)
  · have h := HH.out
    clear HH
    rw [if_pos (fun hh => (of_decide_eq_false hb) (by omega))] at h
    clear hb
    obtain ⟨rfl, rfl⟩ := Prod.mk.inj (Option.some.inj h)
    go_wp2_with (fail)
    refine leaves_cons (f := 24) (args := #[.pointer (some ⟨w.heap.size + 1, 0, none⟩)]) (by simp) (by simp [go_sem]) ?_
    refine (Hand.caught_panicking ⟨w.heap.size + 1, 0, none⟩ 0 _ [] _ ?_ ?_).mono ?_
    · simp [go_sem]
    · simp [go_sem]
    rintro e u' w'' ⟨rfl, rfl, rfl⟩
    simp [Leaves, settle, results, Try.results13, go_sem]
    repeat (first | exact Below.refl _ _ | apply below_alloc | apply pw_below_drewN | apply below_drew1 | refine below_set ?_ (Nat.le_succ _))
  have qa' := Aside0.mk (of_decide_eq_true hb)
  clear hb P1
  go_wp2_with (fail)
  rw [rounds_succ]
  by_cases pb : 0 ≤ a3
  rotate_left
  · have P1 : decide (0 ≤ a3) = false := decide_eq_false pb
    have h := HH.out
    clear HH
    rw [if_pos (fun hh => pb (by omega))] at h
    clear pb
    go_wp2_with (fail)
    go_at_call 25
    (with_reducible refine (Hand.check_any _ _ _).mono ?_)
    rintro e w' (⟨hb, rfl, rfl⟩ | ⟨hb, rfl, rfl⟩)
    rotate_left
    · exact absurd hb (by simp)
    clear hb
    obtain ⟨rfl, rfl⟩ := Prod.mk.inj (Option.some.inj h)
    go_wp2_with (fail)
    refine leaves_cons (f := 24) (args := #[.pointer (some ⟨w.heap.size + 1, 0, none⟩)]) (by simp) (by simp [go_sem]) ?_
    refine (Hand.caught_panicking ⟨w.heap.size + 1, 0, none⟩ 0 _ [] _ ?_ ?_).mono ?_
    · simp [go_sem]
    · simp [go_sem]
    rintro e u' w'' ⟨rfl, rfl, rfl⟩
    simp [Leaves, settle, results, Try.results13, go_sem]
    repeat (first | exact Below.refl _ _ | apply below_alloc | apply pw_below_drewN | apply below_drew1 | refine below_set ?_ (Nat.le_succ _))
  have P1 : decide (0 ≤ a3) = true := decide_eq_true pb
  have pb' := Aside0.mk pb
  clear pb
  go_wp2_with (fail)
  go_at_call 25
  (with_reducible refine (Hand.check_any _ _ _).mono ?_)
  rintro e w' (⟨hb, rfl, rfl⟩ | ⟨hb, rfl, rfl⟩)
  · have h := HH.out
    clear HH
    rw [if_pos (fun hh => (of_decide_eq_false hb) (by omega))] at h
    clear hb
    obtain ⟨rfl, rfl⟩ := Prod.mk.inj (Option.some.inj h)
    go_wp2_with (fail)
    refine leaves_cons (f := 24) (args := #[.pointer (some ⟨w.heap.size + 1, 0, none⟩)]) (by simp) (by simp [go_sem]) ?_
    refine (Hand.caught_panicking ⟨w.heap.size + 1, 0, none⟩ 0 _ [] _ ?_ ?_).mono ?_
    · simp [go_sem]
    · simp [go_sem]
    rintro e u' w'' ⟨rfl, rfl, rfl⟩
    simp [Leaves, settle, results, Try.results13, go_sem]
    repeat (first | exact Below.refl _ _ | apply below_alloc | apply pw_below_drewN | apply below_drew1 | refine below_set ?_ (Nat.le_succ _))
  have qb' := Aside0.mk (of_decide_eq_true hb)
  clear hb P1
  go_wp2_with (fail)
  rw [rounds_succ]
  by_cases pc : 0 ≤ a4
  rotate_left
  · have P1 : decide (0 ≤ a4) = false := decide_eq_false pc
    have h := HH.out
    clear HH
    rw [if_pos (fun hh => pc (by omega))] at h
    clear pc
    go_wp2_with (fail)
    go_at_call 25
    (with_reducible refine (Hand.check_any _ _ _).mono ?_)
    rintro e w' (⟨hb, rfl, rfl⟩ | ⟨hb, rfl, rfl⟩)
    rotate_left
    · exact absurd hb (by simp)
    clear hb
    obtain ⟨rfl, rfl⟩ := Prod.mk.inj (Option.some.inj h)
    go_wp2_with (fail)
    refine leaves_cons (f := 24) (args := #[.pointer (some ⟨w.heap.size + 1, 0, none⟩)]) (by simp) (by simp [go_sem]) ?_
    refine (Hand.caught_panicking ⟨w.heap.size + 1, 0, none⟩ 0 _ [] _ ?_ ?_).mono ?_
    · simp [go_sem]
    · simp [go_sem]
    rintro e u' w'' ⟨rfl, rfl, rfl⟩
    simp [Leaves, settle, results, Try.results13, go_sem]
    repeat (first | exact Below.refl _ _ | apply below_alloc | apply pw_below_drewN | apply below_drew1 | refine below_set ?_ (Nat.le_succ _))
  have P1 : decide (0 ≤ a4) = true := decide_eq_true pc
  have pc' := Aside0.mk pc
  clear pc
  go_wp2_with (fail)
  go_at_call 25
  (with_reducible refine (Hand.check_any _ _ _).mono ?_)
  rintro e w' (⟨hb, rfl, rfl⟩ | ⟨hb, rfl, rfl⟩)
  · have h := HH.out
    clear HH
    rw [if_pos (fun hh => (of_decide_eq_false hb) (by omega))] at h
    clear hb
    obtain ⟨rfl, rfl⟩ := Prod.mk.inj (Option.some.inj h)
    go_wp2_with (fail)
    refine leaves_cons (f := 24) (args := #[.pointer (some ⟨w.heap.size + 1, 0, none⟩)]) (by simp) (by simp [go_sem]) ?_
    refine (Hand.caught_panicking ⟨w.heap.size + 1, 0, none⟩ 0 _ [] _ ?_ ?_).mono ?_
    · simp [go_sem]
    · simp [go_sem]
    rintro e u' w'' ⟨rfl, rfl, rfl⟩
    simp [Leaves, settle, results, Try.results13, go_sem]
    repeat (first | exact Below.refl _ _ | apply below_alloc | apply pw_below_drewN | apply below_drew1 | refine below_set ?_ (Nat.le_succ _))
  have qc' := Aside0.mk (of_decide_eq_true hb)
  clear hb P1
  go_wp2_with (fail)
  rw [rounds_succ]
  by_cases pd : 0 ≤ a1
  rotate_left
  · have P1 : decide (0 ≤ a1) = false := decide_eq_false pd
    have h := HH.out
    clear HH
    rw [if_pos (fun hh => pd (by omega))] at h
    clear pd
    go_wp2_with (fail)
    go_at_call 25
    (with_reducible refine (Hand.check_any _ _ _).mono ?_)
    rintro e w' (⟨hb, rfl, rfl⟩ | ⟨hb, rfl, rfl⟩)
    rotate_left
    · exact absurd hb (by simp)
    clear hb
    obtain ⟨rfl, rfl⟩ := Prod.mk.inj (Option.some.inj h)
    go_wp2_with (fail)
    refine leaves_cons (f := 24) (args := #[.pointer (some ⟨w.heap.size + 1, 0, none⟩)]) (by simp) (by simp [go_sem]) ?_
    refine (Hand.caught_panicking ⟨w.heap.size + 1, 0, none⟩ 0 _ [] _ ?_ ?_).mono ?_
    · simp [go_sem]
    · simp [go_sem]
    rintro e u' w'' ⟨rfl, rfl, rfl⟩
    simp [Leaves, settle, results, Try.results13, go_sem]
    repeat (first | exact Below.refl _ _ | apply below_alloc | apply pw_below_drewN | apply below_drew1 | refine below_set ?_ (Nat.le_succ _))
  have Pd : decide (0 ≤ a1) = true := decide_eq_true pd
  have pd' := Aside0.mk pd
  clear pd
  by_cases pe : a1 ≤ 65535
  rotate_left
  · have P1 : decide (a1 ≤ 65535) = false := decide_eq_false pe
    have h := HH.out
    clear HH
    rw [if_pos (fun hh => pe (by omega))] at h
    clear pe
    go_wp2_with (fail)
    go_at_call 25
    (with_reducible refine (Hand.check_any _ _ _).mono ?_)
    rintro e w' (⟨hb, rfl, rfl⟩ | ⟨hb, rfl, rfl⟩)
    rotate_left
    · exact absurd hb (by simp)
    clear hb
    obtain ⟨rfl, rfl⟩ := Prod.mk.inj (Option.some.inj h)
    go_wp2_with (fail)
    refine leaves_cons (f := 24) (args := #[.pointer (some ⟨w.heap.size + 1, 0, none⟩)]) (by simp) (by simp [go_sem]) ?_
    refine (Hand.caught_panicking ⟨w.heap.size + 1, 0, none⟩ 0 _ [] _ ?_ ?_).mono ?_
    · simp [go_sem]
    · simp [go_sem]
    rintro e u' w'' ⟨rfl, rfl, rfl⟩
    simp [Leaves, settle, results, Try.results13, go_sem]
    repeat (first | exact Below.refl _ _ | apply below_alloc | apply pw_below_drewN | apply below_drew1 | refine below_set ?_ (Nat.le_succ _))
  have Pe : decide (a1 ≤ 65535) = true := decide_eq_true pe
  have pe' := Aside0.mk pe
  clear pe
  by_cases pf : 0 ≤ a2
  rotate_left
  · have P1 : decide (0 ≤ a2) = false := decide_eq_false pf
    have h := HH.out
    clear HH
    rw [if_pos (fun hh => pf (by omega))] at h
    clear pf
    go_wp2_with (fail)
    go_at_call 25
    (with_reducible refine (Hand.check_any _ _ _).mono ?_)
    rintro e w' (⟨hb, rfl, rfl⟩ | ⟨hb, rfl, rfl⟩)
    rotate_left
    · exact absurd hb (by simp)
    clear hb
    obtain ⟨rfl, rfl⟩ := Prod.mk.inj (Option.some.inj h)
    go_wp2_with (fail)
    refine leaves_cons (f := 24) (args := #[.pointer (some ⟨w.heap.size + 1, 0, none⟩)]) (by simp) (by simp [go_sem]) ?_
    refine (Hand.caught_panicking ⟨w.heap.size + 1, 0, none⟩ 0 _ [] _ ?_ ?_).mono ?_
    · simp [go_sem]
    · simp [go_sem]
    rintro e u' w'' ⟨rfl, rfl, rfl⟩
    simp [Leaves, settle, results, Try.results13, go_sem]
    repeat (first | exact Below.refl _ _ | apply below_alloc | apply pw_below_drewN | apply below_drew1 | refine below_set ?_ (Nat.le_succ _))
  have Pf : decide (0 ≤ a2) = true := decide_eq_true pf
  have pf' := Aside0.mk pf
  clear pf
  go_wp2_with (fail)
  go_at_call 25
  (with_reducible refine (Hand.check_any _ _ _).mono ?_)
  rintro e w' (⟨hb, rfl, rfl⟩ | ⟨hb, rfl, rfl⟩)
  · have h := HH.out
    clear HH
    rw [if_pos (fun hh => (of_decide_eq_false hb) (by omega))] at h
    clear hb
    obtain ⟨rfl, rfl⟩ := Prod.mk.inj (Option.some.inj h)
    go_wp2_with (fail)
    refine leaves_cons (f := 24) (args := #[.pointer (some ⟨w.heap.size + 1, 0, none⟩)]) (by simp) (by simp [go_sem]) ?_
    refine (Hand.caught_panicking ⟨w.heap.size + 1, 0, none⟩ 0 _ [] _ ?_ ?_).mono ?_
    · simp [go_sem]
    · simp [go_sem]
    rintro e u' w'' ⟨rfl, rfl, rfl⟩
    simp [Leaves, settle, results, Try.results13, go_sem]
    repeat (first | exact Below.refl _ _ | apply below_alloc | apply pw_below_drewN | apply below_drew1 | refine below_set ?_ (Nat.le_succ _))
  have pg' := Aside0.mk (of_decide_eq_true hb)
  clear hb Pd Pe Pf
  have h := HH.out
  clear HH
  rw [if_neg (fun hh => hh ⟨pa'.out, qa'.out, pb'.out, qb'.out, pc'.out, qc'.out, pd'.out, pe'.out, pf'.out, pg'.out⟩)] at h
  have HH := Aside0.mk h
  clear h
  go_wp2_with (fail)
  go_at_call 25
  (with_reducible refine (Hand.check_any _ _ _).mono ?_)
  rintro e w' (⟨hb, rfl, rfl⟩ | ⟨hb, rfl, rfl⟩)
  · have h := HH.out
    clear HH
    rw [if_pos (by have := of_decide_eq_false hb; omega)] at h
    clear hb
    obtain ⟨rfl, rfl⟩ := Prod.mk.inj (Option.some.inj h)
    go_wp2_with (fail)
    refine leaves_cons (f := 24) (args := #[.pointer (some ⟨w.heap.size + 1, 0, none⟩)]) (by simp) (by simp [go_sem]) ?_
    refine (Hand.caught_panicking ⟨w.heap.size + 1, 0, none⟩ 0 _ [] _ ?_ ?_).mono ?_
    · simp [go_sem]
    · simp [go_sem]
    rintro e u' w'' ⟨rfl, rfl, rfl⟩
    simp [Leaves, settle, results, Try.results13, go_sem]
    repeat (first | exact Below.refl _ _ | apply below_alloc | apply pw_below_drewN | apply below_drew1 | refine below_set ?_ (Nat.le_succ _))
  have ph := Aside0.mk (of_decide_eq_true hb)
  clear hb
  have h := HH.out
  clear HH
  rw [if_neg (by have := ph.out; omega)] at h
  obtain ⟨s, hs, h⟩ := Option.bind_eq_some_iff.1 h
  obtain ⟨rfl, rfl⟩ := Prod.mk.inj (Option.some.inj h)
  have HS := Aside0.mk hs
  clear h hs
  have wa0 : IntKind.u8.wrap a0 = a0 := IntWalk.u8_in _ ⟨pa'.out, qa'.out⟩
  have wa3 : IntKind.u8.wrap a3 = a3 := IntWalk.u8_in _ ⟨pb'.out, qb'.out⟩
  have wa4 : IntKind.u8.wrap a4 = a4 := IntWalk.u8_in _ ⟨pc'.out, qc'.out⟩
  have hN1 : wrap64 (20 + (a7.size : Int)) = 20 + (a7.size : Int) := by have := ph.out; unfold wrap64; omega
  have hN2 : IntKind.i64.wrap (20 + (a7.size : Int)) = 20 + (a7.size : Int) := (i64_w _).trans hN1
  have hN3 : (20 + (a7.size : Int)) % 4294967296 = 20 + (a7.size : Int) := by have := ph.out; omega
  have hN4 : a1 % 4294967296 = a1 := by have := pd'.out; have := pe'.out; omega
  have hN5 : a2 % 4294967296 = a2 := by have := pf'.out; have := pg'.out; omega
  go_wp2_with (fail)
  refine Calm.wp_region_calm_then (fun w' : World => w'.cell? ⟨w.heap.size, 0, none⟩ = some (.int .i64 a0) ∧ w'.cell? ⟨w.heap.size, 3, none⟩ = some (.int .i64 a3) ∧ w'.cell? ⟨w.heap.size, 4, none⟩ = some (.int .i64 a4)) [0, 1, 2, 3, 4, 5, 6, 7, 8, 9, 10, 11, 12, 13] [14, 15, 16, 17, 18, 19, 20] (by kernel_rfl) (by kernel_rfl) (by exact ⟨by go_simp, by go_simp, by go_simp⟩) ?_
  repeat (first
    | (refine Calm.value_ (v := ?_) (a' := ?_) rfl rfl (by rfl) ?_ ?_ ?_; rotate_left; (· rintro w' ⟨s0, s3, s4⟩; go_simp; with_reducible rfl); rotate_left; (· simp only [Act.put, List.setIfInBounds_toArray, List.set_cons_zero, List.set_cons_succ, i64_w, i32_w]; rfl)))
  refine Calm.nil_ ?_
  (refine Calm.t_store (w1 := ?_) rfl (by rfl) rfl ?_ ?_ ?_; rotate_left; (· go_simp; rfl); (· exact ⟨by go_simp, by go_simp, by go_simp⟩))
  (refine Calm.t_value (v := ?_) (w1 := ?_) (a' := ?_) rfl rfl (by rfl) ?_ ?_ ?_ ?_; rotate_left; rotate_left; (· go_simp; first | (refine And.intro ?_ ?_ <;> rfl) | rfl); (· exact ⟨by go_simp, by go_simp, by go_simp⟩); rotate_left; (· simp only [Act.put, List.setIfInBounds_toArray, List.set_cons_zero, List.set_cons_succ, i64_w, i32_w]; rfl))
  (refine Calm.t_store (w1 := ?_) rfl (by rfl) rfl ?_ ?_ ?_; rotate_left; (· go_simp; rfl); (· exact ⟨by go_simp, by go_simp, by go_simp⟩))
  (refine Calm.t_value (v := ?_) (w1 := ?_) (a' := ?_) rfl rfl (by rfl) ?_ ?_ ?_ ?_; rotate_left; rotate_left; (· go_simp; first | (refine And.intro ?_ ?_ <;> rfl) | rfl); (· exact ⟨by go_simp, by go_simp, by go_simp⟩); rotate_left; (· simp only [Act.put, List.setIfInBounds_toArray, List.set_cons_zero, List.set_cons_succ, i64_w, i32_w]; rfl))
  (refine Calm.t_store (w1 := ?_) rfl (by rfl) rfl ?_ ?_ ?_; rotate_left; (· go_simp; rfl); (· exact ⟨by go_simp, by go_simp, by go_simp⟩))
  (refine Calm.t_value (v := ?_) (w1 := ?_) (a' := ?_) rfl rfl (by rfl) ?_ ?_ ?_ ?_; rotate_left; rotate_left; (· go_simp; first | (refine And.intro ?_ ?_ <;> rfl) | rfl); (· exact ⟨by go_simp, by go_simp, by go_simp⟩); rotate_left; (· simp only [Act.put, List.setIfInBounds_toArray, List.set_cons_zero, List.set_cons_succ, i64_w, i32_w]; rfl))
  (refine Calm.t_store (w1 := ?_) rfl (by rfl) rfl ?_ ?_ ?_; rotate_left; (· go_simp; rfl); (· exact ⟨by go_simp, by go_simp, by go_simp⟩))
  refine Calm.t_nil ?_
  go_wp2_with (fail)
  refine wp_region_still_tail 7 (by kernel_rfl) (by kernel_rfl) ?_
  change wpStill _ _ (World.drew _) (fun a' => wpList _ _ _ _ a' (World.drew _)) _ _
  simp only [List.take_succ_cons, List.take_zero, List.drop_succ_cons, List.drop_zero]
  repeat still_step
  refine wpStill_nil ?_
  go_wp2_with (fail)
  go_at_call 26
  (with_reducible refine (ipv4_put.two _ _ _ _ 0 0 _ ?_ ?_ ?_ ?_ ).mono ?_)
  · (go_simp; first | done | rfl)
  · (go_simp; first | done | rfl)
  · (go_simp; first | done | rfl)
  · (go_simp; first | done | rfl)
  rintro e w' ⟨rfl, rfl⟩
  go_wp2_with (fail)
  refine wp_region_still_tail 5 (by kernel_rfl) (by kernel_rfl) ?_
  change wpStill _ _ (World.drew _) (fun a' => wpList _ _ _ _ a' (World.drew _)) _ _
  simp only [List.take_succ_cons, List.take_zero, List.drop_succ_cons, List.drop_zero]
  repeat still_step
  refine wpStill_nil ?_
  go_wp2_with (fail)
  go_at_call 26
  (with_reducible refine (ipv4_put.two _ _ _ _ 0 0 _ ?_ ?_ ?_ ?_ ).mono ?_)
  · (go_simp; first | done | rfl)
  · (go_simp; first | done | rfl)
  · (go_simp; first | done | rfl)
  · (go_simp; first | done | rfl)
  rintro e w' ⟨rfl, rfl⟩
  go_wp2_with (fail)
  refine wp_region_still_tail 5 (by kernel_rfl) (by kernel_rfl) ?_
  change wpStill _ _ (World.drew _) (fun a' => wpList _ _ _ _ a' (World.drew _)) _ _
  simp only [List.take_succ_cons, List.take_zero, List.drop_succ_cons, List.drop_zero]
  repeat still_step
  refine wpStill_nil ?_
  go_wp2_with (fail)
  go_at_call 26
  (with_reducible refine (ipv4_put.two _ _ _ _ 0 0 _ ?_ ?_ ?_ ?_ ).mono ?_)
  · (go_simp; first | done | rfl)
  · (go_simp; first | done | rfl)
  · (go_simp; first | done | rfl)
  · (go_simp; first | done | rfl)
  rintro e w' ⟨rfl, rfl⟩
  go_wp2_with (fail)
  refine wp_region_still_tail 4 (by kernel_rfl) (by kernel_rfl) ?_
  change wpStill _ _ (World.drew _) (fun a' => wpList _ _ _ _ a' (World.drew _)) _ _
  simp only [List.take_succ_cons, List.take_zero, List.drop_succ_cons, List.drop_zero]
  repeat still_step
  refine wpStill_nil ?_
  go_wp2_with (fail)
  go_at_call 26
  (with_reducible refine (ipv4_put.four _ _ _ _ 0 0 0 0 _ ?_ ?_ ?_ ?_ ?_ ?_ ?_ ?_ ).mono ?_)
  · (go_simp; first | done | rfl)
  · (go_simp; first | done | rfl)
  · (go_simp; first | done | rfl)
  · (go_simp; first | done | rfl)
  · (go_simp; first | done | rfl)
  · (go_simp; first | done | rfl)
  · (go_simp; first | done | rfl)
  · (go_simp; first | done | rfl)
  rintro e w' ⟨rfl, rfl⟩
  go_wp2_with (fail)
  refine wp_region_still_tail 4 (by kernel_rfl) (by kernel_rfl) ?_
  change wpStill _ _ (World.drew _) (fun a' => wpList _ _ _ _ a' (World.drew _)) _ _
  simp only [List.take_succ_cons, List.take_zero, List.drop_succ_cons, List.drop_zero]
  repeat still_step
  refine wpStill_nil ?_
  go_wp2_with (fail)
  go_at_call 26
  (with_reducible refine (ipv4_put.four _ _ _ _ 0 0 0 0 _ ?_ ?_ ?_ ?_ ?_ ?_ ?_ ?_ ).mono ?_)
  · (go_simp; first | done | rfl)
  · (go_simp; first | done | rfl)
  · (go_simp; first | done | rfl)
  · (go_simp; first | done | rfl)
  · (go_simp; first | done | rfl)
  · (go_simp; first | done | rfl)
  · (go_simp; first | done | rfl)
  · (go_simp; first | done | rfl)
  rintro e w' ⟨rfl, rfl⟩
  go_wp2_with (fail)
  refine Conv.wp_world (fun W => W.heap[w.heap.size + 1 + 1]? = some (.cells (([69, a0, (20 + (a7.size : Int)) / 256 % 256, (20 + (a7.size : Int)) % 256, a1 / 256 % 256, a1 % 256, a2 / 256 % 256, a2 % 256, a3, a4, 0, 0, a5 / 16777216 % 256, a5 / 65536 % 256, a5 / 256 % 256, a5 % 256, a6 / 16777216 % 256, a6 / 65536 % 256, a6 / 256 % 256, a6 % 256] : List Int).map fun x => Value.int .u8 x).toArray 5 (0, 0)) ∧ W.cell? ⟨w.heap.size, 7, none⟩ = some (.string a7) ∧ W.cell? ⟨w.heap.size + 1, 0, none⟩ = some (.int .i64 0) ∧ W.frozen? ⟨w.heap.size + 1, 0, none⟩ = false ∧ Below w.heap.size w W) ⟨?_, ?_, ?_, ?_, ?_⟩ ?_
  · (with_reducible repeat refine blk_drew ?_); exact Conv.blk_new_at _ _ (by go_simp)
  · go_simp
  · go_simp
  · go_simp
  · repeat (first | exact Below.refl _ _ | apply below_alloc | apply pw_below_drewN | apply below_drew1 | refine below_set ?_ (Nat.le_succ _))
  rintro W ⟨bk, hb7, he0, hf0, hBW⟩
  have HBW := Aside0.mk hBW
  have BK := Aside0.mk bk
  have hcv : ∀ W' : World, W'.heap[w.heap.size + 1 + 1]? = some (.cells (([69, a0, (20 + (a7.size : Int)) / 256 % 256, (20 + (a7.size : Int)) % 256, a1 / 256 % 256, a1 % 256, a2 / 256 % 256, a2 % 256, a3, a4, 0, 0, a5 / 16777216 % 256, a5 / 65536 % 256, a5 / 256 % 256, a5 % 256, a6 / 16777216 % 256, a6 / 65536 % 256, a6 / 256 % 256, a6 % 256] : List Int).map fun x => Value.int .u8 x).toArray 5 (0, 0)) → (convert 31 9 (.slice (some ⟨w.heap.size + 1 + 1, 0, none⟩) 20 20)).run Try.prog W' = .ok (.string (strOfNums [69, a0, (20 + (a7.size : Int)) / 256 % 256, (20 + (a7.size : Int)) % 256, a1 / 256 % 256, a1 % 256, a2 / 256 % 256, a2 % 256, a3, a4, 0, 0, a5 / 16777216 % 256, a5 / 65536 % 256, a5 / 256 % 256, a5 % 256, a6 / 16777216 % 256, a6 / 65536 % 256, a6 / 256 % 256, a6 % 256])) W' := fun W' h => Conv.string_blk [69, a0, (20 + (a7.size : Int)) / 256 % 256, (20 + (a7.size : Int)) % 256, a1 / 256 % 256, a1 % 256, a2 / 256 % 256, a2 % 256, a3, a4, 0, 0, a5 / 16777216 % 256, a5 / 65536 % 256, a5 / 256 % 256, a5 % 256, a6 / 16777216 % 256, a6 / 65536 % 256, a6 / 256 % 256, a6 % 256] h rfl (by omega) Try.underlying31 Try.underlying5 Try.underlying9
  clear hBW
  have hs0 : ipv4_Build.hd a0 a1 a2 a3 a4 a5 a6 (20 + a7.size) 0 = [69, a0, (20 + (a7.size : Int)) / 256 % 256, (20 + (a7.size : Int)) % 256, a1 / 256 % 256, a1 % 256, a2 / 256 % 256, a2 % 256, a3, a4, 0, 0, a5 / 16777216 % 256, a5 / 65536 % 256, a5 / 256 % 256, a5 % 256, a6 / 16777216 % 256, a6 / 65536 % 256, a6 / 256 % 256, a6 % 256] := by simp [ipv4_Build.hd]
  have HS2 := HS.out
  rw [hs0] at HS2
  have HS3 := Aside0.mk HS2
  clear HS HS2 hs0
  refine wp_region_still_tail 6 (by kernel_rfl) (by kernel_rfl) ?_
  change wpStill _ _ (World.drew _) (fun a' => wpList _ _ _ _ a' (World.drew _)) _ _
  simp only [List.take_succ_cons, List.take_zero, List.drop_succ_cons, List.drop_zero]
  have hcv2 := hcv W.drew bk
  clear hcv bk
  repeat (first | still_step | (still_call ((ipv4_Sum.same k _ _ _ HS3.out).mono fun _ _ ⟨h1, h2⟩ => ⟨h1, h2.symm⟩)))
  refine wpStill_nil ?_
  have bk := BK.out
  have x10 : W.cell? ⟨w.heap.size + 1 + 1, 10, none⟩ = some (.int .u8 0) := (blk_cell bk 10).trans rfl
  have x11 : W.cell? ⟨w.heap.size + 1 + 1, 11, none⟩ = some (.int .u8 0) := (blk_cell bk 11).trans rfl
  have z10 := blk_frozen bk 10
  have z11 := blk_frozen bk 11
  clear hcv2 bk
  go_wp2_with (fail)
  go_at_call 26
  (with_reducible refine (ipv4_put.two _ _ _ _ 0 0 _ ?_ ?_ ?_ ?_).mono ?_)
  · (go_simp; first | done | rfl)
  · (go_simp; first | done | rfl)
  · (go_simp; first | done | rfl)
  · (go_simp; first | done | rfl)
  rintro e w' ⟨rfl, rfl⟩
  clear x10 x11 z10 z11
  have hs1 : s % 4294967296 / 256 % 256 = s / 256 % 256 := by omega
  obtain ⟨T, hT⟩ : ∃ T, strOfNums (ipv4_Build.hd a0 a1 a2 a3 a4 a5 a6 (20 + (a7.size : Int)) s) = T := ⟨_, rfl⟩
  have bk1 : ((W.setCell ⟨w.heap.size + 1 + 1, 10, none⟩ (.int .u8 (s / 256 % 256))).setCell ⟨w.heap.size + 1 + 1, 11, none⟩ (.int .u8 (s % 256))).drew.heap[w.heap.size + 1 + 1]? = some (.cells (([69, a0, (20 + (a7.size : Int)) / 256 % 256, (20 + (a7.size : Int)) % 256, a1 / 256 % 256, a1 % 256, a2 / 256 % 256, a2 % 256, a3, a4, s / 256 % 256, s % 256, a5 / 16777216 % 256, a5 / 65536 % 256, a5 / 256 % 256, a5 % 256, a6 / 16777216 % 256, a6 / 65536 % 256, a6 / 256 % 256, a6 % 256] : List Int).map fun x => Value.int .u8 x).toArray 5 (0, 0)) := blk_drew (blk_put (blk_put BK.out 10 _ rfl) 11 _ rfl)
  have hcv3 : (convert 31 9 (.slice (some ⟨w.heap.size + 1 + 1, 0, none⟩) 20 20)).run Try.prog ((W.setCell ⟨w.heap.size + 1 + 1, 10, none⟩ (.int .u8 (s / 256 % 256))).setCell ⟨w.heap.size + 1 + 1, 11, none⟩ (.int .u8 (s % 256))).drew = .ok (.string T) ((W.setCell ⟨w.heap.size + 1 + 1, 10, none⟩ (.int .u8 (s / 256 % 256))).setCell ⟨w.heap.size + 1 + 1, 11, none⟩ (.int .u8 (s % 256))).drew := by
    rw [← hT]
    exact Conv.string_blk [69, a0, (20 + (a7.size : Int)) / 256 % 256, (20 + (a7.size : Int)) % 256, a1 / 256 % 256, a1 % 256, a2 / 256 % 256, a2 % 256, a3, a4, s / 256 % 256, s % 256, a5 / 16777216 % 256, a5 / 65536 % 256, a5 / 256 % 256, a5 % 256, a6 / 16777216 % 256, a6 / 65536 % 256, a6 / 256 % 256, a6 % 256] bk1 rfl (by omega) Try.underlying31 Try.underlying5 Try.underlying9
  have hsz : (9223372036854775807 < T.size + a7.size) = False := by
    have hl : T.size = 20 := by rw [← hT, strOfNums_size]; rfl
    have := ph.out
    exact eq_false (by omega)
  have HT := Aside0.mk hT
  clear bk1 hT
  go_wp2_with (fail)
  refine leaves_cons (f := 24) (args := #[.pointer (some ⟨w.heap.size + 1, 0, none⟩)]) (by simp) (by simp [go_sem]) ?_
  refine (Hand.caught_idle ⟨w.heap.size + 1, 0, none⟩ _).mono ?_
  rintro e u' w'' ⟨rfl, rfl, rfl⟩
  rw [HT.out]
  simp [Leaves, settle, results, Try.results13, go_sem, he0, hf0]
  repeat (first | exact HBW.out | apply pw_below_drewN | apply below_drew1 | refine below_set ?_ (by omega))

/-! ### ipv4_get: function 27 -/
def ipv4_get.l0 : Nat → ByteArray → Int → Int → Int → Option (Int)
  | 0, _, _, _, _ => none
  | k + 1, x0, x2, x5, x6 => if x6 < x5 then (if 0 ≤ x6 then (if x6 < (x0.size : Int) then (ipv4_get.l0 k x0 (Go.bits .or .u32 ((x2 * 256) % 4294967296) ((bt x0 x6) % 4294967296)) x5 (wrap64 (x6 + 1))) else (none)) else (none)) else (some x2)
def ipv4_get.f (k : Nat) (a0 : ByteArray) : Option (Int) := ipv4_get.l0 k a0 0 (a0.size : Int) 0
theorem ipv4_get.mono_l : ∀ k, (∀ y0 y1 y2 y3, LeO (ipv4_get.l0 k y0 y1 y2 y3) (ipv4_get.l0 (k + 1) y0 y1 y2 y3))
  | 0 => fun _ _ _ _ r h => by simp [ipv4_get.l0] at h
  | k + 1 => by
    have ih0 := ipv4_get.mono_l k
    · intro y0 y1 y2 y3
      unfold ipv4_get.l0
      repeat' first
      | (with_reducible exact ih0 _ _ _ _)
      | (with_reducible exact LeO.refl _)
      | (with_reducible exact LeO.none _)
      | (with_reducible refine LeO.ite ?_ ?_)
      | (with_reducible refine LeO.bind ?_ (fun _ => ?_))
      | exact ih0 _ _ _ _
      | exact LeO.none _
      | refine LeO.ite ?_ ?_
      | refine LeO.bind ?_ (fun _ => ?_)
theorem ipv4_get.mono : ∀ a0 k, LeO (ipv4_get.f k a0) (ipv4_get.f (k + 1) a0) := by
  intro a0 k
  have ih0 := ipv4_get.mono_l k
  unfold ipv4_get.f
  repeat' first
      | (with_reducible exact ih0 _ _ _ _)
      | (with_reducible exact LeO.refl _)
      | (with_reducible exact LeO.none _)
      | (with_reducible refine LeO.ite ?_ ?_)
      | (with_reducible refine LeO.bind ?_ (fun _ => ?_))
      | exact ih0 _ _ _ _
      | exact LeO.none _
      | refine LeO.ite ?_ ?_
      | refine LeO.bind ?_ (fun _ => ?_)
set_option maxHeartbeats 8000000 in
set_option maxRecDepth 100000 in
theorem ipv4_get.calls (k : Nat) (a0 : ByteArray) (r : Int) (w : World) (h : ipv4_get.f k a0 = some r) :
    Calls Try.prog 27 #[.string a0] w fun e w' => e = .returned (.int .u32 r) ∧ Drawn0 w w' := by
  have H : (ipv4_get.l0 k a0 0 (a0.size : Int) 0) = some r := h
  clear h
  have H' := Aside0.mk H
  clear H
  go_enter Try.func27, Try.ntmps27
  go_wp2
  go_loopg [2, 6] k (fun kq v2 v6 w' => ∃ (x2_1 : Int) (x6_1 : Int), v2 = .int .u32 x2_1 ∧ v6 = .int .i64 x6_1 ∧ Aside0 (ipv4_get.l0 kq a0 x2_1 (a0.size : Int) x6_1 = some r) ∧ Aside0 (kq ≤ k) ∧ Drawn0 w w')
  case atStart => exact ⟨(0), (0), (by first | rfl | (simp; done) | (simp [*]; done)), (by first | rfl | (simp; done) | (simp [*]; done)), H', ⟨Nat.le_refl _⟩, by repeat (first | exact Drawn0.refl _ | apply Drawn0.step)⟩
  case round =>
    clear H'
    obtain ⟨x2_1, x6_1, rfl, rfl, HA, HK1, ⟨m1, rfl⟩⟩ := hrel
    cases gk with
    | zero => exact absurd HA.out (by simp [ipv4_get.l0])
    | succ k1 =>
      have H := HA.out
      clear HA
      simp only [ipv4_get.l0] at H
      by_cases c2 : x6_1 < (a0.size : Int)
      · rw [if_pos c2] at H
        have c2b0 : decide (x6_1 < (a0.size : Int)) = true := decide_eq_true c2
        clear c2
        by_cases c3 : 0 ≤ x6_1
        · rw [if_pos c3] at H
          have c3b0 : decide (0 ≤ x6_1) = true := decide_eq_true c3
          clear c3
          by_cases c4 : x6_1 < (a0.size : Int)
          · rw [if_pos c4] at H
            have c4b0 : decide (x6_1 < (a0.size : Int)) = true := decide_eq_true c4
            clear c4
            have H' := Aside0.mk H
            clear H
            have p5 : 0 ≤ (x6_1 : Int) := of_decide_eq_true (by first | (with_reducible assumption) | assumption)
            have q5 : x6_1 < (a0.size : Int) := of_decide_eq_true (by first | (with_reducible assumption) | assumption)
            have hx5 := bt_at a0 x6_1
            replace p5 := eq_true p5
            replace q5 := eq_true q5
            go_wp2
            go_roundg k1
            case measure => have := HK1.out; omega
            case rel => exact ⟨(Go.bits .or .u32 ((x2_1 * 256) % 4294967296) ((bt a0 x6_1) % 4294967296)), (wrap64 (x6_1 + 1)), (by first | rfl | (simp; done) | (simp [*]; done)), (by first | rfl | (simp; done) | (simp [*]; done)), H', ⟨by have := HK1.out; omega⟩, by repeat (first | exact Drawn0.refl _ | apply Drawn0.step)⟩
          · rw [if_neg c4] at H
            exact absurd H (by simp)
        · rw [if_neg c3] at H
          exact absurd H (by simp)
      · rw [if_neg c2] at H
        have c2b0 : decide (x6_1 < (a0.size : Int)) = false := decide_eq_false c2
        clear c2
        obtain rfl := Option.some.inj H
        go_wp2
        go_ret
        exact ⟨by first | rfl | (simp; done) | (simp [*]; done), by repeat (first | exact Drawn0.refl _ | apply Drawn0.step)⟩

end Go.Proofs.Ytmgepidjeddapaa.PUdpWithin
