/- Written by a program of this session (xprint.py, over the kit's print): Go functions told as Lean functions, each with the proof that a call answers just so. -/
import Derived.Test.YtnmijielhmkggaaPIpv4Toldx0
import Derived.Test.YtnmijielhmkggaaPIpv4Toldx1
import Derived.Test.YtnmijielhmkggaaPIpv4Toldx2
namespace Go.Proofs.Ytnmijielhmkggaa.PIpv4Told
open Go.Proofs.Ytnmijielhmkggaa.Hand
open Go.RowKit Go.Proofs.YtnmijielhmkggaaW.PrintWords Go.Proofs.YtnmijielhmkggaaW.PrintLast Go.Proofs.YtnmijielhmkggaaW.PrintMore
attribute [local go_sem] max2_int min2_int max_two min_two max_three min_three max_four min_four   -- for this text's walks alone
set_option linter.unusedVariables false
set_option linter.unusedSimpArgs false

/-! ### ipv4_Parse: by hand (defer, recover) -/
def ipv4_Parse.bad (e : Int) : Int × Int × Int × Int × Int × Int × Int × ByteArray × Int := (0, 0, 0, 0, 0, 0, 0, (⟨#[]⟩ : ByteArray), e)
def ipv4_Parse.f (k : Nat) (s : ByteArray) : Option (Int × Int × Int × Int × Int × Int × Int × ByteArray × Int) :=
  if s.size < 20 then some (ipv4_Parse.bad 1) else if ¬ bt s 0 = 69 then some (ipv4_Parse.bad 3) else (ipv4_get.f k (s.extract 2 4)).bind fun n =>
  if wrap64 n < 20 ∨ (s.size : Int) < wrap64 n then some (ipv4_Parse.bad 1) else if ¬ (s.size : Int) = wrap64 n then some (ipv4_Parse.bad 6) else
  (ipv4_get.f k (s.extract 4 6)).bind fun id => (ipv4_get.f k (s.extract 6 8)).bind fun fr => (ipv4_get.f k (s.extract 12 16)).bind fun src => (ipv4_get.f k (s.extract 16 20)).bind fun dst =>
  (ipv4_Sum.f k (s.extract 0 10 ++ (⟨#[0, 0]⟩ : ByteArray) ++ s.extract 12 20)).bind fun c => (ipv4_get.f k (s.extract 10 12)).bind fun q =>
  if c = wrap64 q then some (wrap64 (bt s 1), wrap64 id, wrap64 fr, wrap64 (bt s 8), wrap64 (bt s 9), src, dst, s.extract 20 s.size, 0) else some (ipv4_Parse.bad 9)
theorem ipv4_Parse.mono : ∀ s k, LeO (ipv4_Parse.f k s) (ipv4_Parse.f (k + 1) s) := by
  intro s k
  unfold ipv4_Parse.f
  refine LeO.ite (LeO.refl _) (LeO.ite (LeO.refl _) (LeO.bind (ipv4_get.mono _ _) (fun n => LeO.ite (LeO.refl _) (LeO.ite (LeO.refl _) ?_))))
  exact LeO.bind (ipv4_get.mono _ _) (fun _ => LeO.bind (ipv4_get.mono _ _) (fun _ => LeO.bind (ipv4_get.mono _ _) (fun _ => LeO.bind (ipv4_get.mono _ _) (fun _ => LeO.bind (ipv4_Sum.mono _ _) (fun _ => LeO.bind (ipv4_get.mono _ _) (fun _ => LeO.refl _))))))
set_option maxHeartbeats 8000000 in
set_option maxRecDepth 100000 in
theorem ipv4_get.same (k : Nat) (a0 : ByteArray) (r : Int) (w : World) (h : ipv4_get.f k a0 = some r) :
    Calls Try.prog 26 #[.string a0] w fun e w' => e = .returned (.int .u32 r) ∧ w = w' := by
  have H : (ipv4_get.l0 k a0 0 (a0.size : Int) 0) = some r := h
  clear h
  have H' := Aside0.mk H
  clear H
  go_enter Try.func26, Try.ntmps26
  go_wp2
  go_loopg [2, 6] k (fun kq v2 v6 w' => ∃ (x2_1 : Int) (x6_1 : Int), v2 = .int .u32 x2_1 ∧ v6 = .int .i64 x6_1 ∧ Aside0 (ipv4_get.l0 kq a0 x2_1 (a0.size : Int) x6_1 = some r) ∧ Aside0 (kq ≤ k) ∧ w = w')
  case atStart => exact ⟨(0), (0), (by first | rfl | (simp; done) | (simp [*]; done)), (by first | rfl | (simp; done) | (simp [*]; done)), H', ⟨Nat.le_refl _⟩, rfl⟩
  case round =>
    clear H'
    obtain ⟨x2_1, x6_1, rfl, rfl, HA, HK1, rfl⟩ := hrel
    cases gk with
    | zero => exact absurd HA.out (by simp [ipv4_get.l0])
    | succ k1 =>
      have H := HA.out
      clear HA
      simp only [ipv4_get.l0] at H
      by_cases c2 : x6_1 < (a0.size : Int)
      · rw [if_pos c2] at H
        have c2b0 : decide (x6_1 < (a0.size : Int)) = true := decide_eq_true c2
        clear c2
        by_cases c3 : 0 ≤ x6_1
        · rw [if_pos c3] at H
          have c3b0 : decide (0 ≤ x6_1) = true := decide_eq_true c3
          clear c3
          by_cases c4 : x6_1 < (a0.size : Int)
          · rw [if_pos c4] at H
            have c4b0 : decide (x6_1 < (a0.size : Int)) = true := decide_eq_true c4
            clear c4
            have H' := Aside0.mk H
            clear H
            have p5 : 0 ≤ (x6_1 : Int) := of_decide_eq_true (by first | (with_reducible assumption) | assumption)
            have q5 : x6_1 < (a0.size : Int) := of_decide_eq_true (by first | (with_reducible assumption) | assumption)
            have hx5 := bt_at a0 x6_1
            replace p5 := eq_true p5
            replace q5 := eq_true q5
            go_wp2
            go_roundg k1
            case measure => have := HK1.out; omega
            case rel => exact ⟨(Go.bits .or .u32 ((x2_1 * 256) % 4294967296) ((bt a0 x6_1) % 4294967296)), (wrap64 (x6_1 + 1)), (by first | rfl | (simp; done) | (simp [*]; done)), (by first | rfl | (simp; done) | (simp [*]; done)), H', ⟨by have := HK1.out; omega⟩, rfl⟩
          · rw [if_neg c4] at H
            exact absurd H (by simp)
        · rw [if_neg c3] at H
          exact absurd H (by simp)
      · rw [if_neg c2] at H
        have c2b0 : decide (x6_1 < (a0.size : Int)) = false := decide_eq_false c2
        clear c2
        obtain rfl := Option.some.inj H
        go_wp2
        go_ret
        exact ⟨by first | rfl | (simp; done) | (simp [*]; done), rfl⟩


set_option maxHeartbeats 8000000 in
set_option maxRecDepth 100000 in
theorem ipv4_Parse.calls (k : Nat) (a0 : ByteArray) (r1 r2 r3 r4 r5 r6 r7 : Int) (r8 : ByteArray) (r9 : Int) (w : World) (h : ipv4_Parse.f k a0 = some (r1, r2, r3, r4, r5, r6, r7, r8, r9)) :
    Calls Try.prog 15 #[.string a0] w fun e w' => e = .returned (.tuple #[.agg #[.int .i64 r1, .int .i64 r2, .int .i64 r3, .int .i64 r4, .int .i64 r5, .int .u32 r6, .int .u32 r7, .string r8], .int .i64 r9]) ∧ Below w.heap.size w w' := by
  unfold ipv4_Parse.f at h
  go_enter_defers Try.func15, Try.ntmps15
  go_wp2_with (fail)
  go_at_call 20
  (with_reducible refine (Hand.check_any _ _ _).mono ?_)
  rintro e w' (⟨hb, rfl, rfl⟩ | ⟨hb, rfl, rfl⟩)
  · have c1 : a0.size < 20 := by have := of_decide_eq_false hb; omega
    rw [if_pos c1] at h
    clear hb c1
    obtain ⟨rfl, rfl, rfl, rfl, rfl, rfl, rfl, rfl, rfl⟩ := (by simpa [ipv4_Parse.bad] using h : 0 = r1 ∧ 0 = r2 ∧ 0 = r3 ∧ 0 = r4 ∧ 0 = r5 ∧ 0 = r6 ∧ 0 = r7 ∧ (⟨#[]⟩ : ByteArray) = r8 ∧ 1 = r9)
    go_wp2_with (fail)
    refine leaves_cons (f := 19) (args := #[.pointer (some ⟨w.heap.size + 1, 0, none⟩)]) (by simp) (by simp [go_sem]) ?_
    refine (Hand.caught_panicking ⟨w.heap.size + 1, 0, none⟩ 0 _ [] _ ?_ ?_).mono ?_
    · simp [go_sem]
    · simp [go_sem]
    rintro e u' w'' ⟨rfl, rfl, rfl⟩
    simp [Leaves, settle, results, Try.results15, go_sem]
    repeat (first | exact Below.refl _ _ | apply below_alloc | apply pw_below_drewN | apply below_drew1 | refine below_set ?_ (Nat.le_succ _))
  have c1 : 20 ≤ a0.size := by have := of_decide_eq_true hb; omega
  rw [if_neg (show ¬ a0.size < 20 by omega)] at h
  clear hb
  have i0 := eq_true (show 0 < a0.size by omega)
  have I0 := eq_true (show (0 : Int) < (a0.size : Int) by omega)
  have x0 : ∀ h : 0 < a0.size, ((a0[0]'h).toNat : Int) = bt a0 0 := bt_at a0 0
  have i1 := eq_true (show 1 < a0.size by omega)
  have I1 := eq_true (show (1 : Int) < (a0.size : Int) by omega)
  have x1 : ∀ h : 1 < a0.size, ((a0[1]'h).toNat : Int) = bt a0 1 := bt_at a0 1
  have i8 := eq_true (show 8 < a0.size by omega)
  have I8 := eq_true (show (8 : Int) < (a0.size : Int) by omega)
  have x8 : ∀ h : 8 < a0.size, ((a0[8]'h).toNat : Int) = bt a0 8 := bt_at a0 8
  have i9 := eq_true (show 9 < a0.size by omega)
  have I9 := eq_true (show (9 : Int) < (a0.size : Int) by omega)
  have x9 : ∀ h : 9 < a0.size, ((a0[9]'h).toNat : Int) = bt a0 9 := bt_at a0 9
  have l4 := eq_true (show 4 ≤ a0.size by omega)
  have L4 := eq_true (show (4 : Int) ≤ (a0.size : Int) by omega)
  have l6 := eq_true (show 6 ≤ a0.size by omega)
  have L6 := eq_true (show (6 : Int) ≤ (a0.size : Int) by omega)
  have l8 := eq_true (show 8 ≤ a0.size by omega)
  have L8 := eq_true (show (8 : Int) ≤ (a0.size : Int) by omega)
  have l10 := eq_true (show 10 ≤ a0.size by omega)
  have L10 := eq_true (show (10 : Int) ≤ (a0.size : Int) by omega)
  have l12 := eq_true (show 12 ≤ a0.size by omega)
  have L12 := eq_true (show (12 : Int) ≤ (a0.size : Int) by omega)
  have l16 := eq_true (show 16 ≤ a0.size by omega)
  have L16 := eq_true (show (16 : Int) ≤ (a0.size : Int) by omega)
  have l20 := eq_true (show 20 ≤ a0.size by omega)
  have L20 := eq_true (show (20 : Int) ≤ (a0.size : Int) by omega)
  clear c1
  have HH := Aside0.mk h
  clear h
  go_wp2_with (fail)
  go_at_call 20
  (with_reducible refine (Hand.check_any _ _ _).mono ?_)
  rintro e w' (⟨hb, rfl, rfl⟩ | ⟨hb, rfl, rfl⟩)
  · have c2 : ¬ bt a0 0 = 69 := by simpa using hb
    have h := HH.out
    clear HH
    rw [if_pos c2] at h
    clear hb c2
    obtain ⟨rfl, rfl, rfl, rfl, rfl, rfl, rfl, rfl, rfl⟩ := (by simpa [ipv4_Parse.bad] using h : 0 = r1 ∧ 0 = r2 ∧ 0 = r3 ∧ 0 = r4 ∧ 0 = r5 ∧ 0 = r6 ∧ 0 = r7 ∧ (⟨#[]⟩ : ByteArray) = r8 ∧ 3 = r9)
    go_wp2_with (fail)
    refine leaves_cons (f := 19) (args := #[.pointer (some ⟨w.heap.size + 1, 0, none⟩)]) (by simp) (by simp [go_sem]) ?_
    refine (Hand.caught_panicking ⟨w.heap.size + 1, 0, none⟩ 0 _ [] _ ?_ ?_).mono ?_
    · simp [go_sem]
    · simp [go_sem]
    rintro e u' w'' ⟨rfl, rfl, rfl⟩
    simp [Leaves, settle, results, Try.results15, go_sem]
    repeat (first | exact Below.refl _ _ | apply below_alloc | apply pw_below_drewN | apply below_drew1 | refine below_set ?_ (Nat.le_succ _))
  have h := HH.out
  clear HH
  have c2 : bt a0 0 = 69 := by simpa using hb
  rw [if_neg (fun hh => hh c2)] at h
  clear hb c2
  obtain ⟨n, hn, hh⟩ := Option.bind_eq_some_iff.1 h
  clear h
  have HN := Aside0.mk hn
  have HH := Aside0.mk hh
  clear hn hh
  go_wp2_with (fail)
  go_at_call 26
  (with_reducible refine (ipv4_get.same k _ _ _ HN.out).mono ?_)
  rintro e w' ⟨rfl, rfl⟩
  have h := HH.out
  clear HH
  by_cases c3 : 20 ≤ wrap64 n
  rotate_left
  · have C3 : decide (20 ≤ wrap64 n) = false := decide_eq_false c3
    rw [if_pos (Or.inl (by omega))] at h
    clear c3
    go_wp2_with (fail)
    go_at_call 20
    (with_reducible refine (Hand.check_any _ _ _).mono ?_)
    rintro e w' (⟨hb, rfl, rfl⟩ | ⟨hb, rfl, rfl⟩)
    rotate_left
    · exact absurd hb (by simp)
    clear hb
    obtain ⟨rfl, rfl, rfl, rfl, rfl, rfl, rfl, rfl, rfl⟩ := (by simpa [ipv4_Parse.bad] using h : 0 = r1 ∧ 0 = r2 ∧ 0 = r3 ∧ 0 = r4 ∧ 0 = r5 ∧ 0 = r6 ∧ 0 = r7 ∧ (⟨#[]⟩ : ByteArray) = r8 ∧ 1 = r9)
    go_wp2_with (fail)
    refine leaves_cons (f := 19) (args := #[.pointer (some ⟨w.heap.size + 1, 0, none⟩)]) (by simp) (by simp [go_sem]) ?_
    refine (Hand.caught_panicking ⟨w.heap.size + 1, 0, none⟩ 0 _ [] _ ?_ ?_).mono ?_
    · simp [go_sem]
    · simp [go_sem]
    rintro e u' w'' ⟨rfl, rfl, rfl⟩
    simp [Leaves, settle, results, Try.results15, go_sem]
    repeat (first | exact Below.refl _ _ | apply below_alloc | apply pw_below_drewN | apply below_drew1 | refine below_set ?_ (Nat.le_succ _))
  have C3 : decide (20 ≤ wrap64 n) = true := decide_eq_true c3
  have HH := Aside0.mk h
  clear h
  have c3' := Aside0.mk c3
  clear c3
  go_wp2_with (fail)
  go_at_call 20
  (with_reducible refine (Hand.check_any _ _ _).mono ?_)
  rintro e w' (⟨hb, rfl, rfl⟩ | ⟨hb, rfl, rfl⟩)
  · have h := HH.out
    rw [if_pos (Or.inr (by have := of_decide_eq_false hb; omega))] at h
    clear hb HH
    obtain ⟨rfl, rfl, rfl, rfl, rfl, rfl, rfl, rfl, rfl⟩ := (by simpa [ipv4_Parse.bad] using h : 0 = r1 ∧ 0 = r2 ∧ 0 = r3 ∧ 0 = r4 ∧ 0 = r5 ∧ 0 = r6 ∧ 0 = r7 ∧ (⟨#[]⟩ : ByteArray) = r8 ∧ 1 = r9)
    go_wp2_with (fail)
    refine leaves_cons (f := 19) (args := #[.pointer (some ⟨w.heap.size + 1, 0, none⟩)]) (by simp) (by simp [go_sem]) ?_
    refine (Hand.caught_panicking ⟨w.heap.size + 1, 0, none⟩ 0 _ [] _ ?_ ?_).mono ?_
    · simp [go_sem]
    · simp [go_sem]
    rintro e u' w'' ⟨rfl, rfl, rfl⟩
    simp [Leaves, settle, results, Try.results15, go_sem]
    repeat (first | exact Below.refl _ _ | apply below_alloc | apply pw_below_drewN | apply below_drew1 | refine below_set ?_ (Nat.le_succ _))
  have h := HH.out
  clear HH
  rw [if_neg (by have := of_decide_eq_true hb; have := c3'.out; omega)] at h
  clear hb C3 c3'
  have HH := Aside0.mk h
  clear h
  go_wp2_with (fail)
  go_at_call 20
  (with_reducible refine (Hand.check_any _ _ _).mono ?_)
  rintro e w' (⟨hb, rfl, rfl⟩ | ⟨hb, rfl, rfl⟩)
  · have c5 : ¬ (a0.size : Int) = wrap64 n := by simpa using hb
    have h := HH.out
    clear HH
    rw [if_pos c5] at h
    clear hb c5
    obtain ⟨rfl, rfl, rfl, rfl, rfl, rfl, rfl, rfl, rfl⟩ := (by simpa [ipv4_Parse.bad] using h : 0 = r1 ∧ 0 = r2 ∧ 0 = r3 ∧ 0 = r4 ∧ 0 = r5 ∧ 0 = r6 ∧ 0 = r7 ∧ (⟨#[]⟩ : ByteArray) = r8 ∧ 6 = r9)
    go_wp2_with (fail)
    refine leaves_cons (f := 19) (args := #[.pointer (some ⟨w.heap.size + 1, 0, none⟩)]) (by simp) (by simp [go_sem]) ?_
    refine (Hand.caught_panicking ⟨w.heap.size + 1, 0, none⟩ 0 _ [] _ ?_ ?_).mono ?_
    · simp [go_sem]
    · simp [go_sem]
    rintro e u' w'' ⟨rfl, rfl, rfl⟩
    simp [Leaves, settle, results, Try.results15, go_sem]
    repeat (first | exact Below.refl _ _ | apply below_alloc | apply pw_below_drewN | apply below_drew1 | refine below_set ?_ (Nat.le_succ _))
  have h := HH.out
  clear HH
  have c5 : (a0.size : Int) = wrap64 n := by simpa using hb
  rw [if_neg (fun hh => hh c5)] at h
  clear hb c5
  obtain ⟨id, hid, h⟩ := Option.bind_eq_some_iff.1 h
  obtain ⟨fr, hfr, h⟩ := Option.bind_eq_some_iff.1 h
  obtain ⟨src, hsrc, h⟩ := Option.bind_eq_some_iff.1 h
  obtain ⟨dst, hdst, h⟩ := Option.bind_eq_some_iff.1 h
  obtain ⟨c, hc, h⟩ := Option.bind_eq_some_iff.1 h
  obtain ⟨q, hq, hh⟩ := Option.bind_eq_some_iff.1 h
  clear h
  have H4 := Aside0.mk hid
  have H6 := Aside0.mk hfr
  have H12 := Aside0.mk hsrc
  have H16 := Aside0.mk hdst
  have HC := Aside0.mk hc
  have H10 := Aside0.mk hq
  have HH := Aside0.mk hh
  clear hid hfr hsrc hdst hc hq hh
  go_wp2_with (fail)
  refine Calm.wp_region_calm_then (fun _ => True) [0, 1, 2, 3, 4, 5, 6, 7, 8, 9, 10, 11, 12, 13, 14, 15, 16, 17, 18, 19, 20, 21, 22, 23, 24, 25] [26, 27] (by kernel_rfl) (by kernel_rfl) (by trivial) ?_
  repeat (first
    | (refine Calm.value_ (v := ?_) (a' := ?_) rfl rfl (by rfl) ?_ ?_ ?_; rotate_left; (· rintro w' hS'; go_simp; with_reducible rfl); rotate_left; (· simp only [Act.put, List.setIfInBounds_toArray, List.set_cons_zero, List.set_cons_succ, i64_w, i32_w]; rfl))
    | (refine Calm.call_ (a' := ?_) rfl rfl Try.func26 (by kernel_rfl) rfl #[.string (a0.extract 4 6)] (by rfl) rfl (by (try simp only [List.map_toArray, List.map_cons, List.map_nil]); rfl) (fun w' hS' => ipv4_get.same k _ _ _ H4.out) ?_ ?_; rotate_left; (· simp only [Act.put, List.setIfInBounds_toArray, List.set_cons_zero, List.set_cons_succ, i64_w, i32_w]; rfl))
    | (refine Calm.call_ (a' := ?_) rfl rfl Try.func26 (by kernel_rfl) rfl #[.string (a0.extract 6 8)] (by rfl) rfl (by (try simp only [List.map_toArray, List.map_cons, List.map_nil]); rfl) (fun w' hS' => ipv4_get.same k _ _ _ H6.out) ?_ ?_; rotate_left; (· simp only [Act.put, List.setIfInBounds_toArray, List.set_cons_zero, List.set_cons_succ, i64_w, i32_w]; rfl))
    | (refine Calm.call_ (a' := ?_) rfl rfl Try.func26 (by kernel_rfl) rfl #[.string (a0.extract 12 16)] (by rfl) rfl (by (try simp only [List.map_toArray, List.map_cons, List.map_nil]); rfl) (fun w' hS' => ipv4_get.same k _ _ _ H12.out) ?_ ?_; rotate_left; (· simp only [Act.put, List.setIfInBounds_toArray, List.set_cons_zero, List.set_cons_succ, i64_w, i32_w]; rfl))
    | (refine Calm.call_ (a' := ?_) rfl rfl Try.func26 (by kernel_rfl) rfl #[.string (a0.extract 16 20)] (by rfl) rfl (by (try simp only [List.map_toArray, List.map_cons, List.map_nil]); rfl) (fun w' hS' => ipv4_get.same k _ _ _ H16.out) ?_ ?_; rotate_left; (· simp only [Act.put, List.setIfInBounds_toArray, List.set_cons_zero, List.set_cons_succ, i64_w, i32_w]; rfl)))
  refine Calm.nil_ ?_
  (refine Calm.t_value (v := ?_) (w1 := ?_) (a' := ?_) rfl rfl (by rfl) ?_ ?_ ?_ ?_; rotate_left; rotate_left; (· go_simp; first | (refine And.intro ?_ ?_ <;> rfl) | rfl); (· trivial); rotate_left; (· simp only [Act.put, List.setIfInBounds_toArray, List.set_cons_zero, List.set_cons_succ, i64_w, i32_w]; rfl))
  (refine Calm.t_store (w1 := ?_) rfl (by rfl) rfl ?_ ?_ ?_; rotate_left; (· go_simp; rfl); (· trivial))
  refine Calm.t_nil ?_
  go_wp2_with (fail)
  refine wp_region_still_tail 12 (by kernel_rfl) (by kernel_rfl) ?_
  simp only [List.take_succ_cons, List.take_zero, List.drop_succ_cons, List.drop_zero]
  have HS2 : ∀ W : World, Calls Try.prog 12 #[.string (a0.extract 0 10 ++ (⟨#[0, 0]⟩ : ByteArray) ++ a0.extract 12 20)] W fun e w'' => e = .returned (.int .i64 c) ∧ w'' = W := fun W => (ipv4_Sum.same k _ _ _ HC.out).mono fun _ _ ⟨h1, h2⟩ => ⟨h1, h2.symm⟩
  have HG2 : ∀ W : World, Calls Try.prog 26 #[.string (a0.extract 10 12)] W fun e w'' => e = .returned (.int .u32 q) ∧ w'' = W := fun W => (ipv4_get.same k _ _ _ H10.out).mono fun _ _ ⟨h1, h2⟩ => ⟨h1, h2.symm⟩
  have HS3 := Aside0.mk HS2
  have HG3 := Aside0.mk HG2
  clear HS2 HG2
  repeat (first | still_step | (still_call (HS3.out _)) | (still_call (HG3.out _)))
  refine wpStill_nil ?_
  change wpList _ _ _ _ _ (World.drew _)
  clear HS3 HG3
  go_wp2_with (fail)
  go_at_call 20
  (with_reducible refine (Hand.check_any _ _ _).mono ?_)
  rintro e w' (⟨hb, rfl, rfl⟩ | ⟨hb, rfl, rfl⟩)
  · have c6 : ¬ c = wrap64 q := by simpa using hb
    have h := HH.out
    clear HH
    rw [if_neg c6] at h
    clear hb c6
    obtain ⟨rfl, rfl, rfl, rfl, rfl, rfl, rfl, rfl, rfl⟩ := (by simpa [ipv4_Parse.bad] using h : 0 = r1 ∧ 0 = r2 ∧ 0 = r3 ∧ 0 = r4 ∧ 0 = r5 ∧ 0 = r6 ∧ 0 = r7 ∧ (⟨#[]⟩ : ByteArray) = r8 ∧ 9 = r9)
    go_wp2_with (fail)
    refine leaves_cons (f := 19) (args := #[.pointer (some ⟨w.heap.size + 1, 0, none⟩)]) (by simp) (by simp [go_sem]) ?_
    refine (Hand.caught_panicking ⟨w.heap.size + 1, 0, none⟩ 0 _ [] _ ?_ ?_).mono ?_
    · simp [go_sem]
    · simp [go_sem]
    rintro e u' w'' ⟨rfl, rfl, rfl⟩
    simp [Leaves, settle, results, Try.results15, go_sem]
    repeat (first | exact Below.refl _ _ | apply below_alloc | apply pw_below_drewN | apply below_drew1 | refine below_set ?_ (Nat.le_succ _))
  have c6 : c = wrap64 q := by simpa using hb
  have h := HH.out
  clear HH
  rw [if_pos c6] at h
  clear hb c6
  obtain ⟨rfl, rfl, rfl, rfl, rfl, rfl, rfl, rfl, rfl⟩ := (by simpa using h : wrap64 (bt a0 1) = r1 ∧ wrap64 id = r2 ∧ wrap64 fr = r3 ∧ wrap64 (bt a0 8) = r4 ∧ wrap64 (bt a0 9) = r5 ∧ src = r6 ∧ dst = r7 ∧ a0.extract 20 a0.size = r8 ∧ 0 = r9)
  clear h
  go_wp2_with (fail)
  refine leaves_cons (f := 19) (args := #[.pointer (some ⟨w.heap.size + 1, 0, none⟩)]) (by simp) (by simp [go_sem]) ?_
  refine (Hand.caught_idle ⟨w.heap.size + 1, 0, none⟩ _).mono ?_
  rintro e u' w'' ⟨rfl, rfl, rfl⟩
  simp [Leaves, settle, results, Try.results15, go_sem]
  repeat (first | exact Below.refl _ _ | apply below_alloc | apply pw_below_drewN | apply below_drew1 | refine below_set ?_ (Nat.le_succ _))

/-! ### vizardlaw02_works: function 14 -/
def vizardlaw02_works.f (k : Nat)  : Option (Bool) := (ipv4_Build.f k 0 0 0 64 17 167772161 167772162 (⟨#[97, 98]⟩ : ByteArray)).bind fun bt102 => (if bt102.1.size + 1 ≤ 9223372036854775807 then ((ipv4_Parse.f k (bt102.1 ++ (⟨#[120]⟩ : ByteArray))).bind fun bt104 => (if bt102.2 = 0 then (if bt102.1.toList = ([69, 0, 0, 22, 0, 0, 0, 0, 64, 17, 102, 213, 10, 0, 0, 1, 10, 0, 0, 2, 97, 98] : List UInt8) then (if bt104.2.2.2.2.2.2.2.2 = 6 then ((ipv4_Sum.f k (⟨#[0, 1, 242, 3, 244, 245, 246, 247]⟩ : ByteArray)).bind fun t114 => (some (t114 == 8717))) else (some false)) else (some false)) else (some false))) else (none))
theorem vizardlaw02_works.mono : ∀ k, LeO (vizardlaw02_works.f k ) (vizardlaw02_works.f (k + 1) ) := by
  intro  k
  unfold vizardlaw02_works.f
  repeat' first
      | (with_reducible exact ipv4_Build.mono _ _ _ _ _ _ _ _ _)
      | (with_reducible exact ipv4_Parse.mono _ _)
      | (with_reducible exact ipv4_Sum.mono _ _)
      | (with_reducible exact LeO.refl _)
      | (with_reducible exact LeO.none _)
      | (with_reducible refine LeO.ite ?_ ?_)
      | (with_reducible refine LeO.bind ?_ (fun _ => ?_))
      | exact ipv4_Build.mono _ _ _ _ _ _ _ _ _
      | exact ipv4_Parse.mono _ _
      | exact ipv4_Sum.mono _ _
      | exact LeO.none _
      | refine LeO.ite ?_ ?_
      | refine LeO.bind ?_ (fun _ => ?_)
set_option maxHeartbeats 8000000 in
set_option maxRecDepth 100000 in
theorem vizardlaw02_works.calls (k : Nat)  (r : Bool) (w : World) (h : vizardlaw02_works.f k  = some r) :
    Calls Try.prog 14 #[] w fun e w' => e = .returned (.bool r) ∧ Below w.heap.size w w' := by
  have hu24 := Try.underlying24
  have HB := Aside0.mk (Below.refl w.heap.size w)
  have H : ((ipv4_Build.f k 0 0 0 64 17 167772161 167772162 (⟨#[97, 98]⟩ : ByteArray)).bind fun bt102 => (if bt102.1.size + 1 ≤ 9223372036854775807 then ((ipv4_Parse.f k (bt102.1 ++ (⟨#[120]⟩ : ByteArray))).bind fun bt104 => (if bt102.2 = 0 then (if bt102.1.toList = ([69, 0, 0, 22, 0, 0, 0, 0, 64, 17, 102, 213, 10, 0, 0, 1, 10, 0, 0, 2, 97, 98] : List UInt8) then (if bt104.2.2.2.2.2.2.2.2 = 6 then ((ipv4_Sum.f k (⟨#[0, 1, 242, 3, 244, 245, 246, 247]⟩ : ByteArray)).bind fun t114 => (some (t114 == 8717))) else (some false)) else (some false)) else (some false))) else (none))) = some r := h
  clear h
  replace H := Option.bind_eq_some_iff.mp H
  obtain ⟨⟨t102, t103⟩, A10, H⟩ := H
  replace H : (if t102.size + 1 ≤ 9223372036854775807 then ((ipv4_Parse.f k (t102 ++ (⟨#[120]⟩ : ByteArray))).bind fun bt104 => (if t103 = 0 then (if t102.toList = ([69, 0, 0, 22, 0, 0, 0, 0, 64, 17, 102, 213, 10, 0, 0, 1, 10, 0, 0, 2, 97, 98] : List UInt8) then (if bt104.2.2.2.2.2.2.2.2 = 6 then ((ipv4_Sum.f k (⟨#[0, 1, 242, 3, 244, 245, 246, 247]⟩ : ByteArray)).bind fun t114 => (some (t114 == 8717))) else (some false)) else (some false)) else (some false))) else (none)) = some r := H
  have A1 := Aside0.mk A10
  clear A10
  by_cases c2 : t102.size + 1 ≤ 9223372036854775807
  · rw [if_pos c2] at H
    have c2b0 := eq_true c2
    have c2b1 : decide (t102.size + 1 ≤ 9223372036854775807) = true := decide_eq_true c2
    try have c2b2 : (9223372036854775807 < t102.size + 1) = False := eq_false (Nat.not_lt.2 c2)
    replace H := Option.bind_eq_some_iff.mp H
    obtain ⟨⟨t104, t105, t106, t107, t108, t109, t110, t111, t112⟩, A30, H⟩ := H
    replace H : (if t103 = 0 then (if t102.toList = ([69, 0, 0, 22, 0, 0, 0, 0, 64, 17, 102, 213, 10, 0, 0, 1, 10, 0, 0, 2, 97, 98] : List UInt8) then (if t112 = 6 then ((ipv4_Sum.f k (⟨#[0, 1, 242, 3, 244, 245, 246, 247]⟩ : ByteArray)).bind fun t114 => (some (t114 == 8717))) else (some false)) else (some false)) else (some false)) = some r := H
    have A3 := Aside0.mk A30
    clear A30
    by_cases c4 : t103 = 0
    · rw [if_pos c4] at H
      have c4b0 : (t103 == 0) = true := beq_iff_eq.mpr c4
      have c4b1 : (t103 != 0) = false := bne_eq_false_iff_eq.mpr c4
      clear c4
      by_cases c5 : t102.toList = ([69, 0, 0, 22, 0, 0, 0, 0, 64, 17, 102, 213, 10, 0, 0, 1, 10, 0, 0, 2, 97, 98] : List UInt8)
      · rw [if_pos c5] at H
        have c5b0 : (t102.toList == ([69, 0, 0, 22, 0, 0, 0, 0, 64, 17, 102, 213, 10, 0, 0, 1, 10, 0, 0, 2, 97, 98] : List UInt8)) = true := beq_iff_eq.mpr c5
        have c5b1 : (t102.toList != ([69, 0, 0, 22, 0, 0, 0, 0, 64, 17, 102, 213, 10, 0, 0, 1, 10, 0, 0, 2, 97, 98] : List UInt8)) = false := bne_eq_false_iff_eq.mpr c5
        clear c5
        by_cases c6 : t112 = 6
        · rw [if_pos c6] at H
          have c6b0 : (t112 == 6) = true := beq_iff_eq.mpr c6
          have c6b1 : (t112 != 6) = false := bne_eq_false_iff_eq.mpr c6
          clear c6
          replace H := Option.bind_eq_some_iff.mp H
          obtain ⟨t114, A70, H⟩ := H
          replace H : (some (t114 == 8717)) = some r := H
          have A7 := Aside0.mk A70
          clear A70
          obtain rfl := Option.some.inj H
          go_enter Try.func14, Try.ntmps14
          go_wp2_with (first | ((with_reducible refine gate_callee (f := 10) rfl ?_); refine goesL_ (some 7) rfl rfl Try.func10 (by kernel_rfl) rfl #[.agg #[.int .i64 0, .int .i64 0, .int .i64 0, .int .i64 64, .int .i64 17, .int .u32 167772161, .int .u32 167772162, .string (⟨#[97, 98]⟩ : ByteArray)]] rfl (by (try simp only [List.map_toArray, List.map_cons, List.map_nil]); first | done | rfl | (simp only [List.length_drop, List.length_take]; rfl)) ?_; (with_reducible refine (ipv4_Build.calls k 0 0 0 64 17 167772161 167772162 (⟨#[97, 98]⟩ : ByteArray) t102 t103 _ A1.out).mono ?_); rintro e w8 ⟨rfl, hb⟩; refine ⟨_, rfl, ?_⟩; have n0_ := Aside0.mk (below_step (by repeat (first | (with_reducible first | exact HB.out | apply below_alloc | apply pw_below_drewN | apply below_drew1) | exact HB.out)) hb); clear HB; have HB := n0_; clear n0_; (try clear hb); (try clear hb2); (try clear hk); (try clear hi)) | ((with_reducible refine gate_callee (f := 15) rfl ?_); refine goesL_ (some 13) rfl rfl Try.func15 (by kernel_rfl) rfl #[.string (t102 ++ (⟨#[120]⟩ : ByteArray))] rfl (by (try simp only [List.map_toArray, List.map_cons, List.map_nil]); first | done | rfl | (simp only [List.length_drop, List.length_take]; rfl)) ?_; (with_reducible refine (ipv4_Parse.calls k (t102 ++ (⟨#[120]⟩ : ByteArray)) t104 t105 t106 t107 t108 t109 t110 t111 t112 _ A3.out).mono ?_); rintro e w9 ⟨rfl, hb⟩; refine ⟨_, rfl, ?_⟩; have n0_ := Aside0.mk (below_step (by repeat (first | (with_reducible first | exact HB.out | apply below_alloc | apply pw_below_drewN | apply below_drew1) | exact HB.out)) hb); clear HB; have HB := n0_; clear n0_; (try clear hb); (try clear hb2); (try clear hk); (try clear hi)) | ((with_reducible refine gate_dst (N := 3) rfl ?_); refine box_event ?hg (N := 3) ?hd (cs := #[.int .i64 0, .int .i64 0, .int .i64 0, .int .i64 0, .int .i64 0, .int .u32 0, .int .u32 0, .string (⟨#[]⟩ : ByteArray)]) (t := 24) ?hr ?_; (case hd => rfl); (case hg => rfl); (case hr => first | (go_simp; done) | (go_simp; rfl)); intro gb113 hg w10 hbox hb; have n0_ := Aside0.mk (below_step (by repeat (first | (with_reducible first | exact HB.out | apply below_alloc | apply pw_below_drewN | apply below_drew1) | exact HB.out)) hb); have n1_ := Aside0.mk (hbox); have n2_ := Aside0.mk ((by rw [hg]; exact (below_size (by repeat (first | (with_reducible first | exact HB.out | apply below_alloc | apply pw_below_drewN | apply below_drew1) | exact HB.out))) : w.heap.size ≤ gb113)); have n3_ := Aside0.mk ((by rw [hg]; exact (below_size (by repeat (first | (with_reducible first | exact HB.out | apply below_alloc | apply pw_below_drewN | apply below_drew1) | exact HB.out))) : w.heap.size ≤ gb113)); clear HB; have HB := n0_; have BK113 := n1_; have GW113 := n2_; have GE113 := n3_; clear n0_ n1_ n2_ n3_; clear hb hbox hg; have hcz11_0 : w10.cell? ⟨gb113, 0, none⟩ = some (.int .i64 0) := (blk_cell BK113.out 0).trans rfl; have hcz11_1 : w10.cell? ⟨gb113, 1, none⟩ = some (.int .i64 0) := (blk_cell BK113.out 1).trans rfl; have hcz11_2 : w10.cell? ⟨gb113, 2, none⟩ = some (.int .i64 0) := (blk_cell BK113.out 2).trans rfl; have hcz11_3 : w10.cell? ⟨gb113, 3, none⟩ = some (.int .i64 0) := (blk_cell BK113.out 3).trans rfl; have hcz11_4 : w10.cell? ⟨gb113, 4, none⟩ = some (.int .i64 0) := (blk_cell BK113.out 4).trans rfl; have hcz11_5 : w10.cell? ⟨gb113, 5, none⟩ = some (.int .u32 0) := (blk_cell BK113.out 5).trans rfl; have hcz11_6 : w10.cell? ⟨gb113, 6, none⟩ = some (.int .u32 0) := (blk_cell BK113.out 6).trans rfl; have hcz11_7 : w10.cell? ⟨gb113, 7, none⟩ = some (.string (⟨#[]⟩ : ByteArray)) := (blk_cell BK113.out 7).trans rfl; have hfz11_0 := blk_frozen BK113.out 0; have hfz11_1 := blk_frozen BK113.out 1; have hfz11_2 := blk_frozen BK113.out 2; have hfz11_3 := blk_frozen BK113.out 3; have hfz11_4 := blk_frozen BK113.out 4; have hfz11_5 := blk_frozen BK113.out 5; have hfz11_6 := blk_frozen BK113.out 6; have hfz11_7 := blk_frozen BK113.out 7) | (go_at_call 12; (with_reducible refine (ipv4_Sum.calls k (⟨#[0, 1, 242, 3, 244, 245, 246, 247]⟩ : ByteArray) t114 _ A7.out).mono ?_); rintro e w' ⟨rfl, ⟨nd, rfl⟩⟩))
          go_ret
          exact ⟨by first | rfl | (simp [errW_none, errW_some] <;> rfl) | (simp [*, errW_none, errW_some] <;> rfl), by repeat (first | (with_reducible first | exact HB.out | apply below_alloc | apply pw_below_drewN | apply below_drew1 | refine below_set ?_ GE113.out) | exact HB.out)⟩
        · rw [if_neg c6] at H
          have c6b0 : (t112 == 6) = false := beq_eq_false_iff_ne.mpr c6
          have c6b1 : (t112 != 6) = true := bne_iff_ne.mpr c6
          obtain rfl := Option.some.inj H
          go_enter Try.func14, Try.ntmps14
          go_wp2_with (first | ((with_reducible refine gate_callee (f := 10) rfl ?_); refine goesL_ (some 7) rfl rfl Try.func10 (by kernel_rfl) rfl #[.agg #[.int .i64 0, .int .i64 0, .int .i64 0, .int .i64 64, .int .i64 17, .int .u32 167772161, .int .u32 167772162, .string (⟨#[97, 98]⟩ : ByteArray)]] rfl (by (try simp only [List.map_toArray, List.map_cons, List.map_nil]); first | done | rfl | (simp only [List.length_drop, List.length_take]; rfl)) ?_; (with_reducible refine (ipv4_Build.calls k 0 0 0 64 17 167772161 167772162 (⟨#[97, 98]⟩ : ByteArray) t102 t103 _ A1.out).mono ?_); rintro e w12 ⟨rfl, hb⟩; refine ⟨_, rfl, ?_⟩; have n0_ := Aside0.mk (below_step (by repeat (first | (with_reducible first | exact HB.out | apply below_alloc | apply pw_below_drewN | apply below_drew1) | exact HB.out)) hb); clear HB; have HB := n0_; clear n0_; (try clear hb); (try clear hb2); (try clear hk); (try clear hi)) | ((with_reducible refine gate_callee (f := 15) rfl ?_); refine goesL_ (some 13) rfl rfl Try.func15 (by kernel_rfl) rfl #[.string (t102 ++ (⟨#[120]⟩ : ByteArray))] rfl (by (try simp only [List.map_toArray, List.map_cons, List.map_nil]); first | done | rfl | (simp only [List.length_drop, List.length_take]; rfl)) ?_; (with_reducible refine (ipv4_Parse.calls k (t102 ++ (⟨#[120]⟩ : ByteArray)) t104 t105 t106 t107 t108 t109 t110 t111 t112 _ A3.out).mono ?_); rintro e w13 ⟨rfl, hb⟩; refine ⟨_, rfl, ?_⟩; have n0_ := Aside0.mk (below_step (by repeat (first | (with_reducible first | exact HB.out | apply below_alloc | apply pw_below_drewN | apply below_drew1) | exact HB.out)) hb); clear HB; have HB := n0_; clear n0_; (try clear hb); (try clear hb2); (try clear hk); (try clear hi)) | ((with_reducible refine gate_dst (N := 3) rfl ?_); refine box_event ?hg (N := 3) ?hd (cs := #[.int .i64 0, .int .i64 0, .int .i64 0, .int .i64 0, .int .i64 0, .int .u32 0, .int .u32 0, .string (⟨#[]⟩ : ByteArray)]) (t := 24) ?hr ?_; (case hd => rfl); (case hg => rfl); (case hr => first | (go_simp; done) | (go_simp; rfl)); intro gb113 hg w14 hbox hb; have n0_ := Aside0.mk (below_step (by repeat (first | (with_reducible first | exact HB.out | apply below_alloc | apply pw_below_drewN | apply below_drew1) | exact HB.out)) hb); have n1_ := Aside0.mk (hbox); have n2_ := Aside0.mk ((by rw [hg]; exact (below_size (by repeat (first | (with_reducible first | exact HB.out | apply below_alloc | apply pw_below_drewN | apply below_drew1) | exact HB.out))) : w.heap.size ≤ gb113)); have n3_ := Aside0.mk ((by rw [hg]; exact (below_size (by repeat (first | (with_reducible first | exact HB.out | apply below_alloc | apply pw_below_drewN | apply below_drew1) | exact HB.out))) : w.heap.size ≤ gb113)); clear HB; have HB := n0_; have BK113 := n1_; have GW113 := n2_; have GE113 := n3_; clear n0_ n1_ n2_ n3_; clear hb hbox hg; have hcz15_0 : w14.cell? ⟨gb113, 0, none⟩ = some (.int .i64 0) := (blk_cell BK113.out 0).trans rfl; have hcz15_1 : w14.cell? ⟨gb113, 1, none⟩ = some (.int .i64 0) := (blk_cell BK113.out 1).trans rfl; have hcz15_2 : w14.cell? ⟨gb113, 2, none⟩ = some (.int .i64 0) := (blk_cell BK113.out 2).trans rfl; have hcz15_3 : w14.cell? ⟨gb113, 3, none⟩ = some (.int .i64 0) := (blk_cell BK113.out 3).trans rfl; have hcz15_4 : w14.cell? ⟨gb113, 4, none⟩ = some (.int .i64 0) := (blk_cell BK113.out 4).trans rfl; have hcz15_5 : w14.cell? ⟨gb113, 5, none⟩ = some (.int .u32 0) := (blk_cell BK113.out 5).trans rfl; have hcz15_6 : w14.cell? ⟨gb113, 6, none⟩ = some (.int .u32 0) := (blk_cell BK113.out 6).trans rfl; have hcz15_7 : w14.cell? ⟨gb113, 7, none⟩ = some (.string (⟨#[]⟩ : ByteArray)) := (blk_cell BK113.out 7).trans rfl; have hfz15_0 := blk_frozen BK113.out 0; have hfz15_1 := blk_frozen BK113.out 1; have hfz15_2 := blk_frozen BK113.out 2; have hfz15_3 := blk_frozen BK113.out 3; have hfz15_4 := blk_frozen BK113.out 4; have hfz15_5 := blk_frozen BK113.out 5; have hfz15_6 := blk_frozen BK113.out 6; have hfz15_7 := blk_frozen BK113.out 7))
          go_ret
          exact ⟨by first | rfl | (simp [errW_none, errW_some] <;> rfl) | (simp [*, errW_none, errW_some] <;> rfl), by repeat (first | (with_reducible first | exact HB.out | apply below_alloc | apply pw_below_drewN | apply below_drew1 | refine below_set ?_ GE113.out) | exact HB.out)⟩
      · rw [if_neg c5] at H
        have c5b0 : (t102.toList == ([69, 0, 0, 22, 0, 0, 0, 0, 64, 17, 102, 213, 10, 0, 0, 1, 10, 0, 0, 2, 97, 98] : List UInt8)) = false := beq_eq_false_iff_ne.mpr c5
        have c5b1 : (t102.toList != ([69, 0, 0, 22, 0, 0, 0, 0, 64, 17, 102, 213, 10, 0, 0, 1, 10, 0, 0, 2, 97, 98] : List UInt8)) = true := bne_iff_ne.mpr c5
        obtain rfl := Option.some.inj H
        go_enter Try.func14, Try.ntmps14
        go_wp2_with (first | ((with_reducible refine gate_callee (f := 10) rfl ?_); refine goesL_ (some 7) rfl rfl Try.func10 (by kernel_rfl) rfl #[.agg #[.int .i64 0, .int .i64 0, .int .i64 0, .int .i64 64, .int .i64 17, .int .u32 167772161, .int .u32 167772162, .string (⟨#[97, 98]⟩ : ByteArray)]] rfl (by (try simp only [List.map_toArray, List.map_cons, List.map_nil]); first | done | rfl | (simp only [List.length_drop, List.length_take]; rfl)) ?_; (with_reducible refine (ipv4_Build.calls k 0 0 0 64 17 167772161 167772162 (⟨#[97, 98]⟩ : ByteArray) t102 t103 _ A1.out).mono ?_); rintro e w16 ⟨rfl, hb⟩; refine ⟨_, rfl, ?_⟩; have n0_ := Aside0.mk (below_step (by repeat (first | (with_reducible first | exact HB.out | apply below_alloc | apply pw_below_drewN | apply below_drew1) | exact HB.out)) hb); clear HB; have HB := n0_; clear n0_; (try clear hb); (try clear hb2); (try clear hk); (try clear hi)) | ((with_reducible refine gate_callee (f := 15) rfl ?_); refine goesL_ (some 13) rfl rfl Try.func15 (by kernel_rfl) rfl #[.string (t102 ++ (⟨#[120]⟩ : ByteArray))] rfl (by (try simp only [List.map_toArray, List.map_cons, List.map_nil]); first | done | rfl | (simp only [List.length_drop, List.length_take]; rfl)) ?_; (with_reducible refine (ipv4_Parse.calls k (t102 ++ (⟨#[120]⟩ : ByteArray)) t104 t105 t106 t107 t108 t109 t110 t111 t112 _ A3.out).mono ?_); rintro e w17 ⟨rfl, hb⟩; refine ⟨_, rfl, ?_⟩; have n0_ := Aside0.mk (below_step (by repeat (first | (with_reducible first | exact HB.out | apply below_alloc | apply pw_below_drewN | apply below_drew1) | exact HB.out)) hb); clear HB; have HB := n0_; clear n0_; (try clear hb); (try clear hb2); (try clear hk); (try clear hi)) | ((with_reducible refine gate_dst (N := 3) rfl ?_); refine box_event ?hg (N := 3) ?hd (cs := #[.int .i64 0, .int .i64 0, .int .i64 0, .int .i64 0, .int .i64 0, .int .u32 0, .int .u32 0, .string (⟨#[]⟩ : ByteArray)]) (t := 24) ?hr ?_; (case hd => rfl); (case hg => rfl); (case hr => first | (go_simp; done) | (go_simp; rfl)); intro gb113 hg w18 hbox hb; have n0_ := Aside0.mk (below_step (by repeat (first | (with_reducible first | exact HB.out | apply below_alloc | apply pw_below_drewN | apply below_drew1) | exact HB.out)) hb); have n1_ := Aside0.mk (hbox); have n2_ := Aside0.mk ((by rw [hg]; exact (below_size (by repeat (first | (with_reducible first | exact HB.out | apply below_alloc | apply pw_below_drewN | apply below_drew1) | exact HB.out))) : w.heap.size ≤ gb113)); have n3_ := Aside0.mk ((by rw [hg]; exact (below_size (by repeat (first | (with_reducible first | exact HB.out | apply below_alloc | apply pw_below_drewN | apply below_drew1) | exact HB.out))) : w.heap.size ≤ gb113)); clear HB; have HB := n0_; have BK113 := n1_; have GW113 := n2_; have GE113 := n3_; clear n0_ n1_ n2_ n3_; clear hb hbox hg; have hcz19_0 : w18.cell? ⟨gb113, 0, none⟩ = some (.int .i64 0) := (blk_cell BK113.out 0).trans rfl; have hcz19_1 : w18.cell? ⟨gb113, 1, none⟩ = some (.int .i64 0) := (blk_cell BK113.out 1).trans rfl; have hcz19_2 : w18.cell? ⟨gb113, 2, none⟩ = some (.int .i64 0) := (blk_cell BK113.out 2).trans rfl; have hcz19_3 : w18.cell? ⟨gb113, 3, none⟩ = some (.int .i64 0) := (blk_cell BK113.out 3).trans rfl; have hcz19_4 : w18.cell? ⟨gb113, 4, none⟩ = some (.int .i64 0) := (blk_cell BK113.out 4).trans rfl; have hcz19_5 : w18.cell? ⟨gb113, 5, none⟩ = some (.int .u32 0) := (blk_cell BK113.out 5).trans rfl; have hcz19_6 : w18.cell? ⟨gb113, 6, none⟩ = some (.int .u32 0) := (blk_cell BK113.out 6).trans rfl; have hcz19_7 : w18.cell? ⟨gb113, 7, none⟩ = some (.string (⟨#[]⟩ : ByteArray)) := (blk_cell BK113.out 7).trans rfl; have hfz19_0 := blk_frozen BK113.out 0; have hfz19_1 := blk_frozen BK113.out 1; have hfz19_2 := blk_frozen BK113.out 2; have hfz19_3 := blk_frozen BK113.out 3; have hfz19_4 := blk_frozen BK113.out 4; have hfz19_5 := blk_frozen BK113.out 5; have hfz19_6 := blk_frozen BK113.out 6; have hfz19_7 := blk_frozen BK113.out 7))
        go_ret
        exact ⟨by first | rfl | (simp [errW_none, errW_some] <;> rfl) | (simp [*, errW_none, errW_some] <;> rfl), by repeat (first | (with_reducible first | exact HB.out | apply below_alloc | apply pw_below_drewN | apply below_drew1 | refine below_set ?_ GE113.out) | exact HB.out)⟩
    · rw [if_neg c4] at H
      have c4b0 : (t103 == 0) = false := beq_eq_false_iff_ne.mpr c4
      have c4b1 : (t103 != 0) = true := bne_iff_ne.mpr c4
      obtain rfl := Option.some.inj H
      go_enter Try.func14, Try.ntmps14
      go_wp2_with (first | ((with_reducible refine gate_callee (f := 10) rfl ?_); refine goesL_ (some 7) rfl rfl Try.func10 (by kernel_rfl) rfl #[.agg #[.int .i64 0, .int .i64 0, .int .i64 0, .int .i64 64, .int .i64 17, .int .u32 167772161, .int .u32 167772162, .string (⟨#[97, 98]⟩ : ByteArray)]] rfl (by (try simp only [List.map_toArray, List.map_cons, List.map_nil]); first | done | rfl | (simp only [List.length_drop, List.length_take]; rfl)) ?_; (with_reducible refine (ipv4_Build.calls k 0 0 0 64 17 167772161 167772162 (⟨#[97, 98]⟩ : ByteArray) t102 t103 _ A1.out).mono ?_); rintro e w20 ⟨rfl, hb⟩; refine ⟨_, rfl, ?_⟩; have n0_ := Aside0.mk (below_step (by repeat (first | (with_reducible first | exact HB.out | apply below_alloc | apply pw_below_drewN | apply below_drew1) | exact HB.out)) hb); clear HB; have HB := n0_; clear n0_; (try clear hb); (try clear hb2); (try clear hk); (try clear hi)) | ((with_reducible refine gate_callee (f := 15) rfl ?_); refine goesL_ (some 13) rfl rfl Try.func15 (by kernel_rfl) rfl #[.string (t102 ++ (⟨#[120]⟩ : ByteArray))] rfl (by (try simp only [List.map_toArray, List.map_cons, List.map_nil]); first | done | rfl | (simp only [List.length_drop, List.length_take]; rfl)) ?_; (with_reducible refine (ipv4_Parse.calls k (t102 ++ (⟨#[120]⟩ : ByteArray)) t104 t105 t106 t107 t108 t109 t110 t111 t112 _ A3.out).mono ?_); rintro e w21 ⟨rfl, hb⟩; refine ⟨_, rfl, ?_⟩; have n0_ := Aside0.mk (below_step (by repeat (first | (with_reducible first | exact HB.out | apply below_alloc | apply pw_below_drewN | apply below_drew1) | exact HB.out)) hb); clear HB; have HB := n0_; clear n0_; (try clear hb); (try clear hb2); (try clear hk); (try clear hi)) | ((with_reducible refine gate_dst (N := 3) rfl ?_); refine box_event ?hg (N := 3) ?hd (cs := #[.int .i64 0, .int .i64 0, .int .i64 0, .int .i64 0, .int .i64 0, .int .u32 0, .int .u32 0, .string (⟨#[]⟩ : ByteArray)]) (t := 24) ?hr ?_; (case hd => rfl); (case hg => rfl); (case hr => first | (go_simp; done) | (go_simp; rfl)); intro gb113 hg w22 hbox hb; have n0_ := Aside0.mk (below_step (by repeat (first | (with_reducible first | exact HB.out | apply below_alloc | apply pw_below_drewN | apply below_drew1) | exact HB.out)) hb); have n1_ := Aside0.mk (hbox); have n2_ := Aside0.mk ((by rw [hg]; exact (below_size (by repeat (first | (with_reducible first | exact HB.out | apply below_alloc | apply pw_below_drewN | apply below_drew1) | exact HB.out))) : w.heap.size ≤ gb113)); have n3_ := Aside0.mk ((by rw [hg]; exact (below_size (by repeat (first | (with_reducible first | exact HB.out | apply below_alloc | apply pw_below_drewN | apply below_drew1) | exact HB.out))) : w.heap.size ≤ gb113)); clear HB; have HB := n0_; have BK113 := n1_; have GW113 := n2_; have GE113 := n3_; clear n0_ n1_ n2_ n3_; clear hb hbox hg; have hcz23_0 : w22.cell? ⟨gb113, 0, none⟩ = some (.int .i64 0) := (blk_cell BK113.out 0).trans rfl; have hcz23_1 : w22.cell? ⟨gb113, 1, none⟩ = some (.int .i64 0) := (blk_cell BK113.out 1).trans rfl; have hcz23_2 : w22.cell? ⟨gb113, 2, none⟩ = some (.int .i64 0) := (blk_cell BK113.out 2).trans rfl; have hcz23_3 : w22.cell? ⟨gb113, 3, none⟩ = some (.int .i64 0) := (blk_cell BK113.out 3).trans rfl; have hcz23_4 : w22.cell? ⟨gb113, 4, none⟩ = some (.int .i64 0) := (blk_cell BK113.out 4).trans rfl; have hcz23_5 : w22.cell? ⟨gb113, 5, none⟩ = some (.int .u32 0) := (blk_cell BK113.out 5).trans rfl; have hcz23_6 : w22.cell? ⟨gb113, 6, none⟩ = some (.int .u32 0) := (blk_cell BK113.out 6).trans rfl; have hcz23_7 : w22.cell? ⟨gb113, 7, none⟩ = some (.string (⟨#[]⟩ : ByteArray)) := (blk_cell BK113.out 7).trans rfl; have hfz23_0 := blk_frozen BK113.out 0; have hfz23_1 := blk_frozen BK113.out 1; have hfz23_2 := blk_frozen BK113.out 2; have hfz23_3 := blk_frozen BK113.out 3; have hfz23_4 := blk_frozen BK113.out 4; have hfz23_5 := blk_frozen BK113.out 5; have hfz23_6 := blk_frozen BK113.out 6; have hfz23_7 := blk_frozen BK113.out 7))
      go_ret
      exact ⟨by first | rfl | (simp [errW_none, errW_some] <;> rfl) | (simp [*, errW_none, errW_some] <;> rfl), by repeat (first | (with_reducible first | exact HB.out | apply below_alloc | apply pw_below_drewN | apply below_drew1 | refine below_set ?_ GE113.out) | exact HB.out)⟩
  · rw [if_neg c2] at H
    exact absurd H (by simp)

-- NOT PRINTED: function 5 (vizardlaw02_Ipv4Told)

end Go.Proofs.Ytnmijielhmkggaa.PIpv4Told
