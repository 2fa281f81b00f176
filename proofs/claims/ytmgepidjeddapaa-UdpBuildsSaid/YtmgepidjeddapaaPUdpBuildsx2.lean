/- Written by a program of this session (xprint.py, over the kit's print): Go functions told as Lean functions, each with the proof that a call answers just so. -/
import Derived.Test.YtmgepidjeddapaaPUdpBuildsx0
import Derived.Test.YtmgepidjeddapaaPUdpBuildsx1
namespace Go.Proofs.Ytmgepidjeddapaa.PUdpBuilds
open Go.Proofs.Ytmgepidjeddapaa.Hand
open Go.RowKit Go.Proofs.YtmgepidjeddapaaW.PrintWords Go.Proofs.YtmgepidjeddapaaW.PrintLast Go.Proofs.YtmgepidjeddapaaW.PrintMore
attribute [local go_sem] max2_int min2_int max_two min_two max_three min_three max_four min_four   -- for this text's walks alone
set_option linter.unusedVariables false
set_option linter.unusedSimpArgs false

/-! ### vizardref02_Sum: function 22 -/
mutual
def vizardref02_Sum.j0 : Nat → ByteArray → Option (Int)
  | 0, _ => none
  | k + 1, x0 => vizardref02_Sum.l0 k x0 0 0
def vizardref02_Sum.l0 : Nat → ByteArray → Int → Int → Option (Int)
  | 0, _, _, _ => none
  | k + 1, x0, x3, x4 => if (wrap64 (x4 + 1)) < (x0.size : Int) then (if 0 ≤ x4 then (if x4 ≤ (wrap64 (x4 + 2)) then (if (wrap64 (x4 + 2)) ≤ (x0.size : Int) then ((vizardref01_Number.f k (x0.extract (x4 : Int).toNat ((wrap64 (x4 + 2)) : Int).toNat)).bind fun t113 => (vizardref02_Sum.l0 k x0 (wrap64 (x3 + t113)) (wrap64 (x4 + 2)))) else (none)) else (none)) else (none)) else (vizardref02_Sum.l1 k x3)
def vizardref02_Sum.l1 : Nat → Int → Option (Int)
  | 0, _ => none
  | k + 1, x3 => if x3 > 65535 then (vizardref02_Sum.l1 k (wrap64 ((Int.tmod x3 65536) + (wrap64 (Int.tdiv x3 65536))))) else (some (wrap64 (65535 - x3)))
end
def vizardref02_Sum.f (k : Nat) (a0 : ByteArray) : Option (Int) := if ((a0.size : Int) % 2) = 1 then (if a0.size + 1 ≤ 9223372036854775807 then (vizardref02_Sum.j0 k (a0 ++ (⟨#[0]⟩ : ByteArray))) else (none)) else (vizardref02_Sum.j0 k a0)
theorem vizardref02_Sum.mono_l : ∀ k, (∀ y0, LeO (vizardref02_Sum.j0 k y0) (vizardref02_Sum.j0 (k + 1) y0)) ∧ (∀ y0 y1 y2, LeO (vizardref02_Sum.l0 k y0 y1 y2) (vizardref02_Sum.l0 (k + 1) y0 y1 y2)) ∧ (∀ y0, LeO (vizardref02_Sum.l1 k y0) (vizardref02_Sum.l1 (k + 1) y0))
  | 0 => ⟨fun _ r h => by simp [vizardref02_Sum.j0] at h, fun _ _ _ r h => by simp [vizardref02_Sum.l0] at h, fun _ r h => by simp [vizardref02_Sum.l1] at h⟩
  | k + 1 => by
    obtain ⟨ih0, ih1, ih2⟩ := vizardref02_Sum.mono_l k
    refine ⟨?_, ?_, ?_⟩
    · intro y0
      unfold vizardref02_Sum.j0
      repeat' first
      | (with_reducible exact ih0 _)
      | (with_reducible exact ih1 _ _ _)
      | (with_reducible exact ih2 _)
      | (with_reducible exact vizardref01_Number.mono _ _)
      | (with_reducible exact LeO.refl _)
      | (with_reducible exact LeO.none _)
      | (with_reducible refine LeO.ite ?_ ?_)
      | (with_reducible refine LeO.bind ?_ (fun _ => ?_))
      | exact ih0 _
      | exact ih1 _ _ _
      | exact ih2 _
      | exact vizardref01_Number.mono _ _
      | exact LeO.none _
      | refine LeO.ite ?_ ?_
      | refine LeO.bind ?_ (fun _ => ?_)
    · intro y0 y1 y2
      unfold vizardref02_Sum.l0
      repeat' first
      | (with_reducible exact ih0 _)
      | (with_reducible exact ih1 _ _ _)
      | (with_reducible exact ih2 _)
      | (with_reducible exact vizardref01_Number.mono _ _)
      | (with_reducible exact LeO.refl _)
      | (with_reducible exact LeO.none _)
      | (with_reducible refine LeO.ite ?_ ?_)
      | (with_reducible refine LeO.bind ?_ (fun _ => ?_))
      | exact ih0 _
      | exact ih1 _ _ _
      | exact ih2 _
      | exact vizardref01_Number.mono _ _
      | exact LeO.none _
      | refine LeO.ite ?_ ?_
      | refine LeO.bind ?_ (fun _ => ?_)
    · intro y0
      unfold vizardref02_Sum.l1
      repeat' first
      | (with_reducible exact ih0 _)
      | (with_reducible exact ih1 _ _ _)
      | (with_reducible exact ih2 _)
      | (with_reducible exact vizardref01_Number.mono _ _)
      | (with_reducible exact LeO.refl _)
      | (with_reducible exact LeO.none _)
      | (with_reducible refine LeO.ite ?_ ?_)
      | (with_reducible refine LeO.bind ?_ (fun _ => ?_))
      | exact ih0 _
      | exact ih1 _ _ _
      | exact ih2 _
      | exact vizardref01_Number.mono _ _
      | exact LeO.none _
      | refine LeO.ite ?_ ?_
      | refine LeO.bind ?_ (fun _ => ?_)
theorem vizardref02_Sum.mono : ∀ a0 k, LeO (vizardref02_Sum.f k a0) (vizardref02_Sum.f (k + 1) a0) := by
  intro a0 k
  obtain ⟨ih0, ih1, ih2⟩ := vizardref02_Sum.mono_l k
  unfold vizardref02_Sum.f
  repeat' first
      | (with_reducible exact ih0 _)
      | (with_reducible exact ih1 _ _ _)
      | (with_reducible exact ih2 _)
      | (with_reducible exact vizardref01_Number.mono _ _)
      | (with_reducible exact LeO.refl _)
      | (with_reducible exact LeO.none _)
      | (with_reducible refine LeO.ite ?_ ?_)
      | (with_reducible refine LeO.bind ?_ (fun _ => ?_))
      | exact ih0 _
      | exact ih1 _ _ _
      | exact ih2 _
      | exact vizardref01_Number.mono _ _
      | exact LeO.none _
      | refine LeO.ite ?_ ?_
      | refine LeO.bind ?_ (fun _ => ?_)
set_option maxHeartbeats 8000000 in
set_option maxRecDepth 100000 in
theorem vizardref02_Sum.calls (k : Nat) (a0 : ByteArray) (r : Int) (w : World) (h : vizardref02_Sum.f k a0 = some r) :
    Calls Try.prog 22 #[.string a0] w fun e w' => e = .returned (.int .i64 r) ∧ Drawn0 w w' := by
  have H : (if ((a0.size : Int) % 2) = 1 then (if a0.size + 1 ≤ 9223372036854775807 then (vizardref02_Sum.j0 k (a0 ++ (⟨#[0]⟩ : ByteArray))) else (none)) else (vizardref02_Sum.j0 k a0)) = some r := h
  clear h
  have HC2 := Aside0.mk H
  clear H
  go_enter Try.func22, Try.ntmps22
  go_upto_if 8 with (fail)
  go_cut [0] (fun v0 wc => ∃ (kq : Nat) (x0_1 : ByteArray), v0 = .string x0_1 ∧ Aside0 (vizardref02_Sum.j0 kq x0_1 = some r) ∧ Aside0 (kq ≤ k) ∧ Drawn0 w wc)
  case first =>
    have H := HC2.out
    clear HC2
    by_cases c3 : ((a0.size : Int) % 2) = 1
    · rw [if_pos c3] at H
      have c3b0 : (((a0.size : Int) % 2) == 1) = true := beq_iff_eq.mpr c3
      have c3b1 : (((a0.size : Int) % 2) != 1) = false := bne_eq_false_iff_eq.mpr c3
      clear c3
      (first | rw [c3b0] | (simp only [i64_w, i32_w]; rw [c3b0]) | skip)
      by_cases c4 : a0.size + 1 ≤ 9223372036854775807
      · rw [if_pos c4] at H
        have c4b0 := eq_true c4
        have c4b1 : decide (a0.size + 1 ≤ 9223372036854775807) = true := decide_eq_true c4
        try have c4b2 : (9223372036854775807 < a0.size + 1) = False := eq_false (Nat.not_lt.2 c4)
        have H' := Aside0.mk H
        clear H
        go_wp2
        go_meet
        case rel => exact ⟨_, (a0 ++ (⟨#[0]⟩ : ByteArray)), (by first | rfl | (simp; done) | (simp [*]; done)), H', ⟨by first | omega | exact Nat.le_refl _⟩, by repeat (first | exact Drawn0.refl _ | apply Drawn0.step)⟩
      · rw [if_neg c4] at H
        exact absurd H (by simp)
    · rw [if_neg c3] at H
      have c3b0 : (((a0.size : Int) % 2) == 1) = false := beq_eq_false_iff_ne.mpr c3
      have c3b1 : (((a0.size : Int) % 2) != 1) = true := bne_iff_ne.mpr c3
      (first | rw [c3b0] | (simp only [i64_w, i32_w]; rw [c3b0]) | skip)
      have H' := Aside0.mk H
      clear H
      go_wp2
      go_meet
      case rel => exact ⟨_, (a0), (by first | rfl | (simp; done) | (simp [*]; done)), H', ⟨by first | omega | exact Nat.le_refl _⟩, by repeat (first | exact Drawn0.refl _ | apply Drawn0.step)⟩
  case rest =>
    clear HC2
    try clear c2
    try clear p2
    try clear c3
    try clear c3b0
    try clear c3b1
    try clear c4
    try clear c4b0
    try clear c4b1
    try clear c4b2
    obtain ⟨kq, x0_1, rfl, HA, HJ1, ⟨mc1, rfl⟩⟩ := hcut
    cases kq with
    | zero => exact absurd HA.out (by simp [vizardref02_Sum.j0])
    | succ kj1 =>
      have H := HA.out
      clear HA
      simp only [vizardref02_Sum.j0] at H
      have H' := Aside0.mk H
      clear H
      go_wp2
      go_loopg [3, 4] kj1 (fun kq v3 v4 w' => ∃ (x3_2 : Int) (x4_2 : Int), v3 = .int .i64 x3_2 ∧ v4 = .int .i64 x4_2 ∧ Aside0 (vizardref02_Sum.l0 kq x0_1 x3_2 x4_2 = some r) ∧ Aside0 (kq ≤ kj1) ∧ Drawn0 w w')
      case atStart => exact ⟨(0), (0), (by first | rfl | (simp; done) | (simp [*]; done)), (by first | rfl | (simp; done) | (simp [*]; done)), H', ⟨Nat.le_refl _⟩, by repeat (first | exact Drawn0.refl _ | apply Drawn0.step)⟩
      case round =>
        clear H'
        try clear c1
        try clear c2
        try clear p2
        try clear c3
        try clear c3b0
        try clear c3b1
        try clear c4
        try clear c4b0
        try clear c4b1
        try clear c4b2
        try clear p2
        obtain ⟨x3_2, x4_2, rfl, rfl, HA, HK2, ⟨m2, rfl⟩⟩ := hrel
        cases gk with
        | zero => exact absurd HA.out (by simp [vizardref02_Sum.l0])
        | succ k2 =>
          have H := HA.out
          clear HA
          simp only [vizardref02_Sum.l0] at H
          by_cases c5 : (wrap64 (x4_2 + 1)) < (x0_1.size : Int)
          · rw [if_pos c5] at H
            have c5b0 : decide ((wrap64 (x4_2 + 1)) < (x0_1.size : Int)) = true := decide_eq_true c5
            (try (have c5b1 : decide ((IntKind.i64.wrap (x4_2 + 1)) < (x0_1.size : Int)) = true := by (simp only [i64_w]; exact (decide_eq_true c5))))
            clear c5
            by_cases c6 : 0 ≤ x4_2
            · rw [if_pos c6] at H
              have c6b0 := eq_true c6
              have c6b1 : decide (0 ≤ x4_2) = true := decide_eq_true c6
              clear c6
              by_cases c7 : x4_2 ≤ (wrap64 (x4_2 + 2))
              · rw [if_pos c7] at H
                have c7b0 := eq_true c7
                have c7b1 : decide (x4_2 ≤ (wrap64 (x4_2 + 2))) = true := decide_eq_true c7
                by_cases c8 : (wrap64 (x4_2 + 2)) ≤ (x0_1.size : Int)
                · rw [if_pos c8] at H
                  have c8b0 := eq_true c8
                  have c8b1 : decide ((wrap64 (x4_2 + 2)) ≤ (x0_1.size : Int)) = true := decide_eq_true c8
                  replace H := Option.bind_eq_some_iff.mp H
                  obtain ⟨t113, A90, H⟩ := H
                  replace H : (vizardref02_Sum.l0 k2 x0_1 (wrap64 (x3_2 + t113)) (wrap64 (x4_2 + 2))) = some r := H
                  have A9 := Aside0.mk A90
                  clear A90
                  have H' := Aside0.mk H
                  clear H
                  go_wp2_with (first | ((with_reducible refine gate_callee (f := 28) rfl ?_); refine goesL_ (some 24) rfl rfl Try.func28 (by kernel_rfl) rfl #[.string (x0_1.extract (x4_2 : Int).toNat ((wrap64 (x4_2 + 2)) : Int).toNat)] rfl (by (try simp only [List.map_toArray, List.map_cons, List.map_nil]); first | done | rfl | (simp only [List.length_drop, List.length_take]; rfl)) ?_; (with_reducible refine (vizardref01_Number.calls k2 (x0_1.extract (x4_2 : Int).toNat ((wrap64 (x4_2 + 2)) : Int).toNat) t113 _ A9.out).mono ?_); rintro e w' ⟨rfl, ⟨nd, rfl⟩⟩; refine ⟨_, rfl, ?_⟩))
                  go_roundg k2
                  case measure => have := HJ1.out; have := HK2.out; omega
                  case rel => exact ⟨(wrap64 (x3_2 + t113)), (wrap64 (x4_2 + 2)), (by first | rfl | (simp; done) | (simp [*]; done)), (by first | rfl | (simp; done) | (simp [*]; done)), H', ⟨by have := HJ1.out; have := HK2.out; omega⟩, by repeat (first | exact Drawn0.refl _ | apply Drawn0.step)⟩
                · rw [if_neg c8] at H
                  exact absurd H (by simp)
              · rw [if_neg c7] at H
                exact absurd H (by simp)
            · rw [if_neg c6] at H
              exact absurd H (by simp)
          · rw [if_neg c5] at H
            have c5b0 : decide ((wrap64 (x4_2 + 1)) < (x0_1.size : Int)) = false := decide_eq_false c5
            (try (have c5b1 : decide ((IntKind.i64.wrap (x4_2 + 1)) < (x0_1.size : Int)) = false := by (simp only [i64_w]; exact (decide_eq_false c5))))
            clear c5
            have H' := Aside0.mk H
            clear H
            go_wp2
            go_loopg [3] k2 (fun kq v3 w' => ∃ (x3_3 : Int), v3 = .int .i64 x3_3 ∧ Aside0 (vizardref02_Sum.l1 kq x3_3 = some r) ∧ Aside0 (kq ≤ k2) ∧ Drawn0 w w')
            case atStart => exact ⟨(x3_2), (by first | rfl | (simp; done) | (simp [*]; done)), H', ⟨Nat.le_refl _⟩, by repeat (first | exact Drawn0.refl _ | apply Drawn0.step)⟩
            case round =>
              clear H'
              try clear c1
              try clear c2
              try clear p2
              try clear c3
              try clear c3b0
              try clear c3b1
              try clear c4
              try clear c4b0
              try clear c4b1
              try clear c4b2
              try clear c5
              try clear c5b0
              try clear c5b1
              try clear c6
              try clear c6b0
              try clear c6b1
              try clear p6
              try clear c7
              try clear c7b0
              try clear c7b1
              try clear c8
              try clear c8b0
              try clear c8b1
              try clear p2
              obtain ⟨x3_3, rfl, HA, HK3, ⟨m3, rfl⟩⟩ := hrel
              cases gk with
              | zero => exact absurd HA.out (by simp [vizardref02_Sum.l1])
              | succ k3 =>
                have H := HA.out
                clear HA
                simp only [vizardref02_Sum.l1] at H
                by_cases c10 : x3_3 > 65535
                · rw [if_pos c10] at H
                  have c10b0 : decide (65535 < x3_3) = true := decide_eq_true c10
                  clear c10
                  have H' := Aside0.mk H
                  clear H
                  go_wp2
                  go_roundg k3
                  case measure => have := HJ1.out; have := HK2.out; have := HK3.out; omega
                  case rel => exact ⟨(wrap64 ((Int.tmod x3_3 65536) + (wrap64 (Int.tdiv x3_3 65536)))), (by first | rfl | (simp; done) | (simp [*]; done)), H', ⟨by have := HJ1.out; have := HK2.out; have := HK3.out; omega⟩, by repeat (first | exact Drawn0.refl _ | apply Drawn0.step)⟩
                · rw [if_neg c10] at H
                  have c10b0 : decide (65535 < x3_3) = false := decide_eq_false c10
                  clear c10
                  obtain rfl := Option.some.inj H
                  go_wp2
                  go_ret
                  exact ⟨by first | rfl | (simp; done) | (simp [*]; done), by repeat (first | exact Drawn0.refl _ | apply Drawn0.step)⟩

/-! ### vizardref03_Build: function 9 -/
def vizardref03_Build.j0 : Nat → Int → Int → Int → Int → ByteArray → Bool → Option (ByteArray × Int)
  | 0, _, _, _, _, _, _ => none
  | k + 1, x0, x1, x2, x3, x4, x22 => if x22 = true then (some ((⟨#[]⟩ : ByteArray), 2)) else (if (x4.size : Int) > 65507 then (some ((⟨#[]⟩ : ByteArray), 8)) else ((vizardref03_word.f k x2).bind fun t116 => ((vizardref03_word.f k x3).bind fun t117 => (if t116.size + t117.size ≤ 9223372036854775807 then ((vizardref03_word.f k (wrap64 (8 + (x4.size : Int)))).bind fun t118 => (if (t116 ++ t117).size + t118.size ≤ 9223372036854775807 then ((vizardref01_Bytes.f k (wrap64 (x0)) 4).bind fun t119 => ((vizardref01_Bytes.f k (wrap64 (x1)) 4).bind fun t120 => (if t119.size + t120.size ≤ 9223372036854775807 then ((vizardref03_word.f k 17).bind fun t121 => (if (t119 ++ t120).size + t121.size ≤ 9223372036854775807 then ((vizardref03_word.f k (wrap64 (8 + (x4.size : Int)))).bind fun t122 => (if ((t119 ++ t120) ++ t121).size + t122.size ≤ 9223372036854775807 then (if (((t119 ++ t120) ++ t121) ++ t122).size + ((t116 ++ t117) ++ t118).size ≤ 9223372036854775807 then ((vizardref03_word.f k 0).bind fun t123 => (if ((((t119 ++ t120) ++ t121) ++ t122) ++ ((t116 ++ t117) ++ t118)).size + t123.size ≤ 9223372036854775807 then (if (((((t119 ++ t120) ++ t121) ++ t122) ++ ((t116 ++ t117) ++ t118)) ++ t123).size + x4.size ≤ 9223372036854775807 then ((vizardref02_Sum.f k ((((((t119 ++ t120) ++ t121) ++ t122) ++ ((t116 ++ t117) ++ t118)) ++ t123) ++ x4)).bind fun t124 => (if t124 = 0 then ((vizardref03_word.f k 65535).bind fun t125 => (if ((t116 ++ t117) ++ t118).size + t125.size ≤ 9223372036854775807 then (if (((t116 ++ t117) ++ t118) ++ t125).size + x4.size ≤ 9223372036854775807 then (some ((((t116 ++ t117) ++ t118) ++ t125) ++ x4, 0)) else (none)) else (none))) else ((vizardref03_word.f k t124).bind fun t126 => (if ((t116 ++ t117) ++ t118).size + t126.size ≤ 9223372036854775807 then (if (((t116 ++ t117) ++ t118) ++ t126).size + x4.size ≤ 9223372036854775807 then (some ((((t116 ++ t117) ++ t118) ++ t126) ++ x4, 0)) else (none)) else (none))))) else (none)) else (none))) else (none)) else (none))) else (none))) else (none)))) else (none))) else (none)))))
def vizardref03_Build.f (k : Nat) (a0 : Int) (a1 : Int) (a2 : Int) (a3 : Int) (a4 : ByteArray) : Option (ByteArray × Int) := (vizardref03_port.f a2).bind fun t114 => (if t114 = true then ((vizardref03_port.f a3).bind fun t115 => (vizardref03_Build.j0 k a0 a1 a2 a3 a4 (!t115))) else (vizardref03_Build.j0 k a0 a1 a2 a3 a4 true))
theorem vizardref03_Build.mono_l : ∀ k, (∀ y0 y1 y2 y3 y4 y5, LeO (vizardref03_Build.j0 k y0 y1 y2 y3 y4 y5) (vizardref03_Build.j0 (k + 1) y0 y1 y2 y3 y4 y5))
  | 0 => fun _ _ _ _ _ _ r h => by simp [vizardref03_Build.j0] at h
  | k + 1 => by
    have ih0 := vizardref03_Build.mono_l k
    · intro y0 y1 y2 y3 y4 y5
      unfold vizardref03_Build.j0
      repeat' first
      | (with_reducible exact ih0 _ _ _ _ _ _)
      | (with_reducible exact vizardref01_Bytes.mono _ _ _)
      | (with_reducible exact vizardref02_Sum.mono _ _)
      | (with_reducible exact vizardref03_word.mono _ _)
      | (with_reducible exact LeO.refl _)
      | (with_reducible exact LeO.none _)
      | (with_reducible refine LeO.ite ?_ ?_)
      | (with_reducible refine LeO.bind ?_ (fun _ => ?_))
      | exact ih0 _ _ _ _ _ _
      | exact vizardref01_Bytes.mono _ _ _
      | exact vizardref02_Sum.mono _ _
      | exact vizardref03_word.mono _ _
      | exact LeO.none _
      | refine LeO.ite ?_ ?_
      | refine LeO.bind ?_ (fun _ => ?_)
theorem vizardref03_Build.mono : ∀ a0 a1 a2 a3 a4 k, LeO (vizardref03_Build.f k a0 a1 a2 a3 a4) (vizardref03_Build.f (k + 1) a0 a1 a2 a3 a4) := by
  intro a0 a1 a2 a3 a4 k
  have ih0 := vizardref03_Build.mono_l k
  unfold vizardref03_Build.f
  repeat' first
      | (with_reducible exact ih0 _ _ _ _ _ _)
      | (with_reducible exact vizardref01_Bytes.mono _ _ _)
      | (with_reducible exact vizardref02_Sum.mono _ _)
      | (with_reducible exact vizardref03_word.mono _ _)
      | (with_reducible exact LeO.refl _)
      | (with_reducible exact LeO.none _)
      | (with_reducible refine LeO.ite ?_ ?_)
      | (with_reducible refine LeO.bind ?_ (fun _ => ?_))
      | exact ih0 _ _ _ _ _ _
      | exact vizardref01_Bytes.mono _ _ _
      | exact vizardref02_Sum.mono _ _
      | exact vizardref03_word.mono _ _
      | exact LeO.none _
      | refine LeO.ite ?_ ?_
      | refine LeO.bind ?_ (fun _ => ?_)
set_option maxHeartbeats 8000000 in
set_option maxRecDepth 100000 in
theorem vizardref03_Build.calls (k : Nat) (a0 : Int) (a1 : Int) (a2 : Int) (a3 : Int) (a4 : ByteArray) (r1 : ByteArray) (r2 : Int) (w : World) (h : vizardref03_Build.f k a0 a1 a2 a3 a4 = some (r1, r2)) :
    Calls Try.prog 9 #[.int .u32 a0, .int .u32 a1, .int .i64 a2, .int .i64 a3, .string a4] w fun e w' => e = .returned (.tuple #[.string r1, .int .i64 r2]) ∧ Below w.heap.size w w' := by
  have HB := Aside0.mk (Below.refl w.heap.size w)
  have H : ((vizardref03_port.f a2).bind fun t114 => (if t114 = true then ((vizardref03_port.f a3).bind fun t115 => (vizardref03_Build.j0 k a0 a1 a2 a3 a4 (!t115))) else (vizardref03_Build.j0 k a0 a1 a2 a3 a4 true))) = some (r1, r2) := h
  clear h
  have HC6 := Aside0.mk H
  clear H
  go_enter Try.func9, Try.ntmps9
  go_upto_region 1 with (fail)
  go_cut [22] (fun v22 wc => ∃ (kq : Nat) (x22_5 : Bool), v22 = .bool x22_5 ∧ Aside0 (vizardref03_Build.j0 kq a0 a1 a2 a3 a4 x22_5 = some (r1, r2)) ∧ Aside0 (kq ≤ k) ∧ Aside0 (Below w.heap.size w wc))
  case first =>
    have H := HC6.out
    clear HC6
    replace H := Option.bind_eq_some_iff.mp H
    obtain ⟨t114, A70, H⟩ := H
    replace H : (if t114 = true then ((vizardref03_port.f a3).bind fun t115 => (vizardref03_Build.j0 k a0 a1 a2 a3 a4 (!t115))) else (vizardref03_Build.j0 k a0 a1 a2 a3 a4 true)) = some (r1, r2) := H
    have A7 := Aside0.mk A70
    clear A70
    by_cases c8 : t114 = true
    · subst c8
      have H1 : ((vizardref03_port.f a3).bind fun t115 => (vizardref03_Build.j0 k a0 a1 a2 a3 a4 (!t115))) = some (r1, r2) := by rw [if_pos rfl] at H; exact H
      clear H
      have H := H1
      clear H1
      replace H := Option.bind_eq_some_iff.mp H
      obtain ⟨t115, A90, H⟩ := H
      replace H : (vizardref03_Build.j0 k a0 a1 a2 a3 a4 (!t115)) = some (r1, r2) := H
      have A9 := Aside0.mk A90
      clear A90
      have H' := Aside0.mk H
      clear H
      go_wp2_with (first | ((with_reducible refine gate_callee (f := 19) rfl ?_); refine goesL_ (some 16) rfl rfl Try.func19 (by kernel_rfl) rfl #[.int .i64 a2] rfl (by (try simp only [List.map_toArray, List.map_cons, List.map_nil]); first | done | rfl | (simp only [List.length_drop, List.length_take]; rfl)) ?_; (with_reducible refine (vizardref03_port.calls a2 true _ A7.out).mono ?_); rintro e w' ⟨rfl, ⟨nd, rfl⟩⟩; refine ⟨_, rfl, ?_⟩) | (go_at_call 19; (with_reducible refine (vizardref03_port.calls a3 t115 _ A9.out).mono ?_); rintro e w' ⟨rfl, ⟨nd, rfl⟩⟩))
      go_meet
      case rel => exact ⟨_, (!t115), (by first | rfl | (simp; done) | (simp [*]; done)), H', ⟨by first | omega | exact Nat.le_refl _⟩, ⟨by repeat (first | (with_reducible first | exact HB.out | apply below_alloc | apply pw_below_drewN | apply below_drew1) | exact HB.out)⟩⟩
    · replace c8 := Bool.eq_false_iff.mpr c8
      subst c8
      have H1 : (vizardref03_Build.j0 k a0 a1 a2 a3 a4 true) = some (r1, r2) := by rw [if_neg (show ¬ (false = true) by decide)] at H; exact H
      clear H
      have H := H1
      clear H1
      have H' := Aside0.mk H
      clear H
      go_wp2_with (first | ((with_reducible refine gate_callee (f := 19) rfl ?_); refine goesL_ (some 16) rfl rfl Try.func19 (by kernel_rfl) rfl #[.int .i64 a2] rfl (by (try simp only [List.map_toArray, List.map_cons, List.map_nil]); first | done | rfl | (simp only [List.length_drop, List.length_take]; rfl)) ?_; (with_reducible refine (vizardref03_port.calls a2 false _ A7.out).mono ?_); rintro e w' ⟨rfl, ⟨nd, rfl⟩⟩; refine ⟨_, rfl, ?_⟩))
      go_meet
      case rel => exact ⟨_, (true), (by first | rfl | (simp; done) | (simp [*]; done)), H', ⟨by first | omega | exact Nat.le_refl _⟩, ⟨by repeat (first | (with_reducible first | exact HB.out | apply below_alloc | apply pw_below_drewN | apply below_drew1) | exact HB.out)⟩⟩
  case rest =>
    clear HC6
    try clear c1
    try clear p2
    try clear c8
    try clear c9
    obtain ⟨kq, x22_5, rfl, HA, HJ5, HB⟩ := hcut
    cases kq with
    | zero => exact absurd HA.out (by simp [vizardref03_Build.j0])
    | succ kj5 =>
      have H := HA.out
      clear HA
      simp only [vizardref03_Build.j0] at H
      by_cases c10 : x22_5 = true
      · subst c10
        have H1 : (some ((⟨#[]⟩ : ByteArray), 2)) = some (r1, r2) := by rw [if_pos rfl] at H; exact H
        clear H
        have H := H1
        clear H1
        simp only [Option.some.injEq, Prod.mk.injEq] at H
        obtain ⟨rfl, rfl⟩ := H
        go_wp2
        go_ret2
        exact ⟨by first | rfl | (simp [errW_none, errW_some] <;> rfl) | (simp [*, errW_none, errW_some] <;> rfl), by repeat (first | (with_reducible first | exact HB.out | apply below_alloc | apply pw_below_drewN | apply below_drew1) | exact HB.out)⟩
      · replace c10 := Bool.eq_false_iff.mpr c10
        subst c10
        have H1 : (if (a4.size : Int) > 65507 then (some ((⟨#[]⟩ : ByteArray), 8)) else ((vizardref03_word.f kj5 a2).bind fun t116 => ((vizardref03_word.f kj5 a3).bind fun t117 => (if t116.size + t117.size ≤ 9223372036854775807 then ((vizardref03_word.f kj5 (wrap64 (8 + (a4.size : Int)))).bind fun t118 => (if (t116 ++ t117).size + t118.size ≤ 9223372036854775807 then ((vizardref01_Bytes.f kj5 (wrap64 (a0)) 4).bind fun t119 => ((vizardref01_Bytes.f kj5 (wrap64 (a1)) 4).bind fun t120 => (if t119.size + t120.size ≤ 9223372036854775807 then ((vizardref03_word.f kj5 17).bind fun t121 => (if (t119 ++ t120).size + t121.size ≤ 9223372036854775807 then ((vizardref03_word.f kj5 (wrap64 (8 + (a4.size : Int)))).bind fun t122 => (if ((t119 ++ t120) ++ t121).size + t122.size ≤ 9223372036854775807 then (if (((t119 ++ t120) ++ t121) ++ t122).size + ((t116 ++ t117) ++ t118).size ≤ 9223372036854775807 then ((vizardref03_word.f kj5 0).bind fun t123 => (if ((((t119 ++ t120) ++ t121) ++ t122) ++ ((t116 ++ t117) ++ t118)).size + t123.size ≤ 9223372036854775807 then (if (((((t119 ++ t120) ++ t121) ++ t122) ++ ((t116 ++ t117) ++ t118)) ++ t123).size + a4.size ≤ 9223372036854775807 then ((vizardref02_Sum.f kj5 ((((((t119 ++ t120) ++ t121) ++ t122) ++ ((t116 ++ t117) ++ t118)) ++ t123) ++ a4)).bind fun t124 => (if t124 = 0 then ((vizardref03_word.f kj5 65535).bind fun t125 => (if ((t116 ++ t117) ++ t118).size + t125.size ≤ 9223372036854775807 then (if (((t116 ++ t117) ++ t118) ++ t125).size + a4.size ≤ 9223372036854775807 then (some ((((t116 ++ t117) ++ t118) ++ t125) ++ a4, 0)) else (none)) else (none))) else ((vizardref03_word.f kj5 t124).bind fun t126 => (if ((t116 ++ t117) ++ t118).size + t126.size ≤ 9223372036854775807 then (if (((t116 ++ t117) ++ t118) ++ t126).size + a4.size ≤ 9223372036854775807 then (some ((((t116 ++ t117) ++ t118) ++ t126) ++ a4, 0)) else (none)) else (none))))) else (none)) else (none))) else (none)) else (none))) else (none))) else (none)))) else (none))) else (none))))) = some (r1, r2) := by rw [if_neg (show ¬ (false = true) by decide)] at H; exact H
        clear H
        have H := H1
        clear H1
        by_cases c11 : (a4.size : Int) > 65507
        · rw [if_pos c11] at H
          have c11b0 : decide (65507 < (a4.size : Int)) = true := decide_eq_true c11
          have c11b1 : decide (65507 < a4.size) = true := decide_eq_true (by omega)
          clear c11
          simp only [Option.some.injEq, Prod.mk.injEq] at H
          obtain ⟨rfl, rfl⟩ := H
          go_wp2
          go_ret2
          exact ⟨by first | rfl | (simp [errW_none, errW_some] <;> rfl) | (simp [*, errW_none, errW_some] <;> rfl), by repeat (first | (with_reducible first | exact HB.out | apply below_alloc | apply pw_below_drewN | apply below_drew1) | exact HB.out)⟩
        · rw [if_neg c11] at H
          have c11b0 : decide (65507 < (a4.size : Int)) = false := decide_eq_false c11
          have c11b1 : decide (65507 < a4.size) = false := decide_eq_false (by omega)
          clear c11
          replace H := Option.bind_eq_some_iff.mp H
          obtain ⟨t116, A120, H⟩ := H
          replace H : ((vizardref03_word.f kj5 a3).bind fun t117 => (if t116.size + t117.size ≤ 9223372036854775807 then ((vizardref03_word.f kj5 (wrap64 (8 + (a4.size : Int)))).bind fun t118 => (if (t116 ++ t117).size + t118.size ≤ 9223372036854775807 then ((vizardref01_Bytes.f kj5 (wrap64 (a0)) 4).bind fun t119 => ((vizardref01_Bytes.f kj5 (wrap64 (a1)) 4).bind fun t120 => (if t119.size + t120.size ≤ 9223372036854775807 then ((vizardref03_word.f kj5 17).bind fun t121 => (if (t119 ++ t120).size + t121.size ≤ 9223372036854775807 then ((vizardref03_word.f kj5 (wrap64 (8 + (a4.size : Int)))).bind fun t122 => (if ((t119 ++ t120) ++ t121).size + t122.size ≤ 9223372036854775807 then (if (((t119 ++ t120) ++ t121) ++ t122).size + ((t116 ++ t117) ++ t118).size ≤ 9223372036854775807 then ((vizardref03_word.f kj5 0).bind fun t123 => (if ((((t119 ++ t120) ++ t121) ++ t122) ++ ((t116 ++ t117) ++ t118)).size + t123.size ≤ 9223372036854775807 then (if (((((t119 ++ t120) ++ t121) ++ t122) ++ ((t116 ++ t117) ++ t118)) ++ t123).size + a4.size ≤ 9223372036854775807 then ((vizardref02_Sum.f kj5 ((((((t119 ++ t120) ++ t121) ++ t122) ++ ((t116 ++ t117) ++ t118)) ++ t123) ++ a4)).bind fun t124 => (if t124 = 0 then ((vizardref03_word.f kj5 65535).bind fun t125 => (if ((t116 ++ t117) ++ t118).size + t125.size ≤ 9223372036854775807 then (if (((t116 ++ t117) ++ t118) ++ t125).size + a4.size ≤ 9223372036854775807 then (some ((((t116 ++ t117) ++ t118) ++ t125) ++ a4, 0)) else (none)) else (none))) else ((vizardref03_word.f kj5 t124).bind fun t126 => (if ((t116 ++ t117) ++ t118).size + t126.size ≤ 9223372036854775807 then (if (((t116 ++ t117) ++ t118) ++ t126).size + a4.size ≤ 9223372036854775807 then (some ((((t116 ++ t117) ++ t118) ++ t126) ++ a4, 0)) else (none)) else (none))))) else (none)) else (none))) else (none)) else (none))) else (none))) else (none)))) else (none))) else (none))) = some (r1, r2) := H
          have A12 := Aside0.mk A120
          clear A120
          replace H := Option.bind_eq_some_iff.mp H
          obtain ⟨t117, A130, H⟩ := H
          replace H : (if t116.size + t117.size ≤ 9223372036854775807 then ((vizardref03_word.f kj5 (wrap64 (8 + (a4.size : Int)))).bind fun t118 => (if (t116 ++ t117).size + t118.size ≤ 9223372036854775807 then ((vizardref01_Bytes.f kj5 (wrap64 (a0)) 4).bind fun t119 => ((vizardref01_Bytes.f kj5 (wrap64 (a1)) 4).bind fun t120 => (if t119.size + t120.size ≤ 9223372036854775807 then ((vizardref03_word.f kj5 17).bind fun t121 => (if (t119 ++ t120).size + t121.size ≤ 9223372036854775807 then ((vizardref03_word.f kj5 (wrap64 (8 + (a4.size : Int)))).bind fun t122 => (if ((t119 ++ t120) ++ t121).size + t122.size ≤ 9223372036854775807 then (if (((t119 ++ t120) ++ t121) ++ t122).size + ((t116 ++ t117) ++ t118).size ≤ 9223372036854775807 then ((vizardref03_word.f kj5 0).bind fun t123 => (if ((((t119 ++ t120) ++ t121) ++ t122) ++ ((t116 ++ t117) ++ t118)).size + t123.size ≤ 9223372036854775807 then (if (((((t119 ++ t120) ++ t121) ++ t122) ++ ((t116 ++ t117) ++ t118)) ++ t123).size + a4.size ≤ 9223372036854775807 then ((vizardref02_Sum.f kj5 ((((((t119 ++ t120) ++ t121) ++ t122) ++ ((t116 ++ t117) ++ t118)) ++ t123) ++ a4)).bind fun t124 => (if t124 = 0 then ((vizardref03_word.f kj5 65535).bind fun t125 => (if ((t116 ++ t117) ++ t118).size + t125.size ≤ 9223372036854775807 then (if (((t116 ++ t117) ++ t118) ++ t125).size + a4.size ≤ 9223372036854775807 then (some ((((t116 ++ t117) ++ t118) ++ t125) ++ a4, 0)) else (none)) else (none))) else ((vizardref03_word.f kj5 t124).bind fun t126 => (if ((t116 ++ t117) ++ t118).size + t126.size ≤ 9223372036854775807 then (if (((t116 ++ t117) ++ t118) ++ t126).size + a4.size ≤ 9223372036854775807 then (some ((((t116 ++ t117) ++ t118) ++ t126) ++ a4, 0)) else (none)) else (none))))) else (none)) else (none))) else (none)) else (none))) else (none))) else (none)))) else (none))) else (none)) = some (r1, r2) := H
          have A13 := Aside0.mk A130
          clear A130
          by_cases c14 : t116.size + t117.size ≤ 9223372036854775807
          · rw [if_pos c14] at H
            have c14b0 := eq_true c14
            have c14b1 : decide (t116.size + t117.size ≤ 9223372036854775807) = true := decide_eq_true c14
            try have c14b2 : (9223372036854775807 < t116.size + t117.size) = False := eq_false (Nat.not_lt.2 c14)
            replace H := Option.bind_eq_some_iff.mp H
            obtain ⟨t118, A150, H⟩ := H
            replace H : (if (t116 ++ t117).size + t118.size ≤ 9223372036854775807 then ((vizardref01_Bytes.f kj5 (wrap64 (a0)) 4).bind fun t119 => ((vizardref01_Bytes.f kj5 (wrap64 (a1)) 4).bind fun t120 => (if t119.size + t120.size ≤ 9223372036854775807 then ((vizardref03_word.f kj5 17).bind fun t121 => (if (t119 ++ t120).size + t121.size ≤ 9223372036854775807 then ((vizardref03_word.f kj5 (wrap64 (8 + (a4.size : Int)))).bind fun t122 => (if ((t119 ++ t120) ++ t121).size + t122.size ≤ 9223372036854775807 then (if (((t119 ++ t120) ++ t121) ++ t122).size + ((t116 ++ t117) ++ t118).size ≤ 9223372036854775807 then ((vizardref03_word.f kj5 0).bind fun t123 => (if ((((t119 ++ t120) ++ t121) ++ t122) ++ ((t116 ++ t117) ++ t118)).size + t123.size ≤ 9223372036854775807 then (if (((((t119 ++ t120) ++ t121) ++ t122) ++ ((t116 ++ t117) ++ t118)) ++ t123).size + a4.size ≤ 9223372036854775807 then ((vizardref02_Sum.f kj5 ((((((t119 ++ t120) ++ t121) ++ t122) ++ ((t116 ++ t117) ++ t118)) ++ t123) ++ a4)).bind fun t124 => (if t124 = 0 then ((vizardref03_word.f kj5 65535).bind fun t125 => (if ((t116 ++ t117) ++ t118).size + t125.size ≤ 9223372036854775807 then (if (((t116 ++ t117) ++ t118) ++ t125).size + a4.size ≤ 9223372036854775807 then (some ((((t116 ++ t117) ++ t118) ++ t125) ++ a4, 0)) else (none)) else (none))) else ((vizardref03_word.f kj5 t124).bind fun t126 => (if ((t116 ++ t117) ++ t118).size + t126.size ≤ 9223372036854775807 then (if (((t116 ++ t117) ++ t118) ++ t126).size + a4.size ≤ 9223372036854775807 then (some ((((t116 ++ t117) ++ t118) ++ t126) ++ a4, 0)) else (none)) else (none))))) else (none)) else (none))) else (none)) else (none))) else (none))) else (none)))) else (none)) = some (r1, r2) := H
            have A15 := Aside0.mk A150
            clear A150
            by_cases c16 : (t116 ++ t117).size + t118.size ≤ 9223372036854775807
            · rw [if_pos c16] at H
              have c16b0 := eq_true c16
              have c16b1 : decide ((t116 ++ t117).size + t118.size ≤ 9223372036854775807) = true := decide_eq_true c16
              try have c16b2 : (9223372036854775807 < (t116 ++ t117).size + t118.size) = False := eq_false (Nat.not_lt.2 c16)
              try (have c16b3 := c16b2; simp only [ByteArray.size_append] at c16b3)
              replace H := Option.bind_eq_some_iff.mp H
              obtain ⟨t119, A170, H⟩ := H
              replace H : ((vizardref01_Bytes.f kj5 (wrap64 (a1)) 4).bind fun t120 => (if t119.size + t120.size ≤ 9223372036854775807 then ((vizardref03_word.f kj5 17).bind fun t121 => (if (t119 ++ t120).size + t121.size ≤ 9223372036854775807 then ((vizardref03_word.f kj5 (wrap64 (8 + (a4.size : Int)))).bind fun t122 => (if ((t119 ++ t120) ++ t121).size + t122.size ≤ 9223372036854775807 then (if (((t119 ++ t120) ++ t121) ++ t122).size + ((t116 ++ t117) ++ t118).size ≤ 9223372036854775807 then ((vizardref03_word.f kj5 0).bind fun t123 => (if ((((t119 ++ t120) ++ t121) ++ t122) ++ ((t116 ++ t117) ++ t118)).size + t123.size ≤ 9223372036854775807 then (if (((((t119 ++ t120) ++ t121) ++ t122) ++ ((t116 ++ t117) ++ t118)) ++ t123).size + a4.size ≤ 9223372036854775807 then ((vizardref02_Sum.f kj5 ((((((t119 ++ t120) ++ t121) ++ t122) ++ ((t116 ++ t117) ++ t118)) ++ t123) ++ a4)).bind fun t124 => (if t124 = 0 then ((vizardref03_word.f kj5 65535).bind fun t125 => (if ((t116 ++ t117) ++ t118).size + t125.size ≤ 9223372036854775807 then (if (((t116 ++ t117) ++ t118) ++ t125).size + a4.size ≤ 9223372036854775807 then (some ((((t116 ++ t117) ++ t118) ++ t125) ++ a4, 0)) else (none)) else (none))) else ((vizardref03_word.f kj5 t124).bind fun t126 => (if ((t116 ++ t117) ++ t118).size + t126.size ≤ 9223372036854775807 then (if (((t116 ++ t117) ++ t118) ++ t126).size + a4.size ≤ 9223372036854775807 then (some ((((t116 ++ t117) ++ t118) ++ t126) ++ a4, 0)) else (none)) else (none))))) else (none)) else (none))) else (none)) else (none))) else (none))) else (none))) = some (r1, r2) := H
              have A17 := Aside0.mk A170
              clear A170
              replace H := Option.bind_eq_some_iff.mp H
              obtain ⟨t120, A180, H⟩ := H
              replace H : (if t119.size + t120.size ≤ 9223372036854775807 then ((vizardref03_word.f kj5 17).bind fun t121 => (if (t119 ++ t120).size + t121.size ≤ 9223372036854775807 then ((vizardref03_word.f kj5 (wrap64 (8 + (a4.size : Int)))).bind fun t122 => (if ((t119 ++ t120) ++ t121).size + t122.size ≤ 9223372036854775807 then (if (((t119 ++ t120) ++ t121) ++ t122).size + ((t116 ++ t117) ++ t118).size ≤ 9223372036854775807 then ((vizardref03_word.f kj5 0).bind fun t123 => (if ((((t119 ++ t120) ++ t121) ++ t122) ++ ((t116 ++ t117) ++ t118)).size + t123.size ≤ 9223372036854775807 then (if (((((t119 ++ t120) ++ t121) ++ t122) ++ ((t116 ++ t117) ++ t118)) ++ t123).size + a4.size ≤ 9223372036854775807 then ((vizardref02_Sum.f kj5 ((((((t119 ++ t120) ++ t121) ++ t122) ++ ((t116 ++ t117) ++ t118)) ++ t123) ++ a4)).bind fun t124 => (if t124 = 0 then ((vizardref03_word.f kj5 65535).bind fun t125 => (if ((t116 ++ t117) ++ t118).size + t125.size ≤ 9223372036854775807 then (if (((t116 ++ t117) ++ t118) ++ t125).size + a4.size ≤ 9223372036854775807 then (some ((((t116 ++ t117) ++ t118) ++ t125) ++ a4, 0)) else (none)) else (none))) else ((vizardref03_word.f kj5 t124).bind fun t126 => (if ((t116 ++ t117) ++ t118).size + t126.size ≤ 9223372036854775807 then (if (((t116 ++ t117) ++ t118) ++ t126).size + a4.size ≤ 9223372036854775807 then (some ((((t116 ++ t117) ++ t118) ++ t126) ++ a4, 0)) else (none)) else (none))))) else (none)) else (none))) else (none)) else (none))) else (none))) else (none)) = some (r1, r2) := H
              have A18 := Aside0.mk A180
              clear A180
              by_cases c19 : t119.size + t120.size ≤ 9223372036854775807
              · rw [if_pos c19] at H
                have c19b0 := eq_true c19
                have c19b1 : decide (t119.size + t120.size ≤ 9223372036854775807) = true := decide_eq_true c19
                try have c19b2 : (9223372036854775807 < t119.size + t120.size) = False := eq_false (Nat.not_lt.2 c19)
                replace H := Option.bind_eq_some_iff.mp H
                obtain ⟨t121, A200, H⟩ := H
                replace H : (if (t119 ++ t120).size + t121.size ≤ 9223372036854775807 then ((vizardref03_word.f kj5 (wrap64 (8 + (a4.size : Int)))).bind fun t122 => (if ((t119 ++ t120) ++ t121).size + t122.size ≤ 9223372036854775807 then (if (((t119 ++ t120) ++ t121) ++ t122).size + ((t116 ++ t117) ++ t118).size ≤ 9223372036854775807 then ((vizardref03_word.f kj5 0).bind fun t123 => (if ((((t119 ++ t120) ++ t121) ++ t122) ++ ((t116 ++ t117) ++ t118)).size + t123.size ≤ 9223372036854775807 then (if (((((t119 ++ t120) ++ t121) ++ t122) ++ ((t116 ++ t117) ++ t118)) ++ t123).size + a4.size ≤ 9223372036854775807 then ((vizardref02_Sum.f kj5 ((((((t119 ++ t120) ++ t121) ++ t122) ++ ((t116 ++ t117) ++ t118)) ++ t123) ++ a4)).bind fun t124 => (if t124 = 0 then ((vizardref03_word.f kj5 65535).bind fun t125 => (if ((t116 ++ t117) ++ t118).size + t125.size ≤ 9223372036854775807 then (if (((t116 ++ t117) ++ t118) ++ t125).size + a4.size ≤ 9223372036854775807 then (some ((((t116 ++ t117) ++ t118) ++ t125) ++ a4, 0)) else (none)) else (none))) else ((vizardref03_word.f kj5 t124).bind fun t126 => (if ((t116 ++ t117) ++ t118).size + t126.size ≤ 9223372036854775807 then (if (((t116 ++ t117) ++ t118) ++ t126).size + a4.size ≤ 9223372036854775807 then (some ((((t116 ++ t117) ++ t118) ++ t126) ++ a4, 0)) else (none)) else (none))))) else (none)) else (none))) else (none)) else (none))) else (none)) = some (r1, r2) := H
                have A20 := Aside0.mk A200
                clear A200
                by_cases c21 : (t119 ++ t120).size + t121.size ≤ 9223372036854775807
                · rw [if_pos c21] at H
                  have c21b0 := eq_true c21
                  have c21b1 : decide ((t119 ++ t120).size + t121.size ≤ 9223372036854775807) = true := decide_eq_true c21
                  try have c21b2 : (9223372036854775807 < (t119 ++ t120).size + t121.size) = False := eq_false (Nat.not_lt.2 c21)
                  try (have c21b3 := c21b2; simp only [ByteArray.size_append] at c21b3)
                  replace H := Option.bind_eq_some_iff.mp H
                  obtain ⟨t122, A220, H⟩ := H
                  replace H : (if ((t119 ++ t120) ++ t121).size + t122.size ≤ 9223372036854775807 then (if (((t119 ++ t120) ++ t121) ++ t122).size + ((t116 ++ t117) ++ t118).size ≤ 9223372036854775807 then ((vizardref03_word.f kj5 0).bind fun t123 => (if ((((t119 ++ t120) ++ t121) ++ t122) ++ ((t116 ++ t117) ++ t118)).size + t123.size ≤ 9223372036854775807 then (if (((((t119 ++ t120) ++ t121) ++ t122) ++ ((t116 ++ t117) ++ t118)) ++ t123).size + a4.size ≤ 9223372036854775807 then ((vizardref02_Sum.f kj5 ((((((t119 ++ t120) ++ t121) ++ t122) ++ ((t116 ++ t117) ++ t118)) ++ t123) ++ a4)).bind fun t124 => (if t124 = 0 then ((vizardref03_word.f kj5 65535).bind fun t125 => (if ((t116 ++ t117) ++ t118).size + t125.size ≤ 9223372036854775807 then (if (((t116 ++ t117) ++ t118) ++ t125).size + a4.size ≤ 9223372036854775807 then (some ((((t116 ++ t117) ++ t118) ++ t125) ++ a4, 0)) else (none)) else (none))) else ((vizardref03_word.f kj5 t124).bind fun t126 => (if ((t116 ++ t117) ++ t118).size + t126.size ≤ 9223372036854775807 then (if (((t116 ++ t117) ++ t118) ++ t126).size + a4.size ≤ 9223372036854775807 then (some ((((t116 ++ t117) ++ t118) ++ t126) ++ a4, 0)) else (none)) else (none))))) else (none)) else (none))) else (none)) else (none)) = some (r1, r2) := H
                  have A22 := Aside0.mk A220
                  clear A220
                  by_cases c23 : ((t119 ++ t120) ++ t121).size + t122.size ≤ 9223372036854775807
                  · rw [if_pos c23] at H
                    have c23b0 := eq_true c23
                    have c23b1 : decide (((t119 ++ t120) ++ t121).size + t122.size ≤ 9223372036854775807) = true := decide_eq_true c23
                    try have c23b2 : (9223372036854775807 < ((t119 ++ t120) ++ t121).size + t122.size) = False := eq_false (Nat.not_lt.2 c23)
                    try (have c23b3 := c23b2; simp only [ByteArray.size_append] at c23b3)
                    by_cases c24 : (((t119 ++ t120) ++ t121) ++ t122).size + ((t116 ++ t117) ++ t118).size ≤ 9223372036854775807
                    · rw [if_pos c24] at H
                      have c24b0 := eq_true c24
                      have c24b1 : decide ((((t119 ++ t120) ++ t121) ++ t122).size + ((t116 ++ t117) ++ t118).size ≤ 9223372036854775807) = true := decide_eq_true c24
                      try have c24b2 : (9223372036854775807 < (((t119 ++ t120) ++ t121) ++ t122).size + ((t116 ++ t117) ++ t118).size) = False := eq_false (Nat.not_lt.2 c24)
                      try (have c24b3 := c24b2; simp only [ByteArray.size_append] at c24b3)
                      replace H := Option.bind_eq_some_iff.mp H
                      obtain ⟨t123, A250, H⟩ := H
                      replace H : (if ((((t119 ++ t120) ++ t121) ++ t122) ++ ((t116 ++ t117) ++ t118)).size + t123.size ≤ 9223372036854775807 then (if (((((t119 ++ t120) ++ t121) ++ t122) ++ ((t116 ++ t117) ++ t118)) ++ t123).size + a4.size ≤ 9223372036854775807 then ((vizardref02_Sum.f kj5 ((((((t119 ++ t120) ++ t121) ++ t122) ++ ((t116 ++ t117) ++ t118)) ++ t123) ++ a4)).bind fun t124 => (if t124 = 0 then ((vizardref03_word.f kj5 65535).bind fun t125 => (if ((t116 ++ t117) ++ t118).size + t125.size ≤ 9223372036854775807 then (if (((t116 ++ t117) ++ t118) ++ t125).size + a4.size ≤ 9223372036854775807 then (some ((((t116 ++ t117) ++ t118) ++ t125) ++ a4, 0)) else (none)) else (none))) else ((vizardref03_word.f kj5 t124).bind fun t126 => (if ((t116 ++ t117) ++ t118).size + t126.size ≤ 9223372036854775807 then (if (((t116 ++ t117) ++ t118) ++ t126).size + a4.size ≤ 9223372036854775807 then (some ((((t116 ++ t117) ++ t118) ++ t126) ++ a4, 0)) else (none)) else (none))))) else (none)) else (none)) = some (r1, r2) := H
                      have A25 := Aside0.mk A250
                      clear A250
                      by_cases c26 : ((((t119 ++ t120) ++ t121) ++ t122) ++ ((t116 ++ t117) ++ t118)).size + t123.size ≤ 9223372036854775807
                      · rw [if_pos c26] at H
                        have c26b0 := eq_true c26
                        have c26b1 : decide (((((t119 ++ t120) ++ t121) ++ t122) ++ ((t116 ++ t117) ++ t118)).size + t123.size ≤ 9223372036854775807) = true := decide_eq_true c26
                        try have c26b2 : (9223372036854775807 < ((((t119 ++ t120) ++ t121) ++ t122) ++ ((t116 ++ t117) ++ t118)).size + t123.size) = False := eq_false (Nat.not_lt.2 c26)
                        try (have c26b3 := c26b2; simp only [ByteArray.size_append] at c26b3)
                        by_cases c27 : (((((t119 ++ t120) ++ t121) ++ t122) ++ ((t116 ++ t117) ++ t118)) ++ t123).size + a4.size ≤ 9223372036854775807
                        · rw [if_pos c27] at H
                          have c27b0 := eq_true c27
                          have c27b1 : decide ((((((t119 ++ t120) ++ t121) ++ t122) ++ ((t116 ++ t117) ++ t118)) ++ t123).size + a4.size ≤ 9223372036854775807) = true := decide_eq_true c27
                          try have c27b2 : (9223372036854775807 < (((((t119 ++ t120) ++ t121) ++ t122) ++ ((t116 ++ t117) ++ t118)) ++ t123).size + a4.size) = False := eq_false (Nat.not_lt.2 c27)
                          try (have c27b3 := c27b2; simp only [ByteArray.size_append] at c27b3)
                          replace H := Option.bind_eq_some_iff.mp H
                          obtain ⟨t124, A280, H⟩ := H
                          replace H : (if t124 = 0 then ((vizardref03_word.f kj5 65535).bind fun t125 => (if ((t116 ++ t117) ++ t118).size + t125.size ≤ 9223372036854775807 then (if (((t116 ++ t117) ++ t118) ++ t125).size + a4.size ≤ 9223372036854775807 then (some ((((t116 ++ t117) ++ t118) ++ t125) ++ a4, 0)) else (none)) else (none))) else ((vizardref03_word.f kj5 t124).bind fun t126 => (if ((t116 ++ t117) ++ t118).size + t126.size ≤ 9223372036854775807 then (if (((t116 ++ t117) ++ t118) ++ t126).size + a4.size ≤ 9223372036854775807 then (some ((((t116 ++ t117) ++ t118) ++ t126) ++ a4, 0)) else (none)) else (none)))) = some (r1, r2) := H
                          have A28 := Aside0.mk A280
                          clear A280
                          by_cases c29 : t124 = 0
                          · rw [if_pos c29] at H
                            have c29b0 : (t124 == 0) = true := beq_iff_eq.mpr c29
                            have c29b1 : (t124 != 0) = false := bne_eq_false_iff_eq.mpr c29
                            clear c29
                            replace H := Option.bind_eq_some_iff.mp H
                            obtain ⟨t125, A300, H⟩ := H
                            replace H : (if ((t116 ++ t117) ++ t118).size + t125.size ≤ 9223372036854775807 then (if (((t116 ++ t117) ++ t118) ++ t125).size + a4.size ≤ 9223372036854775807 then (some ((((t116 ++ t117) ++ t118) ++ t125) ++ a4, 0)) else (none)) else (none)) = some (r1, r2) := H
                            have A30 := Aside0.mk A300
                            clear A300
                            by_cases c31 : ((t116 ++ t117) ++ t118).size + t125.size ≤ 9223372036854775807
                            · rw [if_pos c31] at H
                              have c31b0 := eq_true c31
                              have c31b1 : decide (((t116 ++ t117) ++ t118).size + t125.size ≤ 9223372036854775807) = true := decide_eq_true c31
                              try have c31b2 : (9223372036854775807 < ((t116 ++ t117) ++ t118).size + t125.size) = False := eq_false (Nat.not_lt.2 c31)
                              try (have c31b3 := c31b2; simp only [ByteArray.size_append] at c31b3)
                              by_cases c32 : (((t116 ++ t117) ++ t118) ++ t125).size + a4.size ≤ 9223372036854775807
                              · rw [if_pos c32] at H
                                have c32b0 := eq_true c32
                                have c32b1 : decide ((((t116 ++ t117) ++ t118) ++ t125).size + a4.size ≤ 9223372036854775807) = true := decide_eq_true c32
                                try have c32b2 : (9223372036854775807 < (((t116 ++ t117) ++ t118) ++ t125).size + a4.size) = False := eq_false (Nat.not_lt.2 c32)
                                try (have c32b3 := c32b2; simp only [ByteArray.size_append] at c32b3)
                                simp only [Option.some.injEq, Prod.mk.injEq] at H
                                obtain ⟨rfl, rfl⟩ := H
                                go_wp2_with (first | ((with_reducible refine gate_callee (f := 20) rfl ?_); refine goesL_ (some 27) rfl rfl Try.func20 (by kernel_rfl) rfl #[.int .i64 a2] rfl (by (try simp only [List.map_toArray, List.map_cons, List.map_nil]); first | done | rfl | (simp only [List.length_drop, List.length_take]; rfl)) ?_; (with_reducible refine (vizardref03_word.calls kj5 a2 t116 _ A12.out).mono ?_); rintro e w33 ⟨rfl, hb⟩; refine ⟨_, rfl, ?_⟩; have n0_ := Aside0.mk (below_step (by repeat (first | (with_reducible first | exact HB.out | apply below_alloc | apply pw_below_drewN | apply below_drew1) | exact HB.out)) hb); clear HB; have HB := n0_; clear n0_; (try clear hb); (try clear hb2); (try clear hk); (try clear hi)) | ((with_reducible refine gate_callee (f := 20) rfl ?_); refine goesL_ (some 29) rfl rfl Try.func20 (by kernel_rfl) rfl #[.int .i64 a3] rfl (by (try simp only [List.map_toArray, List.map_cons, List.map_nil]); first | done | rfl | (simp only [List.length_drop, List.length_take]; rfl)) ?_; (with_reducible refine (vizardref03_word.calls kj5 a3 t117 _ A13.out).mono ?_); rintro e w34 ⟨rfl, hb⟩; refine ⟨_, rfl, ?_⟩; have n0_ := Aside0.mk (below_step (by repeat (first | (with_reducible first | exact HB.out | apply below_alloc | apply pw_below_drewN | apply below_drew1) | exact HB.out)) hb); clear HB; have HB := n0_; clear n0_; (try clear hb); (try clear hb2); (try clear hk); (try clear hi)) | ((with_reducible refine gate_callee (f := 20) rfl ?_); refine goesL_ (some 34) rfl rfl Try.func20 (by kernel_rfl) rfl #[.int .i64 (wrap64 (8 + (a4.size : Int)))] rfl (by (try simp only [List.map_toArray, List.map_cons, List.map_nil]); first | done | rfl | (simp only [List.length_drop, List.length_take]; rfl)) ?_; (with_reducible refine (vizardref03_word.calls kj5 (wrap64 (8 + (a4.size : Int))) t118 _ A15.out).mono ?_); rintro e w35 ⟨rfl, hb⟩; refine ⟨_, rfl, ?_⟩; have n0_ := Aside0.mk (below_step (by repeat (first | (with_reducible first | exact HB.out | apply below_alloc | apply pw_below_drewN | apply below_drew1) | exact HB.out)) hb); clear HB; have HB := n0_; clear n0_; (try clear hb); (try clear hb2); (try clear hk); (try clear hi)) | ((with_reducible refine gate_callee (f := 21) rfl ?_); refine goesL_ (some 38) rfl rfl Try.func21 (by kernel_rfl) rfl #[.int .i64 (wrap64 (a0)), .int .i64 4] rfl (by (try simp only [List.map_toArray, List.map_cons, List.map_nil]); first | done | rfl | (simp only [List.length_drop, List.length_take]; rfl)) ?_; (with_reducible refine (vizardref01_Bytes.calls kj5 (wrap64 (a0)) 4 t119 _ A17.out).mono ?_); rintro e w36 ⟨rfl, hb⟩; refine ⟨_, rfl, ?_⟩; have n0_ := Aside0.mk (below_step (by repeat (first | (with_reducible first | exact HB.out | apply below_alloc | apply pw_below_drewN | apply below_drew1) | exact HB.out)) hb); clear HB; have HB := n0_; clear n0_; (try clear hb); (try clear hb2); (try clear hk); (try clear hi)) | ((with_reducible refine gate_callee (f := 21) rfl ?_); refine goesL_ (some 41) rfl rfl Try.func21 (by kernel_rfl) rfl #[.int .i64 (wrap64 (a1)), .int .i64 4] rfl (by (try simp only [List.map_toArray, List.map_cons, List.map_nil]); first | done | rfl | (simp only [List.length_drop, List.length_take]; rfl)) ?_; (with_reducible refine (vizardref01_Bytes.calls kj5 (wrap64 (a1)) 4 t120 _ A18.out).mono ?_); rintro e w37 ⟨rfl, hb⟩; refine ⟨_, rfl, ?_⟩; have n0_ := Aside0.mk (below_step (by repeat (first | (with_reducible first | exact HB.out | apply below_alloc | apply pw_below_drewN | apply below_drew1) | exact HB.out)) hb); clear HB; have HB := n0_; clear n0_; (try clear hb); (try clear hb2); (try clear hk); (try clear hi)) | ((with_reducible refine gate_callee (f := 20) rfl ?_); refine goesL_ (some 43) rfl rfl Try.func20 (by kernel_rfl) rfl #[.int .i64 17] rfl (by (try simp only [List.map_toArray, List.map_cons, List.map_nil]); first | done | rfl | (simp only [List.length_drop, List.length_take]; rfl)) ?_; (with_reducible refine (vizardref03_word.calls kj5 17 t121 _ A20.out).mono ?_); rintro e w38 ⟨rfl, hb⟩; refine ⟨_, rfl, ?_⟩; have n0_ := Aside0.mk (below_step (by repeat (first | (with_reducible first | exact HB.out | apply below_alloc | apply pw_below_drewN | apply below_drew1) | exact HB.out)) hb); clear HB; have HB := n0_; clear n0_; (try clear hb); (try clear hb2); (try clear hk); (try clear hi)) | ((with_reducible refine gate_callee (f := 20) rfl ?_); refine goesL_ (some 48) rfl rfl Try.func20 (by kernel_rfl) rfl #[.int .i64 (wrap64 (8 + (a4.size : Int)))] rfl (by (try simp only [List.map_toArray, List.map_cons, List.map_nil]); first | done | rfl | (simp only [List.length_drop, List.length_take]; rfl)) ?_; (with_reducible refine (vizardref03_word.calls kj5 (wrap64 (8 + (a4.size : Int))) t122 _ A22.out).mono ?_); rintro e w39 ⟨rfl, hb⟩; refine ⟨_, rfl, ?_⟩; have n0_ := Aside0.mk (below_step (by repeat (first | (with_reducible first | exact HB.out | apply below_alloc | apply pw_below_drewN | apply below_drew1) | exact HB.out)) hb); clear HB; have HB := n0_; clear n0_; (try clear hb); (try clear hb2); (try clear hk); (try clear hi)) | ((with_reducible refine gate_callee (f := 20) rfl ?_); refine goesL_ (some 53) rfl rfl Try.func20 (by kernel_rfl) rfl #[.int .i64 0] rfl (by (try simp only [List.map_toArray, List.map_cons, List.map_nil]); first | done | rfl | (simp only [List.length_drop, List.length_take]; rfl)) ?_; (with_reducible refine (vizardref03_word.calls kj5 0 t123 _ A25.out).mono ?_); rintro e w40 ⟨rfl, hb⟩; refine ⟨_, rfl, ?_⟩; have n0_ := Aside0.mk (below_step (by repeat (first | (with_reducible first | exact HB.out | apply below_alloc | apply pw_below_drewN | apply below_drew1) | exact HB.out)) hb); clear HB; have HB := n0_; clear n0_; (try clear hb); (try clear hb2); (try clear hk); (try clear hi)) | ((with_reducible refine gate_callee (f := 22) rfl ?_); refine goesL_ (some 57) rfl rfl Try.func22 (by kernel_rfl) rfl #[.string ((((((t119 ++ t120) ++ t121) ++ t122) ++ ((t116 ++ t117) ++ t118)) ++ t123) ++ a4)] rfl (by (try simp only [List.map_toArray, List.map_cons, List.map_nil]); first | done | rfl | (simp only [List.length_drop, List.length_take]; rfl)) ?_; (with_reducible refine (vizardref02_Sum.calls kj5 ((((((t119 ++ t120) ++ t121) ++ t122) ++ ((t116 ++ t117) ++ t118)) ++ t123) ++ a4) t124 _ A28.out).mono ?_); rintro e w' ⟨rfl, ⟨nd, rfl⟩⟩; refine ⟨_, rfl, ?_⟩) | ((with_reducible refine gate_callee (f := 20) rfl ?_); refine goesL_ (some 62) rfl rfl Try.func20 (by kernel_rfl) rfl #[.int .i64 65535] rfl (by (try simp only [List.map_toArray, List.map_cons, List.map_nil]); first | done | rfl | (simp only [List.length_drop, List.length_take]; rfl)) ?_; (with_reducible refine (vizardref03_word.calls kj5 65535 t125 _ A30.out).mono ?_); rintro e w41 ⟨rfl, hb⟩; refine ⟨_, rfl, ?_⟩; have n0_ := Aside0.mk (below_step (by repeat (first | (with_reducible first | exact HB.out | apply below_alloc | apply pw_below_drewN | apply below_drew1) | exact HB.out)) hb); clear HB; have HB := n0_; clear n0_; (try clear hb); (try clear hb2); (try clear hk); (try clear hi)))
                                go_ret2
                                exact ⟨by first | rfl | (simp [errW_none, errW_some] <;> rfl) | (simp [*, errW_none, errW_some] <;> rfl), by repeat (first | (with_reducible first | exact HB.out | apply below_alloc | apply pw_below_drewN | apply below_drew1) | exact HB.out)⟩
                              · rw [if_neg c32] at H
                                exact absurd H (by simp)
                            · rw [if_neg c31] at H
                              exact absurd H (by simp)
                          · rw [if_neg c29] at H
                            have c29b0 : (t124 == 0) = false := beq_eq_false_iff_ne.mpr c29
                            have c29b1 : (t124 != 0) = true := bne_iff_ne.mpr c29
                            replace H := Option.bind_eq_some_iff.mp H
                            obtain ⟨t126, A420, H⟩ := H
                            replace H : (if ((t116 ++ t117) ++ t118).size + t126.size ≤ 9223372036854775807 then (if (((t116 ++ t117) ++ t118) ++ t126).size + a4.size ≤ 9223372036854775807 then (some ((((t116 ++ t117) ++ t118) ++ t126) ++ a4, 0)) else (none)) else (none)) = some (r1, r2) := H
                            have A42 := Aside0.mk A420
                            clear A420
                            by_cases c43 : ((t116 ++ t117) ++ t118).size + t126.size ≤ 9223372036854775807
                            · rw [if_pos c43] at H
                              have c43b0 := eq_true c43
                              have c43b1 : decide (((t116 ++ t117) ++ t118).size + t126.size ≤ 9223372036854775807) = true := decide_eq_true c43
                              try have c43b2 : (9223372036854775807 < ((t116 ++ t117) ++ t118).size + t126.size) = False := eq_false (Nat.not_lt.2 c43)
                              try (have c43b3 := c43b2; simp only [ByteArray.size_append] at c43b3)
                              by_cases c44 : (((t116 ++ t117) ++ t118) ++ t126).size + a4.size ≤ 9223372036854775807
                              · rw [if_pos c44] at H
                                have c44b0 := eq_true c44
                                have c44b1 : decide ((((t116 ++ t117) ++ t118) ++ t126).size + a4.size ≤ 9223372036854775807) = true := decide_eq_true c44
                                try have c44b2 : (9223372036854775807 < (((t116 ++ t117) ++ t118) ++ t126).size + a4.size) = False := eq_false (Nat.not_lt.2 c44)
                                try (have c44b3 := c44b2; simp only [ByteArray.size_append] at c44b3)
                                simp only [Option.some.injEq, Prod.mk.injEq] at H
                                obtain ⟨rfl, rfl⟩ := H
                                go_wp2_with (first | ((with_reducible refine gate_callee (f := 20) rfl ?_); refine goesL_ (some 27) rfl rfl Try.func20 (by kernel_rfl) rfl #[.int .i64 a2] rfl (by (try simp only [List.map_toArray, List.map_cons, List.map_nil]); first | done | rfl | (simp only [List.length_drop, List.length_take]; rfl)) ?_; (with_reducible refine (vizardref03_word.calls kj5 a2 t116 _ A12.out).mono ?_); rintro e w45 ⟨rfl, hb⟩; refine ⟨_, rfl, ?_⟩; have n0_ := Aside0.mk (below_step (by repeat (first | (with_reducible first | exact HB.out | apply below_alloc | apply pw_below_drewN | apply below_drew1) | exact HB.out)) hb); clear HB; have HB := n0_; clear n0_; (try clear hb); (try clear hb2); (try clear hk); (try clear hi)) | ((with_reducible refine gate_callee (f := 20) rfl ?_); refine goesL_ (some 29) rfl rfl Try.func20 (by kernel_rfl) rfl #[.int .i64 a3] rfl (by (try simp only [List.map_toArray, List.map_cons, List.map_nil]); first | done | rfl | (simp only [List.length_drop, List.length_take]; rfl)) ?_; (with_reducible refine (vizardref03_word.calls kj5 a3 t117 _ A13.out).mono ?_); rintro e w46 ⟨rfl, hb⟩; refine ⟨_, rfl, ?_⟩; have n0_ := Aside0.mk (below_step (by repeat (first | (with_reducible first | exact HB.out | apply below_alloc | apply pw_below_drewN | apply below_drew1) | exact HB.out)) hb); clear HB; have HB := n0_; clear n0_; (try clear hb); (try clear hb2); (try clear hk); (try clear hi)) | ((with_reducible refine gate_callee (f := 20) rfl ?_); refine goesL_ (some 34) rfl rfl Try.func20 (by kernel_rfl) rfl #[.int .i64 (wrap64 (8 + (a4.size : Int)))] rfl (by (try simp only [List.map_toArray, List.map_cons, List.map_nil]); first | done | rfl | (simp only [List.length_drop, List.length_take]; rfl)) ?_; (with_reducible refine (vizardref03_word.calls kj5 (wrap64 (8 + (a4.size : Int))) t118 _ A15.out).mono ?_); rintro e w47 ⟨rfl, hb⟩; refine ⟨_, rfl, ?_⟩; have n0_ := Aside0.mk (below_step (by repeat (first | (with_reducible first | exact HB.out | apply below_alloc | apply pw_below_drewN | apply below_drew1) | exact HB.out)) hb); clear HB; have HB := n0_; clear n0_; (try clear hb); (try clear hb2); (try clear hk); (try clear hi)) | ((with_reducible refine gate_callee (f := 21) rfl ?_); refine goesL_ (some 38) rfl rfl Try.func21 (by kernel_rfl) rfl #[.int .i64 (wrap64 (a0)), .int .i64 4] rfl (by (try simp only [List.map_toArray, List.map_cons, List.map_nil]); first | done | rfl | (simp only [List.length_drop, List.length_take]; rfl)) ?_; (with_reducible refine (vizardref01_Bytes.calls kj5 (wrap64 (a0)) 4 t119 _ A17.out).mono ?_); rintro e w48 ⟨rfl, hb⟩; refine ⟨_, rfl, ?_⟩; have n0_ := Aside0.mk (below_step (by repeat (first | (with_reducible first | exact HB.out | apply below_alloc | apply pw_below_drewN | apply below_drew1) | exact HB.out)) hb); clear HB; have HB := n0_; clear n0_; (try clear hb); (try clear hb2); (try clear hk); (try clear hi)) | ((with_reducible refine gate_callee (f := 21) rfl ?_); refine goesL_ (some 41) rfl rfl Try.func21 (by kernel_rfl) rfl #[.int .i64 (wrap64 (a1)), .int .i64 4] rfl (by (try simp only [List.map_toArray, List.map_cons, List.map_nil]); first | done | rfl | (simp only [List.length_drop, List.length_take]; rfl)) ?_; (with_reducible refine (vizardref01_Bytes.calls kj5 (wrap64 (a1)) 4 t120 _ A18.out).mono ?_); rintro e w49 ⟨rfl, hb⟩; refine ⟨_, rfl, ?_⟩; have n0_ := Aside0.mk (below_step (by repeat (first | (with_reducible first | exact HB.out | apply below_alloc | apply pw_below_drewN | apply below_drew1) | exact HB.out)) hb); clear HB; have HB := n0_; clear n0_; (try clear hb); (try clear hb2); (try clear hk); (try clear hi)) | ((with_reducible refine gate_callee (f := 20) rfl ?_); refine goesL_ (some 43) rfl rfl Try.func20 (by kernel_rfl) rfl #[.int .i64 17] rfl (by (try simp only [List.map_toArray, List.map_cons, List.map_nil]); first | done | rfl | (simp only [List.length_drop, List.length_take]; rfl)) ?_; (with_reducible refine (vizardref03_word.calls kj5 17 t121 _ A20.out).mono ?_); rintro e w50 ⟨rfl, hb⟩; refine ⟨_, rfl, ?_⟩; have n0_ := Aside0.mk (below_step (by repeat (first | (with_reducible first | exact HB.out | apply below_alloc | apply pw_below_drewN | apply below_drew1) | exact HB.out)) hb); clear HB; have HB := n0_; clear n0_; (try clear hb); (try clear hb2); (try clear hk); (try clear hi)) | ((with_reducible refine gate_callee (f := 20) rfl ?_); refine goesL_ (some 48) rfl rfl Try.func20 (by kernel_rfl) rfl #[.int .i64 (wrap64 (8 + (a4.size : Int)))] rfl (by (try simp only [List.map_toArray, List.map_cons, List.map_nil]); first | done | rfl | (simp only [List.length_drop, List.length_take]; rfl)) ?_; (with_reducible refine (vizardref03_word.calls kj5 (wrap64 (8 + (a4.size : Int))) t122 _ A22.out).mono ?_); rintro e w51 ⟨rfl, hb⟩; refine ⟨_, rfl, ?_⟩; have n0_ := Aside0.mk (below_step (by repeat (first | (with_reducible first | exact HB.out | apply below_alloc | apply pw_below_drewN | apply below_drew1) | exact HB.out)) hb); clear HB; have HB := n0_; clear n0_; (try clear hb); (try clear hb2); (try clear hk); (try clear hi)) | ((with_reducible refine gate_callee (f := 20) rfl ?_); refine goesL_ (some 53) rfl rfl Try.func20 (by kernel_rfl) rfl #[.int .i64 0] rfl (by (try simp only [List.map_toArray, List.map_cons, List.map_nil]); first | done | rfl | (simp only [List.length_drop, List.length_take]; rfl)) ?_; (with_reducible refine (vizardref03_word.calls kj5 0 t123 _ A25.out).mono ?_); rintro e w52 ⟨rfl, hb⟩; refine ⟨_, rfl, ?_⟩; have n0_ := Aside0.mk (below_step (by repeat (first | (with_reducible first | exact HB.out | apply below_alloc | apply pw_below_drewN | apply below_drew1) | exact HB.out)) hb); clear HB; have HB := n0_; clear n0_; (try clear hb); (try clear hb2); (try clear hk); (try clear hi)) | ((with_reducible refine gate_callee (f := 22) rfl ?_); refine goesL_ (some 57) rfl rfl Try.func22 (by kernel_rfl) rfl #[.string ((((((t119 ++ t120) ++ t121) ++ t122) ++ ((t116 ++ t117) ++ t118)) ++ t123) ++ a4)] rfl (by (try simp only [List.map_toArray, List.map_cons, List.map_nil]); first | done | rfl | (simp only [List.length_drop, List.length_take]; rfl)) ?_; (with_reducible refine (vizardref02_Sum.calls kj5 ((((((t119 ++ t120) ++ t121) ++ t122) ++ ((t116 ++ t117) ++ t118)) ++ t123) ++ a4) t124 _ A28.out).mono ?_); rintro e w' ⟨rfl, ⟨nd, rfl⟩⟩; refine ⟨_, rfl, ?_⟩) | ((with_reducible refine gate_callee (f := 20) rfl ?_); refine goesL_ (some 62) rfl rfl Try.func20 (by kernel_rfl) rfl #[.int .i64 t124] rfl (by (try simp only [List.map_toArray, List.map_cons, List.map_nil]); first | done | rfl | (simp only [List.length_drop, List.length_take]; rfl)) ?_; (with_reducible refine (vizardref03_word.calls kj5 t124 t126 _ A42.out).mono ?_); rintro e w53 ⟨rfl, hb⟩; refine ⟨_, rfl, ?_⟩; have n0_ := Aside0.mk (below_step (by repeat (first | (with_reducible first | exact HB.out | apply below_alloc | apply pw_below_drewN | apply below_drew1) | exact HB.out)) hb); clear HB; have HB := n0_; clear n0_; (try clear hb); (try clear hb2); (try clear hk); (try clear hi)))
                                go_ret2
                                exact ⟨by first | rfl | (simp [errW_none, errW_some] <;> rfl) | (simp [*, errW_none, errW_some] <;> rfl), by repeat (first | (with_reducible first | exact HB.out | apply below_alloc | apply pw_below_drewN | apply below_drew1) | exact HB.out)⟩
                              · rw [if_neg c44] at H
                                exact absurd H (by simp)
                            · rw [if_neg c43] at H
                              exact absurd H (by simp)
                        · rw [if_neg c27] at H
                          exact absurd H (by simp)
                      · rw [if_neg c26] at H
                        exact absurd H (by simp)
                    · rw [if_neg c24] at H
                      exact absurd H (by simp)
                  · rw [if_neg c23] at H
                    exact absurd H (by simp)
                · rw [if_neg c21] at H
                  exact absurd H (by simp)
              · rw [if_neg c19] at H
                exact absurd H (by simp)
            · rw [if_neg c16] at H
              exact absurd H (by simp)
          · rw [if_neg c14] at H
            exact absurd H (by simp)

/-! ### vizardlaw03_UdpBuilds: function 3 -/
def vizardlaw03_UdpBuilds.f (k : Nat) (a0_0 : Int) (a0_1 : Int) (a0_2 : Int) (a0_3 : Int) (a0_4 : ByteArray) : Option (Bool) := (udp_Build.f k a0_0 a0_1 a0_2 a0_3 a0_4).bind fun bt128 => ((vizardref03_Build.f k a0_0 a0_1 a0_2 a0_3 a0_4).bind fun bt130 => (if bt128.1.toList = bt130.1.toList then (some (bt128.2 == bt130.2)) else (some false)))
theorem vizardlaw03_UdpBuilds.mono : ∀ a0 a1 a2 a3 a4 k, LeO (vizardlaw03_UdpBuilds.f k a0 a1 a2 a3 a4) (vizardlaw03_UdpBuilds.f (k + 1) a0 a1 a2 a3 a4) := by
  intro a0 a1 a2 a3 a4 k
  unfold vizardlaw03_UdpBuilds.f
  repeat' first
      | (with_reducible exact udp_Build.mono _ _ _ _ _ _)
      | (with_reducible exact vizardref03_Build.mono _ _ _ _ _ _)
      | (with_reducible exact LeO.refl _)
      | (with_reducible exact LeO.none _)
      | (with_reducible refine LeO.ite ?_ ?_)
      | (with_reducible refine LeO.bind ?_ (fun _ => ?_))
      | exact udp_Build.mono _ _ _ _ _ _
      | exact vizardref03_Build.mono _ _ _ _ _ _
      | exact LeO.none _
      | refine LeO.ite ?_ ?_
      | refine LeO.bind ?_ (fun _ => ?_)
set_option maxHeartbeats 8000000 in
set_option maxRecDepth 100000 in
theorem vizardlaw03_UdpBuilds.calls (k : Nat) (a0_0 : Int) (a0_1 : Int) (a0_2 : Int) (a0_3 : Int) (a0_4 : ByteArray) (r : Bool) (w : World) (h : vizardlaw03_UdpBuilds.f k a0_0 a0_1 a0_2 a0_3 a0_4 = some r) :
    Calls Try.prog 3 #[.agg #[.int .u32 a0_0, .int .u32 a0_1, .int .i64 a0_2, .int .i64 a0_3, .string a0_4]] w fun e w' => e = .returned (.bool r) ∧ Below w.heap.size w w' := by
  have hu24 := Try.underlying24
  have HB := Aside0.mk (Below.refl w.heap.size w)
  have H : ((udp_Build.f k a0_0 a0_1 a0_2 a0_3 a0_4).bind fun bt128 => ((vizardref03_Build.f k a0_0 a0_1 a0_2 a0_3 a0_4).bind fun bt130 => (if bt128.1.toList = bt130.1.toList then (some (bt128.2 == bt130.2)) else (some false)))) = some r := h
  clear h
  replace H := Option.bind_eq_some_iff.mp H
  obtain ⟨⟨t128, t129⟩, A20, H⟩ := H
  replace H : ((vizardref03_Build.f k a0_0 a0_1 a0_2 a0_3 a0_4).bind fun bt130 => (if t128.toList = bt130.1.toList then (some (t129 == bt130.2)) else (some false))) = some r := H
  have A2 := Aside0.mk A20
  clear A20
  replace H := Option.bind_eq_some_iff.mp H
  obtain ⟨⟨t130, t131⟩, A30, H⟩ := H
  replace H : (if t128.toList = t130.toList then (some (t129 == t131)) else (some false)) = some r := H
  have A3 := Aside0.mk A30
  clear A30
  by_cases c4 : t128.toList = t130.toList
  · rw [if_pos c4] at H
    have c4b0 : (t128.toList == t130.toList) = true := beq_iff_eq.mpr c4
    have c4b1 : (t128.toList != t130.toList) = false := bne_eq_false_iff_eq.mpr c4
    clear c4
    obtain rfl := Option.some.inj H
    go_enter Try.func3, Try.ntmps3
    go_wp2_with (first | ((with_reducible refine gate_dst (N := 1) rfl ?_); refine box_event ?hg (N := 1) ?hd (cs := #[.int .u32 a0_0, .int .u32 a0_1, .int .i64 a0_2, .int .i64 a0_3, .string a0_4]) (t := 24) ?hr ?_; (case hd => rfl); (case hg => rfl); (case hr => first | (go_simp; done) | (go_simp; rfl)); intro gb127 hg w5 hbox hb; have n0_ := Aside0.mk (below_step (by repeat (first | (with_reducible first | exact HB.out | apply below_alloc | apply pw_below_drewN | apply below_drew1) | exact HB.out)) hb); have n1_ := Aside0.mk (hbox); have n2_ := Aside0.mk ((by rw [hg]; exact (below_size (by repeat (first | (with_reducible first | exact HB.out | apply below_alloc | apply pw_below_drewN | apply below_drew1) | exact HB.out))) : w.heap.size ≤ gb127)); have n3_ := Aside0.mk ((by rw [hg]; exact (below_size (by repeat (first | (with_reducible first | exact HB.out | apply below_alloc | apply pw_below_drewN | apply below_drew1) | exact HB.out))) : w.heap.size ≤ gb127)); clear HB; have HB := n0_; have BK127 := n1_; have GW127 := n2_; have GE127 := n3_; clear n0_ n1_ n2_ n3_; clear hb hbox hg; have hcz6_0 : w5.cell? ⟨gb127, 0, none⟩ = some (.int .u32 a0_0) := (blk_cell BK127.out 0).trans rfl; have hcz6_1 : w5.cell? ⟨gb127, 1, none⟩ = some (.int .u32 a0_1) := (blk_cell BK127.out 1).trans rfl; have hcz6_2 : w5.cell? ⟨gb127, 2, none⟩ = some (.int .i64 a0_2) := (blk_cell BK127.out 2).trans rfl; have hcz6_3 : w5.cell? ⟨gb127, 3, none⟩ = some (.int .i64 a0_3) := (blk_cell BK127.out 3).trans rfl; have hcz6_4 : w5.cell? ⟨gb127, 4, none⟩ = some (.string a0_4) := (blk_cell BK127.out 4).trans rfl; have hfz6_0 := blk_frozen BK127.out 0; have hfz6_1 := blk_frozen BK127.out 1; have hfz6_2 := blk_frozen BK127.out 2; have hfz6_3 := blk_frozen BK127.out 3; have hfz6_4 := blk_frozen BK127.out 4) | ((with_reducible refine gate_callee (f := 8) rfl ?_); refine goesL_ (some 18) rfl rfl Try.func8 (by kernel_rfl) rfl #[.int .u32 a0_0, .int .u32 a0_1, .int .i64 a0_2, .int .i64 a0_3, .string a0_4] rfl (by (try simp only [List.map_toArray, List.map_cons, List.map_nil]); first | done | rfl | (simp only [List.length_drop, List.length_take]; rfl)) ?_; (with_reducible refine (udp_Build.calls k a0_0 a0_1 a0_2 a0_3 a0_4 t128 t129 _ A2.out).mono ?_); rintro e w7 ⟨rfl, hb⟩; refine ⟨_, rfl, ?_⟩; have n0_ := Aside0.mk (blk_below (g := gb127) (o := .cells #[.int .u32 a0_0, .int .u32 a0_1, .int .i64 a0_2, .int .i64 a0_3, .string a0_4] 24 (0, 0)) (by (with_reducible repeat (first | refine blk_drewN ?_ _ | refine blk_drew ?_ | refine blk_alloc ?_ _)); exact BK127.out) hb); have n1_ := Aside0.mk (below_step (by repeat (first | (with_reducible first | exact HB.out | apply below_alloc | apply pw_below_drewN | apply below_drew1 | refine below_set ?_ GE127.out) | exact HB.out)) hb); clear BK127; clear HB; have BK127 := n0_; have HB := n1_; clear n0_ n1_; (try clear hb); (try clear hb2); (try clear hk); (try clear hi); have hcz8_0 : w7.cell? ⟨gb127, 0, none⟩ = some (.int .u32 a0_0) := (blk_cell BK127.out 0).trans rfl; have hcz8_1 : w7.cell? ⟨gb127, 1, none⟩ = some (.int .u32 a0_1) := (blk_cell BK127.out 1).trans rfl; have hcz8_2 : w7.cell? ⟨gb127, 2, none⟩ = some (.int .i64 a0_2) := (blk_cell BK127.out 2).trans rfl; have hcz8_3 : w7.cell? ⟨gb127, 3, none⟩ = some (.int .i64 a0_3) := (blk_cell BK127.out 3).trans rfl; have hcz8_4 : w7.cell? ⟨gb127, 4, none⟩ = some (.string a0_4) := (blk_cell BK127.out 4).trans rfl; have hfz8_0 := blk_frozen BK127.out 0; have hfz8_1 := blk_frozen BK127.out 1; have hfz8_2 := blk_frozen BK127.out 2; have hfz8_3 := blk_frozen BK127.out 3; have hfz8_4 := blk_frozen BK127.out 4) | ((with_reducible refine gate_callee (f := 9) rfl ?_); refine goesL_ (some 32) rfl rfl Try.func9 (by kernel_rfl) rfl #[.int .u32 a0_0, .int .u32 a0_1, .int .i64 a0_2, .int .i64 a0_3, .string a0_4] rfl (by (try simp only [List.map_toArray, List.map_cons, List.map_nil]); first | done | rfl | (simp only [List.length_drop, List.length_take]; rfl)) ?_; (with_reducible refine (vizardref03_Build.calls k a0_0 a0_1 a0_2 a0_3 a0_4 t130 t131 _ A3.out).mono ?_); rintro e w9 ⟨rfl, hb⟩; refine ⟨_, rfl, ?_⟩; have n0_ := Aside0.mk (blk_below (g := gb127) (o := .cells #[.int .u32 a0_0, .int .u32 a0_1, .int .i64 a0_2, .int .i64 a0_3, .string a0_4] 24 (0, 0)) (by (with_reducible repeat (first | refine blk_drewN ?_ _ | refine blk_drew ?_ | refine blk_alloc ?_ _)); exact BK127.out) hb); have n1_ := Aside0.mk (below_step (by repeat (first | (with_reducible first | exact HB.out | apply below_alloc | apply pw_below_drewN | apply below_drew1 | refine below_set ?_ GE127.out) | exact HB.out)) hb); clear BK127; clear HB; have BK127 := n0_; have HB := n1_; clear n0_ n1_; (try clear hb); (try clear hb2); (try clear hk); (try clear hi)))
    go_ret
    exact ⟨by first | rfl | (simp [errW_none, errW_some] <;> rfl) | (simp [*, errW_none, errW_some] <;> rfl), by repeat (first | (with_reducible first | exact HB.out | apply below_alloc | apply pw_below_drewN | apply below_drew1 | refine below_set ?_ GE127.out) | exact HB.out)⟩
  · rw [if_neg c4] at H
    have c4b0 : (t128.toList == t130.toList) = false := beq_eq_false_iff_ne.mpr c4
    have c4b1 : (t128.toList != t130.toList) = true := bne_iff_ne.mpr c4
    obtain rfl := Option.some.inj H
    go_enter Try.func3, Try.ntmps3
    go_wp2_with (first | ((with_reducible refine gate_dst (N := 1) rfl ?_); refine box_event ?hg (N := 1) ?hd (cs := #[.int .u32 a0_0, .int .u32 a0_1, .int .i64 a0_2, .int .i64 a0_3, .string a0_4]) (t := 24) ?hr ?_; (case hd => rfl); (case hg => rfl); (case hr => first | (go_simp; done) | (go_simp; rfl)); intro gb127 hg w10 hbox hb; have n0_ := Aside0.mk (below_step (by repeat (first | (with_reducible first | exact HB.out | apply below_alloc | apply pw_below_drewN | apply below_drew1) | exact HB.out)) hb); have n1_ := Aside0.mk (hbox); have n2_ := Aside0.mk ((by rw [hg]; exact (below_size (by repeat (first | (with_reducible first | exact HB.out | apply below_alloc | apply pw_below_drewN | apply below_drew1) | exact HB.out))) : w.heap.size ≤ gb127)); have n3_ := Aside0.mk ((by rw [hg]; exact (below_size (by repeat (first | (with_reducible first | exact HB.out | apply below_alloc | apply pw_below_drewN | apply below_drew1) | exact HB.out))) : w.heap.size ≤ gb127)); clear HB; have HB := n0_; have BK127 := n1_; have GW127 := n2_; have GE127 := n3_; clear n0_ n1_ n2_ n3_; clear hb hbox hg; have hcz11_0 : w10.cell? ⟨gb127, 0, none⟩ = some (.int .u32 a0_0) := (blk_cell BK127.out 0).trans rfl; have hcz11_1 : w10.cell? ⟨gb127, 1, none⟩ = some (.int .u32 a0_1) := (blk_cell BK127.out 1).trans rfl; have hcz11_2 : w10.cell? ⟨gb127, 2, none⟩ = some (.int .i64 a0_2) := (blk_cell BK127.out 2).trans rfl; have hcz11_3 : w10.cell? ⟨gb127, 3, none⟩ = some (.int .i64 a0_3) := (blk_cell BK127.out 3).trans rfl; have hcz11_4 : w10.cell? ⟨gb127, 4, none⟩ = some (.string a0_4) := (blk_cell BK127.out 4).trans rfl; have hfz11_0 := blk_frozen BK127.out 0; have hfz11_1 := blk_frozen BK127.out 1; have hfz11_2 := blk_frozen BK127.out 2; have hfz11_3 := blk_frozen BK127.out 3; have hfz11_4 := blk_frozen BK127.out 4) | ((with_reducible refine gate_callee (f := 8) rfl ?_); refine goesL_ (some 18) rfl rfl Try.func8 (by kernel_rfl) rfl #[.int .u32 a0_0, .int .u32 a0_1, .int .i64 a0_2, .int .i64 a0_3, .string a0_4] rfl (by (try simp only [List.map_toArray, List.map_cons, List.map_nil]); first | done | rfl | (simp only [List.length_drop, List.length_take]; rfl)) ?_; (with_reducible refine (udp_Build.calls k a0_0 a0_1 a0_2 a0_3 a0_4 t128 t129 _ A2.out).mono ?_); rintro e w12 ⟨rfl, hb⟩; refine ⟨_, rfl, ?_⟩; have n0_ := Aside0.mk (blk_below (g := gb127) (o := .cells #[.int .u32 a0_0, .int .u32 a0_1, .int .i64 a0_2, .int .i64 a0_3, .string a0_4] 24 (0, 0)) (by (with_reducible repeat (first | refine blk_drewN ?_ _ | refine blk_drew ?_ | refine blk_alloc ?_ _)); exact BK127.out) hb); have n1_ := Aside0.mk (below_step (by repeat (first | (with_reducible first | exact HB.out | apply below_alloc | apply pw_below_drewN | apply below_drew1 | refine below_set ?_ GE127.out) | exact HB.out)) hb); clear BK127; clear HB; have BK127 := n0_; have HB := n1_; clear n0_ n1_; (try clear hb); (try clear hb2); (try clear hk); (try clear hi); have hcz13_0 : w12.cell? ⟨gb127, 0, none⟩ = some (.int .u32 a0_0) := (blk_cell BK127.out 0).trans rfl; have hcz13_1 : w12.cell? ⟨gb127, 1, none⟩ = some (.int .u32 a0_1) := (blk_cell BK127.out 1).trans rfl; have hcz13_2 : w12.cell? ⟨gb127, 2, none⟩ = some (.int .i64 a0_2) := (blk_cell BK127.out 2).trans rfl; have hcz13_3 : w12.cell? ⟨gb127, 3, none⟩ = some (.int .i64 a0_3) := (blk_cell BK127.out 3).trans rfl; have hcz13_4 : w12.cell? ⟨gb127, 4, none⟩ = some (.string a0_4) := (blk_cell BK127.out 4).trans rfl; have hfz13_0 := blk_frozen BK127.out 0; have hfz13_1 := blk_frozen BK127.out 1; have hfz13_2 := blk_frozen BK127.out 2; have hfz13_3 := blk_frozen BK127.out 3; have hfz13_4 := blk_frozen BK127.out 4) | ((with_reducible refine gate_callee (f := 9) rfl ?_); refine goesL_ (some 32) rfl rfl Try.func9 (by kernel_rfl) rfl #[.int .u32 a0_0, .int .u32 a0_1, .int .i64 a0_2, .int .i64 a0_3, .string a0_4] rfl (by (try simp only [List.map_toArray, List.map_cons, List.map_nil]); first | done | rfl | (simp only [List.length_drop, List.length_take]; rfl)) ?_; (with_reducible refine (vizardref03_Build.calls k a0_0 a0_1 a0_2 a0_3 a0_4 t130 t131 _ A3.out).mono ?_); rintro e w14 ⟨rfl, hb⟩; refine ⟨_, rfl, ?_⟩; have n0_ := Aside0.mk (blk_below (g := gb127) (o := .cells #[.int .u32 a0_0, .int .u32 a0_1, .int .i64 a0_2, .int .i64 a0_3, .string a0_4] 24 (0, 0)) (by (with_reducible repeat (first | refine blk_drewN ?_ _ | refine blk_drew ?_ | refine blk_alloc ?_ _)); exact BK127.out) hb); have n1_ := Aside0.mk (below_step (by repeat (first | (with_reducible first | exact HB.out | apply below_alloc | apply pw_below_drewN | apply below_drew1 | refine below_set ?_ GE127.out) | exact HB.out)) hb); clear BK127; clear HB; have BK127 := n0_; have HB := n1_; clear n0_ n1_; (try clear hb); (try clear hb2); (try clear hk); (try clear hi)))
    go_ret
    exact ⟨by first | rfl | (simp [errW_none, errW_some] <;> rfl) | (simp [*, errW_none, errW_some] <;> rfl), by repeat (first | (with_reducible first | exact HB.out | apply below_alloc | apply pw_below_drewN | apply below_drew1 | refine below_set ?_ GE127.out) | exact HB.out)⟩

end Go.Proofs.Ytmgepidjeddapaa.PUdpBuilds
