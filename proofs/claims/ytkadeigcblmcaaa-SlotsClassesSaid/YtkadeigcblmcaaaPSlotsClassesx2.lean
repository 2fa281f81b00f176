-- PRINTED BY print.sh 35421559b90ae4d0a3588c463048766b98c2df88dd9212a6774a882060cdf62d: not written by this session
import Derived.Test.YtkadeigcblmcaaaPSlotsClassesx0
import Derived.Test.YtkadeigcblmcaaaPSlotsClassesx1
namespace Go.Proofs.Ytkadeigcblmcaaa.PSlotsClasses
open Go.RowKit Go.Proofs.YtkadeigcblmcaaaW.PrintWords Go.Proofs.YtkadeigcblmcaaaW.PrintLast Go.Proofs.YtkadeigcblmcaaaW.PrintMore
attribute [local go_sem] max2_int min2_int max_two min_two max_three min_three max_four min_four   -- for this text's walks alone
set_option linter.unusedVariables false
set_option linter.unusedSimpArgs false

/-! ### vizardlaw21_SlotsClasses: function 5 -/
def vizardlaw21_SlotsClasses.l0 : Nat → Int → Int → Int → Int → List Int → Bool → Int → Option (Bool)
  | 0, _, _, _, _, _, _, _ => none
  | k + 1, x0, x1, x5, x6, x7, x8, x9 => if x9 < (x7.length : Int) then (if x8 = true then (if 0 ≤ x9 then (if (rd x7 x9) ≥ x0 then (if (rd x7 x9) < x5 then (some false) else (vizardlaw21_SlotsClasses.l0 k x0 x1 x5 x6 x7 true (wrap64 (x9 + 1)))) else (vizardlaw21_SlotsClasses.l0 k x0 x1 x5 x6 x7 true (wrap64 (x9 + 1)))) else (none)) else (if 0 ≤ x9 then (if (rd x7 x9) ≥ x0 then (if (rd x7 x9) < x5 then (some false) else (vizardlaw21_SlotsClasses.l0 k x0 x1 x5 x6 x7 ((rd x7 x9) == x5) (wrap64 (x9 + 1)))) else (vizardlaw21_SlotsClasses.l0 k x0 x1 x5 x6 x7 ((rd x7 x9) == x5) (wrap64 (x9 + 1)))) else (none))) else (if x8 = true then (if x5 ≥ x0 then (if x0 > x1 then (some true) else (some (decide (x5 ≤ x6)))) else (some false)) else (some false))
def vizardlaw21_SlotsClasses.f (k : Nat) (a0 : Int) (a1 : Int) : Option (Bool) := (vizardlaw21_works.f k).bind fun t126 => (if t126 = true then ((slots_Class.f k (wrap64 (Int.tmod (IntKind.u64.wrap (a0)) 1201))).bind fun t127 => ((slots_Class.f k (wrap64 (Int.tmod (IntKind.u64.wrap (a1)) 1201))).bind fun t128 => ((slots_Classes.f).bind fun t129 => (vizardlaw21_SlotsClasses.l0 k (wrap64 (Int.tmod (IntKind.u64.wrap (a0)) 1201)) (wrap64 (Int.tmod (IntKind.u64.wrap (a1)) 1201)) t127 t128 t129 false 0)))) else (some false))
theorem vizardlaw21_SlotsClasses.mono_l : ∀ k, (∀ y0 y1 y2 y3 y4 y5 y6, LeO (vizardlaw21_SlotsClasses.l0 k y0 y1 y2 y3 y4 y5 y6) (vizardlaw21_SlotsClasses.l0 (k + 1) y0 y1 y2 y3 y4 y5 y6))
  | 0 => fun _ _ _ _ _ _ _ r h => by simp [vizardlaw21_SlotsClasses.l0] at h
  | k + 1 => by
    have ih0 := vizardlaw21_SlotsClasses.mono_l k
    · intro y0 y1 y2 y3 y4 y5 y6
      unfold vizardlaw21_SlotsClasses.l0
      repeat' first
      | (with_reducible exact ih0 _ _ _ _ _ _ _)
      | (with_reducible exact slots_Class.mono _ _)
      | (with_reducible exact vizardlaw21_works.mono _)
      | (with_reducible exact LeO.refl _)
      | (with_reducible exact LeO.none _)
      | (with_reducible refine LeO.ite ?_ ?_)
      | (with_reducible refine LeO.bind ?_ (fun _ => ?_))
      | exact ih0 _ _ _ _ _ _ _
      | exact slots_Class.mono _ _
      | exact vizardlaw21_works.mono _
      | exact LeO.none _
      | refine LeO.ite ?_ ?_
      | refine LeO.bind ?_ (fun _ => ?_)
theorem vizardlaw21_SlotsClasses.mono : ∀ a0 a1 k, LeO (vizardlaw21_SlotsClasses.f k a0 a1) (vizardlaw21_SlotsClasses.f (k + 1) a0 a1) := by
  intro a0 a1 k
  have ih0 := vizardlaw21_SlotsClasses.mono_l k
  unfold vizardlaw21_SlotsClasses.f
  repeat' first
      | (with_reducible exact ih0 _ _ _ _ _ _ _)
      | (with_reducible exact slots_Class.mono _ _)
      | (with_reducible exact vizardlaw21_works.mono _)
      | (with_reducible exact LeO.refl _)
      | (with_reducible exact LeO.none _)
      | (with_reducible refine LeO.ite ?_ ?_)
      | (with_reducible refine LeO.bind ?_ (fun _ => ?_))
      | exact ih0 _ _ _ _ _ _ _
      | exact slots_Class.mono _ _
      | exact vizardlaw21_works.mono _
      | exact LeO.none _
      | refine LeO.ite ?_ ?_
      | refine LeO.bind ?_ (fun _ => ?_)
set_option maxHeartbeats 8000000 in
set_option maxRecDepth 100000 in
theorem vizardlaw21_SlotsClasses.calls (k : Nat) (a0 : Int) (a1 : Int) (r : Bool) (w : World) (h : vizardlaw21_SlotsClasses.f k a0 a1 = some r) :
    Calls Try.prog 5 #[.int .i64 a0, .int .i64 a1] w fun e w' => e = .returned (.bool r) ∧ Below w.heap.size w w' := by
  have HB := Aside0.mk (Below.refl w.heap.size w)
  have H : ((vizardlaw21_works.f k).bind fun t126 => (if t126 = true then ((slots_Class.f k (wrap64 (Int.tmod (IntKind.u64.wrap (a0)) 1201))).bind fun t127 => ((slots_Class.f k (wrap64 (Int.tmod (IntKind.u64.wrap (a1)) 1201))).bind fun t128 => ((slots_Classes.f).bind fun t129 => (vizardlaw21_SlotsClasses.l0 k (wrap64 (Int.tmod (IntKind.u64.wrap (a0)) 1201)) (wrap64 (Int.tmod (IntKind.u64.wrap (a1)) 1201)) t127 t128 t129 false 0)))) else (some false))) = some r := h
  clear h
  replace H := Option.bind_eq_some_iff.mp H
  obtain ⟨t126, A30, H⟩ := H
  replace H : (if t126 = true then ((slots_Class.f k (wrap64 (Int.tmod (IntKind.u64.wrap (a0)) 1201))).bind fun t127 => ((slots_Class.f k (wrap64 (Int.tmod (IntKind.u64.wrap (a1)) 1201))).bind fun t128 => ((slots_Classes.f).bind fun t129 => (vizardlaw21_SlotsClasses.l0 k (wrap64 (Int.tmod (IntKind.u64.wrap (a0)) 1201)) (wrap64 (Int.tmod (IntKind.u64.wrap (a1)) 1201)) t127 t128 t129 false 0)))) else (some false)) = some r := H
  have A3 := Aside0.mk A30
  clear A30
  by_cases c4 : t126 = true
  · subst c4
    have H1 : ((slots_Class.f k (wrap64 (Int.tmod (IntKind.u64.wrap (a0)) 1201))).bind fun t127 => ((slots_Class.f k (wrap64 (Int.tmod (IntKind.u64.wrap (a1)) 1201))).bind fun t128 => ((slots_Classes.f).bind fun t129 => (vizardlaw21_SlotsClasses.l0 k (wrap64 (Int.tmod (IntKind.u64.wrap (a0)) 1201)) (wrap64 (Int.tmod (IntKind.u64.wrap (a1)) 1201)) t127 t128 t129 false 0)))) = some r := by rw [if_pos rfl] at H; exact H
    clear H
    have H := H1
    clear H1
    replace H := Option.bind_eq_some_iff.mp H
    obtain ⟨t127, A50, H⟩ := H
    replace H : ((slots_Class.f k (wrap64 (Int.tmod (IntKind.u64.wrap (a1)) 1201))).bind fun t128 => ((slots_Classes.f).bind fun t129 => (vizardlaw21_SlotsClasses.l0 k (wrap64 (Int.tmod (IntKind.u64.wrap (a0)) 1201)) (wrap64 (Int.tmod (IntKind.u64.wrap (a1)) 1201)) t127 t128 t129 false 0))) = some r := H
    have A5 := Aside0.mk A50
    clear A50
    replace H := Option.bind_eq_some_iff.mp H
    obtain ⟨t128, A60, H⟩ := H
    replace H : ((slots_Classes.f).bind fun t129 => (vizardlaw21_SlotsClasses.l0 k (wrap64 (Int.tmod (IntKind.u64.wrap (a0)) 1201)) (wrap64 (Int.tmod (IntKind.u64.wrap (a1)) 1201)) t127 t128 t129 false 0)) = some r := H
    have A6 := Aside0.mk A60
    clear A60
    replace H := Option.bind_eq_some_iff.mp H
    obtain ⟨t129, A70, H⟩ := H
    replace H : (vizardlaw21_SlotsClasses.l0 k (wrap64 (Int.tmod (IntKind.u64.wrap (a0)) 1201)) (wrap64 (Int.tmod (IntKind.u64.wrap (a1)) 1201)) t127 t128 t129 false 0) = some r := H
    have A7 := Aside0.mk A70
    clear A70
    have H' := Aside0.mk H
    clear H
    go_enter Try.func5, Try.ntmps5
    go_wp2_with (first | ((with_reducible refine gate_callee (f := 17) rfl ?_); refine goesL_ (some 10) rfl rfl Try.func17 (by kernel_rfl) rfl #[] rfl (by (try simp only [List.map_toArray, List.map_cons, List.map_nil]); first | done | rfl | (simp only [List.length_drop, List.length_take]; rfl)) ?_; (with_reducible refine (vizardlaw21_works.calls k  true _ A3.out).mono ?_); rintro e w8 ⟨rfl, hb⟩; refine ⟨_, rfl, ?_⟩; have n0_ := Aside0.mk (below_step (by repeat (first | (with_reducible first | exact HB.out | apply below_alloc | apply pw_below_drewN | apply below_drew1) | exact HB.out)) hb); clear HB; have HB := n0_; clear n0_; (try clear hb); (try clear hb2); (try clear hk); (try clear hi)) | ((with_reducible refine gate_callee (f := 15) rfl ?_); refine goesL_ (some 21) rfl rfl Try.func15 (by kernel_rfl) rfl #[.int .i64 (wrap64 (Int.tmod (IntKind.u64.wrap (a0)) 1201))] rfl (by (try simp only [List.map_toArray, List.map_cons, List.map_nil]); first | done | rfl | (simp only [List.length_drop, List.length_take]; rfl)) ?_; (with_reducible refine (slots_Class.calls k (wrap64 (Int.tmod (IntKind.u64.wrap (a0)) 1201)) t127 _ A5.out).mono ?_); rintro e w9 ⟨rfl, hb⟩; refine ⟨_, rfl, ?_⟩; have n0_ := Aside0.mk (below_step (by repeat (first | (with_reducible first | exact HB.out | apply below_alloc | apply pw_below_drewN | apply below_drew1) | exact HB.out)) hb); clear HB; have HB := n0_; clear n0_; (try clear hb); (try clear hb2); (try clear hk); (try clear hi)) | ((with_reducible refine gate_callee (f := 15) rfl ?_); refine goesL_ (some 23) rfl rfl Try.func15 (by kernel_rfl) rfl #[.int .i64 (wrap64 (Int.tmod (IntKind.u64.wrap (a1)) 1201))] rfl (by (try simp only [List.map_toArray, List.map_cons, List.map_nil]); first | done | rfl | (simp only [List.length_drop, List.length_take]; rfl)) ?_; (with_reducible refine (slots_Class.calls k (wrap64 (Int.tmod (IntKind.u64.wrap (a1)) 1201)) t128 _ A6.out).mono ?_); rintro e w10 ⟨rfl, hb⟩; refine ⟨_, rfl, ?_⟩; have n0_ := Aside0.mk (below_step (by repeat (first | (with_reducible first | exact HB.out | apply below_alloc | apply pw_below_drewN | apply below_drew1) | exact HB.out)) hb); clear HB; have HB := n0_; clear n0_; (try clear hb); (try clear hb2); (try clear hk); (try clear hi)) | ((with_reducible refine gate_callee (f := 7) rfl ?_); refine goesL_ (some 24) rfl rfl Try.func7 (by kernel_rfl) rfl #[] rfl (by (try simp only [List.map_toArray, List.map_cons, List.map_nil]); first | done | rfl | (simp only [List.length_drop, List.length_take]; rfl)) ?_; (with_reducible refine (slots_Classes.calls  t129 _ A7.out).mono ?_); rintro e w11 ⟨v130, rfl, ho0, hb⟩; refine ⟨_, rfl, ?_⟩; have n0_ := Aside0.mk (Kd.R_lower ho0 (below_size (by repeat (first | (with_reducible first | exact HB.out | apply below_alloc | apply pw_below_drewN | apply below_drew1) | exact HB.out)))); have n1_ := Aside0.mk (below_step (by repeat (first | (with_reducible first | exact HB.out | apply below_alloc | apply pw_below_drewN | apply below_drew1) | exact HB.out)) hb); clear HB; have HO131 := n0_; have HB := n1_; clear n0_ n1_; (try clear hb); (try clear hb2); (try clear hk); (try clear hi); (try clear ho0)))
    go_loopg [8, 9] k (fun kq v8 v9 w' => ∃ (x8_1 : Bool) (x9_1 : Int), v8 = .bool x8_1 ∧ v9 = .int .i64 x9_1 ∧ Aside0 (vizardlaw21_SlotsClasses.l0 kq (wrap64 (Int.tmod (IntKind.u64.wrap (a0)) 1201)) (wrap64 (Int.tmod (IntKind.u64.wrap (a1)) 1201)) t127 t128 t129 x8_1 x9_1 = some r) ∧ Aside0 (kq ≤ k) ∧ Aside0 (Kd.R (Kd.int .i64) 3 w' w.heap.size (fun _ => True) v130 t129) ∧ Aside0 (Below w.heap.size w w'))
    case atStart => exact ⟨(false), (0), (by first | rfl | (simp; done) | (simp [*]; done)), (by first | rfl | (simp; done) | (simp [*]; done)), H', ⟨Nat.le_refl _⟩, ⟨by (with_reducible repeat (first | apply Kd.R_alloc | apply Kd.R_drewN | apply Kd.R_drew)); exact HO131.out⟩, ⟨by repeat (first | (with_reducible first | exact HB.out | apply below_alloc | apply pw_below_drewN | apply below_drew1) | exact HB.out)⟩⟩
    case round =>
      clear H'
      try clear c1
      try clear p2
      try clear c4
      try clear c5
      try clear p6
      try clear c7
      obtain ⟨x8_1, x9_1, rfl, rfl, HA, HK1, HO_7, HB⟩ := hrel
      cases gk with
      | zero => exact absurd HA.out (by simp [vizardlaw21_SlotsClasses.l0])
      | succ k1 =>
        have H := HA.out
        clear HA
        simp only [vizardlaw21_SlotsClasses.l0] at H
        by_cases c12 : x9_1 < (t129.length : Int)
        · rw [if_pos c12] at H
          have c12b0 : decide (x9_1 < (t129.length : Int)) = true := decide_eq_true c12
          clear c12
          by_cases c13 : x8_1 = true
          · subst c13
            have H1 : (if 0 ≤ x9_1 then (if (rd t129 x9_1) ≥ (wrap64 (Int.tmod (IntKind.u64.wrap (a0)) 1201)) then (if (rd t129 x9_1) < t127 then (some false) else (vizardlaw21_SlotsClasses.l0 k1 (wrap64 (Int.tmod (IntKind.u64.wrap (a0)) 1201)) (wrap64 (Int.tmod (IntKind.u64.wrap (a1)) 1201)) t127 t128 t129 true (wrap64 (x9_1 + 1)))) else (vizardlaw21_SlotsClasses.l0 k1 (wrap64 (Int.tmod (IntKind.u64.wrap (a0)) 1201)) (wrap64 (Int.tmod (IntKind.u64.wrap (a1)) 1201)) t127 t128 t129 true (wrap64 (x9_1 + 1)))) else (none)) = some r := by rw [if_pos rfl] at H; exact H
            clear H
            have H := H1
            clear H1
            by_cases c14 : 0 ≤ x9_1
            · rw [if_pos c14] at H
              have c14b0 : decide (0 ≤ x9_1) = true := decide_eq_true c14
              clear c14
              by_cases c15 : (rd t129 x9_1) ≥ (wrap64 (Int.tmod (IntKind.u64.wrap (a0)) 1201))
              · rw [if_pos c15] at H
                have c15b0 : decide ((wrap64 (Int.tmod (IntKind.u64.wrap (a0)) 1201)) ≤ (rd t129 x9_1)) = true := decide_eq_true c15
                clear c15
                by_cases c16 : (rd t129 x9_1) < t127
                · rw [if_pos c16] at H
                  have c16b0 : decide ((rd t129 x9_1) < t127) = true := decide_eq_true c16
                  clear c16
                  obtain rfl := Option.some.inj H
                  obtain ⟨Ao17, co17, eo17⟩ := Kd.R_slice HO_7.out
                  subst eo17
                  have p132 : 0 ≤ (x9_1 : Int) := of_decide_eq_true (by first | (with_reducible assumption) | assumption)
                  have q132 : x9_1 < (t129.length : Int) := of_decide_eq_true (by first | (with_reducible assumption) | assumption)
                  obtain ⟨ad132, e132, hx132_0⟩ := Kd.at_int (Kd.R_reads' HO_7.out).2.2 x9_1 p132 q132
                  cases e132
                  replace p132 := eq_true p132
                  replace q132 := eq_true q132
                  have p133 : 0 ≤ (x9_1 : Int) := of_decide_eq_true (by first | (with_reducible assumption) | assumption)
                  have q133 : x9_1 < (t129.length : Int) := of_decide_eq_true (by first | (with_reducible assumption) | assumption)
                  obtain ⟨ad133, e133, hx133_0⟩ := Kd.at_int (Kd.R_reads' HO_7.out).2.2 x9_1 p133 q133
                  obtain rfl : ad132 = ad133 := (by injection e133)
                  replace p133 := eq_true p133
                  replace q133 := eq_true q133
                  go_wp2
                  go_ret
                  exact ⟨by first | rfl | (simp [errW_none, errW_some] <;> rfl) | (simp [*, errW_none, errW_some] <;> rfl), by repeat (first | (with_reducible first | exact HB.out | apply below_alloc | apply pw_below_drewN | apply below_drew1) | exact HB.out)⟩
                · rw [if_neg c16] at H
                  have c16b0 : decide ((rd t129 x9_1) < t127) = false := decide_eq_false c16
                  clear c16
                  have H' := Aside0.mk H
                  clear H
                  obtain ⟨Ao18, co18, eo18⟩ := Kd.R_slice HO_7.out
                  subst eo18
                  have p132 : 0 ≤ (x9_1 : Int) := of_decide_eq_true (by first | (with_reducible assumption) | assumption)
                  have q132 : x9_1 < (t129.length : Int) := of_decide_eq_true (by first | (with_reducible assumption) | assumption)
                  obtain ⟨ad132, e132, hx132_0⟩ := Kd.at_int (Kd.R_reads' HO_7.out).2.2 x9_1 p132 q132
                  cases e132
                  replace p132 := eq_true p132
                  replace q132 := eq_true q132
                  have p133 : 0 ≤ (x9_1 : Int) := of_decide_eq_true (by first | (with_reducible assumption) | assumption)
                  have q133 : x9_1 < (t129.length : Int) := of_decide_eq_true (by first | (with_reducible assumption) | assumption)
                  obtain ⟨ad133, e133, hx133_0⟩ := Kd.at_int (Kd.R_reads' HO_7.out).2.2 x9_1 p133 q133
                  obtain rfl : ad132 = ad133 := (by injection e133)
                  replace p133 := eq_true p133
                  replace q133 := eq_true q133
                  go_wp2
                  go_roundg k1
                  case measure => have := HK1.out; omega
                  case rel => exact ⟨(true), (wrap64 (x9_1 + 1)), (by first | rfl | (simp; done) | (simp [*]; done)), (by first | rfl | (simp; done) | (simp [*]; done)), H', ⟨by have := HK1.out; omega⟩, ⟨by (with_reducible repeat (first | apply Kd.R_alloc | apply Kd.R_drewN | apply Kd.R_drew)); exact HO_7.out⟩, ⟨by repeat (first | (with_reducible first | exact HB.out | apply below_alloc | apply pw_below_drewN | apply below_drew1) | exact HB.out)⟩⟩
              · rw [if_neg c15] at H
                have c15b0 : decide ((wrap64 (Int.tmod (IntKind.u64.wrap (a0)) 1201)) ≤ (rd t129 x9_1)) = false := decide_eq_false c15
                clear c15
                have H' := Aside0.mk H
                clear H
                obtain ⟨Ao19, co19, eo19⟩ := Kd.R_slice HO_7.out
                subst eo19
                have p132 : 0 ≤ (x9_1 : Int) := of_decide_eq_true (by first | (with_reducible assumption) | assumption)
                have q132 : x9_1 < (t129.length : Int) := of_decide_eq_true (by first | (with_reducible assumption) | assumption)
                obtain ⟨ad132, e132, hx132_0⟩ := Kd.at_int (Kd.R_reads' HO_7.out).2.2 x9_1 p132 q132
                cases e132
                replace p132 := eq_true p132
                replace q132 := eq_true q132
                go_wp2
                go_roundg k1
                case measure => have := HK1.out; omega
                case rel => exact ⟨(true), (wrap64 (x9_1 + 1)), (by first | rfl | (simp; done) | (simp [*]; done)), (by first | rfl | (simp; done) | (simp [*]; done)), H', ⟨by have := HK1.out; omega⟩, ⟨by (with_reducible repeat (first | apply Kd.R_alloc | apply Kd.R_drewN | apply Kd.R_drew)); exact HO_7.out⟩, ⟨by repeat (first | (with_reducible first | exact HB.out | apply below_alloc | apply pw_below_drewN | apply below_drew1) | exact HB.out)⟩⟩
            · rw [if_neg c14] at H
              exact absurd H (by simp)
          · replace c13 := Bool.eq_false_iff.mpr c13
            subst c13
            have H1 : (if 0 ≤ x9_1 then (if (rd t129 x9_1) ≥ (wrap64 (Int.tmod (IntKind.u64.wrap (a0)) 1201)) then (if (rd t129 x9_1) < t127 then (some false) else (vizardlaw21_SlotsClasses.l0 k1 (wrap64 (Int.tmod (IntKind.u64.wrap (a0)) 1201)) (wrap64 (Int.tmod (IntKind.u64.wrap (a1)) 1201)) t127 t128 t129 ((rd t129 x9_1) == t127) (wrap64 (x9_1 + 1)))) else (vizardlaw21_SlotsClasses.l0 k1 (wrap64 (Int.tmod (IntKind.u64.wrap (a0)) 1201)) (wrap64 (Int.tmod (IntKind.u64.wrap (a1)) 1201)) t127 t128 t129 ((rd t129 x9_1) == t127) (wrap64 (x9_1 + 1)))) else (none)) = some r := by rw [if_neg (show ¬ (false = true) by decide)] at H; exact H
            clear H
            have H := H1
            clear H1
            by_cases c20 : 0 ≤ x9_1
            · rw [if_pos c20] at H
              have c20b0 : decide (0 ≤ x9_1) = true := decide_eq_true c20
              clear c20
              by_cases c21 : (rd t129 x9_1) ≥ (wrap64 (Int.tmod (IntKind.u64.wrap (a0)) 1201))
              · rw [if_pos c21] at H
                have c21b0 : decide ((wrap64 (Int.tmod (IntKind.u64.wrap (a0)) 1201)) ≤ (rd t129 x9_1)) = true := decide_eq_true c21
                clear c21
                by_cases c22 : (rd t129 x9_1) < t127
                · rw [if_pos c22] at H
                  have c22b0 : decide ((rd t129 x9_1) < t127) = true := decide_eq_true c22
                  clear c22
                  obtain rfl := Option.some.inj H
                  obtain ⟨Ao23, co23, eo23⟩ := Kd.R_slice HO_7.out
                  subst eo23
                  have p134 : 0 ≤ (x9_1 : Int) := of_decide_eq_true (by first | (with_reducible assumption) | assumption)
                  have q134 : x9_1 < (t129.length : Int) := of_decide_eq_true (by first | (with_reducible assumption) | assumption)
                  obtain ⟨ad134, e134, hx134_0⟩ := Kd.at_int (Kd.R_reads' HO_7.out).2.2 x9_1 p134 q134
                  cases e134
                  replace p134 := eq_true p134
                  replace q134 := eq_true q134
                  have p135 : 0 ≤ (x9_1 : Int) := of_decide_eq_true (by first | (with_reducible assumption) | assumption)
                  have q135 : x9_1 < (t129.length : Int) := of_decide_eq_true (by first | (with_reducible assumption) | assumption)
                  obtain ⟨ad135, e135, hx135_0⟩ := Kd.at_int (Kd.R_reads' HO_7.out).2.2 x9_1 p135 q135
                  obtain rfl : ad134 = ad135 := (by injection e135)
                  replace p135 := eq_true p135
                  replace q135 := eq_true q135
                  have p136 : 0 ≤ (x9_1 : Int) := of_decide_eq_true (by first | (with_reducible assumption) | assumption)
                  have q136 : x9_1 < (t129.length : Int) := of_decide_eq_true (by first | (with_reducible assumption) | assumption)
                  obtain ⟨ad136, e136, hx136_0⟩ := Kd.at_int (Kd.R_reads' HO_7.out).2.2 x9_1 p136 q136
                  obtain rfl : ad134 = ad136 := (by injection e136)
                  replace p136 := eq_true p136
                  replace q136 := eq_true q136
                  go_wp2
                  go_ret
                  exact ⟨by first | rfl | (simp [errW_none, errW_some] <;> rfl) | (simp [*, errW_none, errW_some] <;> rfl), by repeat (first | (with_reducible first | exact HB.out | apply below_alloc | apply pw_below_drewN | apply below_drew1) | exact HB.out)⟩
                · rw [if_neg c22] at H
                  have c22b0 : decide ((rd t129 x9_1) < t127) = false := decide_eq_false c22
                  clear c22
                  have H' := Aside0.mk H
                  clear H
                  obtain ⟨Ao24, co24, eo24⟩ := Kd.R_slice HO_7.out
                  subst eo24
                  have p134 : 0 ≤ (x9_1 : Int) := of_decide_eq_true (by first | (with_reducible assumption) | assumption)
                  have q134 : x9_1 < (t129.length : Int) := of_decide_eq_true (by first | (with_reducible assumption) | assumption)
                  obtain ⟨ad134, e134, hx134_0⟩ := Kd.at_int (Kd.R_reads' HO_7.out).2.2 x9_1 p134 q134
                  cases e134
                  replace p134 := eq_true p134
                  replace q134 := eq_true q134
                  have p135 : 0 ≤ (x9_1 : Int) := of_decide_eq_true (by first | (with_reducible assumption) | assumption)
                  have q135 : x9_1 < (t129.length : Int) := of_decide_eq_true (by first | (with_reducible assumption) | assumption)
                  obtain ⟨ad135, e135, hx135_0⟩ := Kd.at_int (Kd.R_reads' HO_7.out).2.2 x9_1 p135 q135
                  obtain rfl : ad134 = ad135 := (by injection e135)
                  replace p135 := eq_true p135
                  replace q135 := eq_true q135
                  have p136 : 0 ≤ (x9_1 : Int) := of_decide_eq_true (by first | (with_reducible assumption) | assumption)
                  have q136 : x9_1 < (t129.length : Int) := of_decide_eq_true (by first | (with_reducible assumption) | assumption)
                  obtain ⟨ad136, e136, hx136_0⟩ := Kd.at_int (Kd.R_reads' HO_7.out).2.2 x9_1 p136 q136
                  obtain rfl : ad134 = ad136 := (by injection e136)
                  replace p136 := eq_true p136
                  replace q136 := eq_true q136
                  go_wp2
                  go_roundg k1
                  case measure => have := HK1.out; omega
                  case rel => exact ⟨(((rd t129 x9_1) == t127)), (wrap64 (x9_1 + 1)), (by first | rfl | (simp; done) | (simp [*]; done)), (by first | rfl | (simp; done) | (simp [*]; done)), H', ⟨by have := HK1.out; omega⟩, ⟨by (with_reducible repeat (first | apply Kd.R_alloc | apply Kd.R_drewN | apply Kd.R_drew)); exact HO_7.out⟩, ⟨by repeat (first | (with_reducible first | exact HB.out | apply below_alloc | apply pw_below_drewN | apply below_drew1) | exact HB.out)⟩⟩
              · rw [if_neg c21] at H
                have c21b0 : decide ((wrap64 (Int.tmod (IntKind.u64.wrap (a0)) 1201)) ≤ (rd t129 x9_1)) = false := decide_eq_false c21
                clear c21
                have H' := Aside0.mk H
                clear H
                obtain ⟨Ao25, co25, eo25⟩ := Kd.R_slice HO_7.out
                subst eo25
                have p134 : 0 ≤ (x9_1 : Int) := of_decide_eq_true (by first | (with_reducible assumption) | assumption)
                have q134 : x9_1 < (t129.length : Int) := of_decide_eq_true (by first | (with_reducible assumption) | assumption)
                obtain ⟨ad134, e134, hx134_0⟩ := Kd.at_int (Kd.R_reads' HO_7.out).2.2 x9_1 p134 q134
                cases e134
                replace p134 := eq_true p134
                replace q134 := eq_true q134
                have p135 : 0 ≤ (x9_1 : Int) := of_decide_eq_true (by first | (with_reducible assumption) | assumption)
                have q135 : x9_1 < (t129.length : Int) := of_decide_eq_true (by first | (with_reducible assumption) | assumption)
                obtain ⟨ad135, e135, hx135_0⟩ := Kd.at_int (Kd.R_reads' HO_7.out).2.2 x9_1 p135 q135
                obtain rfl : ad134 = ad135 := (by injection e135)
                replace p135 := eq_true p135
                replace q135 := eq_true q135
                go_wp2
                go_roundg k1
                case measure => have := HK1.out; omega
                case rel => exact ⟨(((rd t129 x9_1) == t127)), (wrap64 (x9_1 + 1)), (by first | rfl | (simp; done) | (simp [*]; done)), (by first | rfl | (simp; done) | (simp [*]; done)), H', ⟨by have := HK1.out; omega⟩, ⟨by (with_reducible repeat (first | apply Kd.R_alloc | apply Kd.R_drewN | apply Kd.R_drew)); exact HO_7.out⟩, ⟨by repeat (first | (with_reducible first | exact HB.out | apply below_alloc | apply pw_below_drewN | apply below_drew1) | exact HB.out)⟩⟩
            · rw [if_neg c20] at H
              exact absurd H (by simp)
        · rw [if_neg c12] at H
          have c12b0 : decide (x9_1 < (t129.length : Int)) = false := decide_eq_false c12
          clear c12
          by_cases c26 : x8_1 = true
          · subst c26
            have H1 : (if t127 ≥ (wrap64 (Int.tmod (IntKind.u64.wrap (a0)) 1201)) then (if (wrap64 (Int.tmod (IntKind.u64.wrap (a0)) 1201)) > (wrap64 (Int.tmod (IntKind.u64.wrap (a1)) 1201)) then (some true) else (some (decide (t127 ≤ t128)))) else (some false)) = some r := by rw [if_pos rfl] at H; exact H
            clear H
            have H := H1
            clear H1
            by_cases c27 : t127 ≥ (wrap64 (Int.tmod (IntKind.u64.wrap (a0)) 1201))
            · rw [if_pos c27] at H
              have c27b0 : decide ((wrap64 (Int.tmod (IntKind.u64.wrap (a0)) 1201)) ≤ t127) = true := decide_eq_true c27
              clear c27
              by_cases c28 : (wrap64 (Int.tmod (IntKind.u64.wrap (a0)) 1201)) > (wrap64 (Int.tmod (IntKind.u64.wrap (a1)) 1201))
              · rw [if_pos c28] at H
                have c28b0 : decide ((wrap64 (Int.tmod (IntKind.u64.wrap (a1)) 1201)) < (wrap64 (Int.tmod (IntKind.u64.wrap (a0)) 1201))) = true := decide_eq_true c28
                clear c28
                obtain rfl := Option.some.inj H
                obtain ⟨Ao29, co29, eo29⟩ := Kd.R_slice HO_7.out
                subst eo29
                go_wp2
                go_ret
                exact ⟨by first | rfl | (simp [errW_none, errW_some] <;> rfl) | (simp [*, errW_none, errW_some] <;> rfl), by repeat (first | (with_reducible first | exact HB.out | apply below_alloc | apply pw_below_drewN | apply below_drew1) | exact HB.out)⟩
              · rw [if_neg c28] at H
                have c28b0 : decide ((wrap64 (Int.tmod (IntKind.u64.wrap (a1)) 1201)) < (wrap64 (Int.tmod (IntKind.u64.wrap (a0)) 1201))) = false := decide_eq_false c28
                clear c28
                obtain rfl := Option.some.inj H
                obtain ⟨Ao30, co30, eo30⟩ := Kd.R_slice HO_7.out
                subst eo30
                go_wp2
                go_ret
                exact ⟨by first | rfl | (simp [errW_none, errW_some] <;> rfl) | (simp [*, errW_none, errW_some] <;> rfl), by repeat (first | (with_reducible first | exact HB.out | apply below_alloc | apply pw_below_drewN | apply below_drew1) | exact HB.out)⟩
            · rw [if_neg c27] at H
              have c27b0 : decide ((wrap64 (Int.tmod (IntKind.u64.wrap (a0)) 1201)) ≤ t127) = false := decide_eq_false c27
              clear c27
              obtain rfl := Option.some.inj H
              obtain ⟨Ao31, co31, eo31⟩ := Kd.R_slice HO_7.out
              subst eo31
              go_wp2
              go_ret
              exact ⟨by first | rfl | (simp [errW_none, errW_some] <;> rfl) | (simp [*, errW_none, errW_some] <;> rfl), by repeat (first | (with_reducible first | exact HB.out | apply below_alloc | apply pw_below_drewN | apply below_drew1) | exact HB.out)⟩
          · replace c26 := Bool.eq_false_iff.mpr c26
            subst c26
            have H1 : (some false) = some r := by rw [if_neg (show ¬ (false = true) by decide)] at H; exact H
            clear H
            have H := H1
            clear H1
            obtain rfl := Option.some.inj H
            obtain ⟨Ao32, co32, eo32⟩ := Kd.R_slice HO_7.out
            subst eo32
            go_wp2
            go_ret
            exact ⟨by first | rfl | (simp [errW_none, errW_some] <;> rfl) | (simp [*, errW_none, errW_some] <;> rfl), by repeat (first | (with_reducible first | exact HB.out | apply below_alloc | apply pw_below_drewN | apply below_drew1) | exact HB.out)⟩
  · replace c4 := Bool.eq_false_iff.mpr c4
    subst c4
    have H1 : (some false) = some r := by rw [if_neg (show ¬ (false = true) by decide)] at H; exact H
    clear H
    have H := H1
    clear H1
    obtain rfl := Option.some.inj H
    go_enter Try.func5, Try.ntmps5
    go_wp2_with (first | ((with_reducible refine gate_callee (f := 17) rfl ?_); refine goesL_ (some 10) rfl rfl Try.func17 (by kernel_rfl) rfl #[] rfl (by (try simp only [List.map_toArray, List.map_cons, List.map_nil]); first | done | rfl | (simp only [List.length_drop, List.length_take]; rfl)) ?_; (with_reducible refine (vizardlaw21_works.calls k  false _ A3.out).mono ?_); rintro e w33 ⟨rfl, hb⟩; refine ⟨_, rfl, ?_⟩; have n0_ := Aside0.mk (below_step (by repeat (first | (with_reducible first | exact HB.out | apply below_alloc | apply pw_below_drewN | apply below_drew1) | exact HB.out)) hb); clear HB; have HB := n0_; clear n0_; (try clear hb); (try clear hb2); (try clear hk); (try clear hi)))
    go_ret
    exact ⟨by first | rfl | (simp [errW_none, errW_some] <;> rfl) | (simp [*, errW_none, errW_some] <;> rfl), by repeat (first | (with_reducible first | exact HB.out | apply below_alloc | apply pw_below_drewN | apply below_drew1) | exact HB.out)⟩

/-- THE ONE PURE STATEMENT of vizardlaw21_SlotsClasses: yours. -/
def vizardlaw21_SlotsClasses.Pure : Prop := ∀ (a0 : Int) (a1 : Int), (Lit.int .i64 a0).wf = true → (Lit.int .i64 a1).wf = true → ∃ k, vizardlaw21_SlotsClasses.f k a0 a1 = some true
theorem vizardlaw21_SlotsClasses.walk (P : vizardlaw21_SlotsClasses.Pure) (a0 : Int) (a1 : Int) (w : World) (w0 : (Lit.int .i64 a0).wf = true) (w1 : (Lit.int .i64 a1).wf = true) :
    Calls Try.prog 5 #[.int .i64 a0, .int .i64 a1] w fun e w' => e = .returned (.bool true) ∧ Below w.heap.size w w' := by
  obtain ⟨k, h⟩ := P a0 a1 w0 w1
  refine (vizardlaw21_SlotsClasses.calls k a0 a1 true w h).mono ?_
  rintro e w' ⟨rfl, hd⟩
  exact ⟨rfl, hd⟩

end Go.Proofs.Ytkadeigcblmcaaa.PSlotsClasses
