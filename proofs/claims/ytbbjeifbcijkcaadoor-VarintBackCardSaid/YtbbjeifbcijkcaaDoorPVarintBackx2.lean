/- Written by a program of this session (xprint.py, over the kit's print): Go functions told as Lean functions, each with the proof that a call answers just so. -/
import Derived.Test.YtbbjeifbcijkcaaDoorPVarintBackx0
import Derived.Test.YtbbjeifbcijkcaaDoorPVarintBackx1
namespace Go.Proofs.YtbbjeifbcijkcaaDoor.PVarintBack
open Go.Proofs.YtbbjeifbcijkcaaDoor.Hand
open Go.RowKit Go.Proofs.YtbbjeifbcijkcaaDoorW.PrintWords Go.Proofs.YtbbjeifbcijkcaaDoorW.PrintLast Go.Proofs.YtbbjeifbcijkcaaDoorW.PrintMore
attribute [local go_sem] max2_int min2_int max_two min_two max_three min_three max_four min_four   -- for this text's walks alone
set_option linter.unusedVariables false
set_option linter.unusedSimpArgs false

/-! ### vizardlaw01_VarintBack: function 7 -/
mutual
def vizardlaw01_VarintBack.j0 : Nat → Int → ByteArray → Int → ByteArray → Bool → Option (Bool)
  | 0, _, _, _, _, _ => none
  | k + 1, x0, x2, x3, x9, x57 => if x57 = true then (some false) else (if x9.size + 0 ≤ 9223372036854775807 then (if (x9.size : Int) = 0 then (none) else (if 0 ≤ (wrap64 (Int.tmod (IntKind.u64.wrap (x3)) (x9.size : Int))) then (if (wrap64 (Int.tmod (IntKind.u64.wrap (x3)) (x9.size : Int))) ≤ (x9.size : Int) then ((varint_Take.f k (x9.extract 0 ((wrap64 (Int.tmod (IntKind.u64.wrap (x3)) (x9.size : Int))) : Int).toNat)).bind fun bt126 => (if bt126.2.2 = 1 then ((varint_Put.f k x0).bind fun t129 => (if x0 < 0 then (vizardlaw01_VarintBack.j1 k x0 x2 x3 t129 true) else (vizardlaw01_VarintBack.j1 k x0 x2 x3 t129 (decide (x0 > 4611686018427387903))))) else (some false))) else (none)) else (none))) else (none))
def vizardlaw01_VarintBack.j1 : Nat → Int → ByteArray → Int → ByteArray → Bool → Option (Bool)
  | 0, _, _, _, _, _ => none
  | k + 1, x0, x2, x3, x13, x81 => if x81 = true then (some (x13.toList == ([] : List UInt8))) else (if x13.toList = ([] : List UInt8) then (some false) else (if x13.size + x2.size ≤ 9223372036854775807 then ((varint_Get.f k (x13 ++ x2)).bind fun bt130 => (if x13.size + 0 ≤ 9223372036854775807 then (if (x13.size : Int) = 0 then (none) else (if 0 ≤ (wrap64 (Int.tmod (IntKind.u64.wrap (x3)) (x13.size : Int))) then (if (wrap64 (Int.tmod (IntKind.u64.wrap (x3)) (x13.size : Int))) ≤ (x13.size : Int) then ((varint_Get.f k (x13.extract 0 ((wrap64 (Int.tmod (IntKind.u64.wrap (x3)) (x13.size : Int))) : Int).toNat)).bind fun bt133 => (if bt130.2.2 = 0 then (if bt130.1 = x0 then (if bt130.2.1 = (x13.size : Int) then (some (bt133.2.2 == 1)) else (some false)) else (some false)) else (some false))) else (none)) else (none))) else (none))) else (none)))
end
def vizardlaw01_VarintBack.f (k : Nat) (a0 : Int) (a1 : ByteArray) (a2 : ByteArray) (a3 : Int) : Option (Bool) := (vizardlaw01_works.f k).bind fun t120 => (if t120 = true then ((varint_Text.f k a1).bind fun t121 => (if t121.size + a2.size ≤ 9223372036854775807 then ((varint_Take.f k (t121 ++ a2)).bind fun bt122 => (if bt122.2.2 = 0 then (if bt122.1.toList = a1.toList then (if bt122.2.1 = (t121.size : Int) then (if t121.toList = ([] : List UInt8) then (vizardlaw01_VarintBack.j0 k a0 a2 a3 t121 true) else ((varint_Put.f k (a1.size : Int)).bind fun t125 => (if t125.size + a1.size ≤ 9223372036854775807 then (vizardlaw01_VarintBack.j0 k a0 a2 a3 t121 (t121.toList != (t125 ++ a1).toList)) else (none)))) else (vizardlaw01_VarintBack.j0 k a0 a2 a3 t121 true)) else (vizardlaw01_VarintBack.j0 k a0 a2 a3 t121 true)) else (vizardlaw01_VarintBack.j0 k a0 a2 a3 t121 true))) else (none))) else (some false))
theorem vizardlaw01_VarintBack.mono_l : ∀ k, (∀ y0 y1 y2 y3 y4, LeO (vizardlaw01_VarintBack.j0 k y0 y1 y2 y3 y4) (vizardlaw01_VarintBack.j0 (k + 1) y0 y1 y2 y3 y4)) ∧ (∀ y0 y1 y2 y3 y4, LeO (vizardlaw01_VarintBack.j1 k y0 y1 y2 y3 y4) (vizardlaw01_VarintBack.j1 (k + 1) y0 y1 y2 y3 y4))
  | 0 => ⟨fun _ _ _ _ _ r h => by simp [vizardlaw01_VarintBack.j0] at h, fun _ _ _ _ _ r h => by simp [vizardlaw01_VarintBack.j1] at h⟩
  | k + 1 => by
    obtain ⟨ih0, ih1⟩ := vizardlaw01_VarintBack.mono_l k
    refine ⟨?_, ?_⟩
    · intro y0 y1 y2 y3 y4
      unfold vizardlaw01_VarintBack.j0
      repeat' first
      | (with_reducible exact ih0 _ _ _ _ _)
      | (with_reducible exact ih1 _ _ _ _ _)
      | (with_reducible exact varint_Get.mono _ _)
      | (with_reducible exact varint_Put.mono _ _)
      | (with_reducible exact varint_Take.mono _ _)
      | (with_reducible exact varint_Text.mono _ _)
      | (with_reducible exact vizardlaw01_works.mono _)
      | (with_reducible exact LeO.refl _)
      | (with_reducible exact LeO.none _)
      | (with_reducible refine LeO.ite ?_ ?_)
      | (with_reducible refine LeO.bind ?_ (fun _ => ?_))
      | exact ih0 _ _ _ _ _
      | exact ih1 _ _ _ _ _
      | exact varint_Get.mono _ _
      | exact varint_Put.mono _ _
      | exact varint_Take.mono _ _
      | exact varint_Text.mono _ _
      | exact vizardlaw01_works.mono _
      | exact LeO.none _
      | refine LeO.ite ?_ ?_
      | refine LeO.bind ?_ (fun _ => ?_)
    · intro y0 y1 y2 y3 y4
      unfold vizardlaw01_VarintBack.j1
      repeat' first
      | (with_reducible exact ih0 _ _ _ _ _)
      | (with_reducible exact ih1 _ _ _ _ _)
      | (with_reducible exact varint_Get.mono _ _)
      | (with_reducible exact varint_Put.mono _ _)
      | (with_reducible exact varint_Take.mono _ _)
      | (with_reducible exact varint_Text.mono _ _)
      | (with_reducible exact vizardlaw01_works.mono _)
      | (with_reducible exact LeO.refl _)
      | (with_reducible exact LeO.none _)
      | (with_reducible refine LeO.ite ?_ ?_)
      | (with_reducible refine LeO.bind ?_ (fun _ => ?_))
      | exact ih0 _ _ _ _ _
      | exact ih1 _ _ _ _ _
      | exact varint_Get.mono _ _
      | exact varint_Put.mono _ _
      | exact varint_Take.mono _ _
      | exact varint_Text.mono _ _
      | exact vizardlaw01_works.mono _
      | exact LeO.none _
      | refine LeO.ite ?_ ?_
      | refine LeO.bind ?_ (fun _ => ?_)
theorem vizardlaw01_VarintBack.mono : ∀ a0 a1 a2 a3 k, LeO (vizardlaw01_VarintBack.f k a0 a1 a2 a3) (vizardlaw01_VarintBack.f (k + 1) a0 a1 a2 a3) := by
  intro a0 a1 a2 a3 k
  obtain ⟨ih0, ih1⟩ := vizardlaw01_VarintBack.mono_l k
  unfold vizardlaw01_VarintBack.f
  repeat' first
      | (with_reducible exact ih0 _ _ _ _ _)
      | (with_reducible exact ih1 _ _ _ _ _)
      | (with_reducible exact varint_Get.mono _ _)
      | (with_reducible exact varint_Put.mono _ _)
      | (with_reducible exact varint_Take.mono _ _)
      | (with_reducible exact varint_Text.mono _ _)
      | (with_reducible exact vizardlaw01_works.mono _)
      | (with_reducible exact LeO.refl _)
      | (with_reducible exact LeO.none _)
      | (with_reducible refine LeO.ite ?_ ?_)
      | (with_reducible refine LeO.bind ?_ (fun _ => ?_))
      | exact ih0 _ _ _ _ _
      | exact ih1 _ _ _ _ _
      | exact varint_Get.mono _ _
      | exact varint_Put.mono _ _
      | exact varint_Take.mono _ _
      | exact varint_Text.mono _ _
      | exact vizardlaw01_works.mono _
      | exact LeO.none _
      | refine LeO.ite ?_ ?_
      | refine LeO.bind ?_ (fun _ => ?_)
set_option maxHeartbeats 8000000 in
set_option maxRecDepth 100000 in
theorem vizardlaw01_VarintBack.calls (k : Nat) (a0 : Int) (a1 : ByteArray) (a2 : ByteArray) (a3 : Int) (r : Bool) (w : World) (hG0 : Kd.C (Kd.int .i64) w (some ⟨0, 0, none⟩) 4 ([1, 2, 4, 8] : List Int)) (h : vizardlaw01_VarintBack.f k a0 a1 a2 a3 = some r) :
    Calls Tryd.prog 7 #[.int .i64 a0, .string a1, .string a2, .int .i64 a3] w fun e w' => e = .returned (.bool r) ∧ Below w.heap.size w w' := by
  have HRG0 := Aside0.mk hG0
  clear hG0
  have HB := Aside0.mk (Below.refl w.heap.size w)
  have H : ((vizardlaw01_works.f k).bind fun t120 => (if t120 = true then ((varint_Text.f k a1).bind fun t121 => (if t121.size + a2.size ≤ 9223372036854775807 then ((varint_Take.f k (t121 ++ a2)).bind fun bt122 => (if bt122.2.2 = 0 then (if bt122.1.toList = a1.toList then (if bt122.2.1 = (t121.size : Int) then (if t121.toList = ([] : List UInt8) then (vizardlaw01_VarintBack.j0 k a0 a2 a3 t121 true) else ((varint_Put.f k (a1.size : Int)).bind fun t125 => (if t125.size + a1.size ≤ 9223372036854775807 then (vizardlaw01_VarintBack.j0 k a0 a2 a3 t121 (t121.toList != (t125 ++ a1).toList)) else (none)))) else (vizardlaw01_VarintBack.j0 k a0 a2 a3 t121 true)) else (vizardlaw01_VarintBack.j0 k a0 a2 a3 t121 true)) else (vizardlaw01_VarintBack.j0 k a0 a2 a3 t121 true))) else (none))) else (some false))) = some r := h
  clear h
  replace H := Option.bind_eq_some_iff.mp H
  obtain ⟨t120, A50, H⟩ := H
  replace H : (if t120 = true then ((varint_Text.f k a1).bind fun t121 => (if t121.size + a2.size ≤ 9223372036854775807 then ((varint_Take.f k (t121 ++ a2)).bind fun bt122 => (if bt122.2.2 = 0 then (if bt122.1.toList = a1.toList then (if bt122.2.1 = (t121.size : Int) then (if t121.toList = ([] : List UInt8) then (vizardlaw01_VarintBack.j0 k a0 a2 a3 t121 true) else ((varint_Put.f k (a1.size : Int)).bind fun t125 => (if t125.size + a1.size ≤ 9223372036854775807 then (vizardlaw01_VarintBack.j0 k a0 a2 a3 t121 (t121.toList != (t125 ++ a1).toList)) else (none)))) else (vizardlaw01_VarintBack.j0 k a0 a2 a3 t121 true)) else (vizardlaw01_VarintBack.j0 k a0 a2 a3 t121 true)) else (vizardlaw01_VarintBack.j0 k a0 a2 a3 t121 true))) else (none))) else (some false)) = some r := H
  have A5 := Aside0.mk A50
  clear A50
  by_cases c6 : t120 = true
  · subst c6
    have H1 : ((varint_Text.f k a1).bind fun t121 => (if t121.size + a2.size ≤ 9223372036854775807 then ((varint_Take.f k (t121 ++ a2)).bind fun bt122 => (if bt122.2.2 = 0 then (if bt122.1.toList = a1.toList then (if bt122.2.1 = (t121.size : Int) then (if t121.toList = ([] : List UInt8) then (vizardlaw01_VarintBack.j0 k a0 a2 a3 t121 true) else ((varint_Put.f k (a1.size : Int)).bind fun t125 => (if t125.size + a1.size ≤ 9223372036854775807 then (vizardlaw01_VarintBack.j0 k a0 a2 a3 t121 (t121.toList != (t125 ++ a1).toList)) else (none)))) else (vizardlaw01_VarintBack.j0 k a0 a2 a3 t121 true)) else (vizardlaw01_VarintBack.j0 k a0 a2 a3 t121 true)) else (vizardlaw01_VarintBack.j0 k a0 a2 a3 t121 true))) else (none))) = some r := by rw [if_pos rfl] at H; exact H
    clear H
    have H := H1
    clear H1
    replace H := Option.bind_eq_some_iff.mp H
    obtain ⟨t121, A70, H⟩ := H
    replace H : (if t121.size + a2.size ≤ 9223372036854775807 then ((varint_Take.f k (t121 ++ a2)).bind fun bt122 => (if bt122.2.2 = 0 then (if bt122.1.toList = a1.toList then (if bt122.2.1 = (t121.size : Int) then (if t121.toList = ([] : List UInt8) then (vizardlaw01_VarintBack.j0 k a0 a2 a3 t121 true) else ((varint_Put.f k (a1.size : Int)).bind fun t125 => (if t125.size + a1.size ≤ 9223372036854775807 then (vizardlaw01_VarintBack.j0 k a0 a2 a3 t121 (t121.toList != (t125 ++ a1).toList)) else (none)))) else (vizardlaw01_VarintBack.j0 k a0 a2 a3 t121 true)) else (vizardlaw01_VarintBack.j0 k a0 a2 a3 t121 true)) else (vizardlaw01_VarintBack.j0 k a0 a2 a3 t121 true))) else (none)) = some r := H
    have A7 := Aside0.mk A70
    clear A70
    by_cases c8 : t121.size + a2.size ≤ 9223372036854775807
    · rw [if_pos c8] at H
      have c8b0 := eq_true c8
      have c8b1 : decide (t121.size + a2.size ≤ 9223372036854775807) = true := decide_eq_true c8
      try have c8b2 : (9223372036854775807 < t121.size + a2.size) = False := eq_false (Nat.not_lt.2 c8)
      replace H := Option.bind_eq_some_iff.mp H
      obtain ⟨⟨t122, t123, t124⟩, A90, H⟩ := H
      replace H : (if t124 = 0 then (if t122.toList = a1.toList then (if t123 = (t121.size : Int) then (if t121.toList = ([] : List UInt8) then (vizardlaw01_VarintBack.j0 k a0 a2 a3 t121 true) else ((varint_Put.f k (a1.size : Int)).bind fun t125 => (if t125.size + a1.size ≤ 9223372036854775807 then (vizardlaw01_VarintBack.j0 k a0 a2 a3 t121 (t121.toList != (t125 ++ a1).toList)) else (none)))) else (vizardlaw01_VarintBack.j0 k a0 a2 a3 t121 true)) else (vizardlaw01_VarintBack.j0 k a0 a2 a3 t121 true)) else (vizardlaw01_VarintBack.j0 k a0 a2 a3 t121 true)) = some r := H
      have A9 := Aside0.mk A90
      clear A90
      have HC10 := Aside0.mk H
      clear H
      go_enter Tryd.func7, Tryd.ntmps7
      go_upto_region 5 with (first | ((with_reducible refine gate_callee (f := 17) rfl ?_); refine goesL_ (some 20) rfl rfl Tryd.func17 (by kernel_rfl) rfl #[] rfl (by (try simp only [List.map_toArray, List.map_cons, List.map_nil]); first | done | rfl | (simp only [List.length_drop, List.length_take]; rfl)) ?_; (with_reducible refine (vizardlaw01_works.calls k  true _ ?side1 A5.out).mono ?_); (case side1 => repeat (first | exact HRG0.out | (with_reducible refine Kd.C_alloc ?_ _) | (with_reducible refine Kd.C_drewN ?_ _) | (with_reducible refine Kd.C_drew ?_))); rintro e w11 ⟨rfl, hb⟩; refine ⟨_, rfl, ?_⟩; have n0_ := Aside0.mk (below_step (by repeat (first | (with_reducible first | exact HB.out | apply below_alloc | apply pw_below_drewN | apply below_drew1) | exact HB.out)) hb); clear HB; have HB := n0_; clear n0_; (try clear hb); (try clear hb2); (try clear hk); (try clear hi)) | ((with_reducible refine gate_callee (f := 19) rfl ?_); refine goesL_ (some 23) rfl rfl Tryd.func19 (by kernel_rfl) rfl #[.string a1] rfl (by (try simp only [List.map_toArray, List.map_cons, List.map_nil]); first | done | rfl | (simp only [List.length_drop, List.length_take]; rfl)) ?_; (with_reducible refine (varint_Text.calls k a1 t121 _ ?side1 A7.out).mono ?_); (case side1 => repeat (first | exact (Kd.C_below HRG0.out HB.out) | (with_reducible refine Kd.C_alloc ?_ _) | (with_reducible refine Kd.C_drewN ?_ _) | (with_reducible refine Kd.C_drew ?_))); rintro e w12 ⟨rfl, hb⟩; refine ⟨_, rfl, ?_⟩; have n0_ := Aside0.mk (below_step (by repeat (first | (with_reducible first | exact HB.out | apply below_alloc | apply pw_below_drewN | apply below_drew1) | exact HB.out)) hb); clear HB; have HB := n0_; clear n0_; (try clear hb); (try clear hb2); (try clear hk); (try clear hi)) | ((with_reducible refine gate_callee (f := 11) rfl ?_); refine goesL_ (some 28) rfl rfl Tryd.func11 (by kernel_rfl) rfl #[.string (t121 ++ a2)] rfl (by (try simp only [List.map_toArray, List.map_cons, List.map_nil]); first | done | rfl | (simp only [List.length_drop, List.length_take]; rfl)) ?_; (with_reducible refine (varint_Take.calls k (t121 ++ a2) t122 t123 t124 _ ?side1 A9.out).mono ?_); (case side1 => repeat (first | exact (Kd.C_below HRG0.out HB.out) | (with_reducible refine Kd.C_alloc ?_ _) | (with_reducible refine Kd.C_drewN ?_ _) | (with_reducible refine Kd.C_drew ?_))); rintro e w' ⟨rfl, ⟨nd, rfl⟩⟩; refine ⟨_, rfl, ?_⟩))
      (try simp only [Act.put, List.setIfInBounds_toArray, List.set_cons_zero, List.set_cons_succ])
      go_cut [57] (fun v57 wc => ∃ (kq : Nat) (x57_9 : Bool), v57 = .bool x57_9 ∧ Aside0 (vizardlaw01_VarintBack.j0 kq a0 a2 a3 t121 x57_9 = some r) ∧ Aside0 (kq ≤ k) ∧ Aside0 (Below w.heap.size w wc))
      case first =>
        have H := HC10.out
        clear HC10
        by_cases c13 : t124 = 0
        · rw [if_pos c13] at H
          have c13b0 : (t124 == 0) = true := beq_iff_eq.mpr c13
          have c13b1 : (t124 != 0) = false := bne_eq_false_iff_eq.mpr c13
          clear c13
          (first | rw [c13b0] | (simp only [i64_w, i32_w]; rw [c13b0]) | skip)
          by_cases c14 : t122.toList = a1.toList
          · rw [if_pos c14] at H
            have c14b0 : (t122.toList == a1.toList) = true := beq_iff_eq.mpr c14
            have c14b1 : (t122.toList != a1.toList) = false := bne_eq_false_iff_eq.mpr c14
            clear c14
            by_cases c15 : t123 = (t121.size : Int)
            · rw [if_pos c15] at H
              have c15b0 : (t123 == (t121.size : Int)) = true := beq_iff_eq.mpr c15
              have c15b1 : (t123 != (t121.size : Int)) = false := bne_eq_false_iff_eq.mpr c15
              clear c15
              by_cases c16 : t121.toList = ([] : List UInt8)
              · rw [if_pos c16] at H
                have c16b0 : (t121.toList == ([] : List UInt8)) = true := beq_iff_eq.mpr c16
                have c16b1 : (t121.toList != ([] : List UInt8)) = false := bne_eq_false_iff_eq.mpr c16
                clear c16
                have H' := Aside0.mk H
                clear H
                go_wp2
                go_meet
                case rel => exact ⟨_, (true), (by first | rfl | (simp; done) | (simp [*]; done)), H', ⟨by first | omega | exact Nat.le_refl _⟩, ⟨by repeat (first | (with_reducible first | exact HB.out | apply below_alloc | apply pw_below_drewN | apply below_drew1) | exact HB.out)⟩⟩
              · rw [if_neg c16] at H
                have c16b0 : (t121.toList == ([] : List UInt8)) = false := beq_eq_false_iff_ne.mpr c16
                have c16b1 : (t121.toList != ([] : List UInt8)) = true := bne_iff_ne.mpr c16
                replace H := Option.bind_eq_some_iff.mp H
                obtain ⟨t125, A170, H⟩ := H
                replace H : (if t125.size + a1.size ≤ 9223372036854775807 then (vizardlaw01_VarintBack.j0 k a0 a2 a3 t121 (t121.toList != (t125 ++ a1).toList)) else (none)) = some r := H
                have A17 := Aside0.mk A170
                clear A170
                by_cases c18 : t125.size + a1.size ≤ 9223372036854775807
                · rw [if_pos c18] at H
                  have c18b0 := eq_true c18
                  have c18b1 : decide (t125.size + a1.size ≤ 9223372036854775807) = true := decide_eq_true c18
                  try have c18b2 : (9223372036854775807 < t125.size + a1.size) = False := eq_false (Nat.not_lt.2 c18)
                  have H' := Aside0.mk H
                  clear H
                  go_wp2_with (first | (go_at_call 15; (with_reducible refine (varint_Put.calls k (a1.size : Int) t125 _ ?side1 A17.out).mono ?_); (case side1 => repeat (first | exact (Kd.C_below HRG0.out HB.out) | (with_reducible refine Kd.C_alloc ?_ _) | (with_reducible refine Kd.C_drewN ?_ _) | (with_reducible refine Kd.C_drew ?_))); rintro e w19 ⟨rfl, hb⟩; have n0_ := Aside0.mk (below_step (by repeat (first | (with_reducible first | exact HB.out | apply below_alloc | apply pw_below_drewN | apply below_drew1) | exact HB.out)) hb); clear HB; have HB := n0_; clear n0_; (try clear hb); (try clear hb2); (try clear hk); (try clear hi)))
                  go_meet
                  case rel => exact ⟨_, ((t121.toList != (t125 ++ a1).toList)), (by first | rfl | (simp; done) | (simp [*]; done)), H', ⟨by first | omega | exact Nat.le_refl _⟩, ⟨by repeat (first | (with_reducible first | exact HB.out | apply below_alloc | apply pw_below_drewN | apply below_drew1) | exact HB.out)⟩⟩
                · rw [if_neg c18] at H
                  exact absurd H (by simp)
            · rw [if_neg c15] at H
              have c15b0 : (t123 == (t121.size : Int)) = false := beq_eq_false_iff_ne.mpr c15
              have c15b1 : (t123 != (t121.size : Int)) = true := bne_iff_ne.mpr c15
              have H' := Aside0.mk H
              clear H
              go_wp2
              go_meet
              case rel => exact ⟨_, (true), (by first | rfl | (simp; done) | (simp [*]; done)), H', ⟨by first | omega | exact Nat.le_refl _⟩, ⟨by repeat (first | (with_reducible first | exact HB.out | apply below_alloc | apply pw_below_drewN | apply below_drew1) | exact HB.out)⟩⟩
          · rw [if_neg c14] at H
            have c14b0 : (t122.toList == a1.toList) = false := beq_eq_false_iff_ne.mpr c14
            have c14b1 : (t122.toList != a1.toList) = true := bne_iff_ne.mpr c14
            have H' := Aside0.mk H
            clear H
            go_wp2
            go_meet
            case rel => exact ⟨_, (true), (by first | rfl | (simp; done) | (simp [*]; done)), H', ⟨by first | omega | exact Nat.le_refl _⟩, ⟨by repeat (first | (with_reducible first | exact HB.out | apply below_alloc | apply pw_below_drewN | apply below_drew1) | exact HB.out)⟩⟩
        · rw [if_neg c13] at H
          have c13b0 : (t124 == 0) = false := beq_eq_false_iff_ne.mpr c13
          have c13b1 : (t124 != 0) = true := bne_iff_ne.mpr c13
          (first | rw [c13b0] | (simp only [i64_w, i32_w]; rw [c13b0]) | skip)
          have H' := Aside0.mk H
          clear H
          go_wp2
          go_meet
          case rel => exact ⟨_, (true), (by first | rfl | (simp; done) | (simp [*]; done)), H', ⟨by first | omega | exact Nat.le_refl _⟩, ⟨by repeat (first | (with_reducible first | exact HB.out | apply below_alloc | apply pw_below_drewN | apply below_drew1) | exact HB.out)⟩⟩
      case rest =>
        clear HC10
        try clear c1
        try clear p2
        try clear c6
        try clear c7
        try clear c8
        try clear c8b0
        try clear c8b1
        try clear c8b2
        try clear c11
        try clear c13
        try clear c13b0
        try clear c13b1
        try clear c14
        try clear c14b0
        try clear c14b1
        try clear c15
        try clear c15b0
        try clear c15b1
        try clear c16
        try clear c16b0
        try clear c16b1
        try clear c17
        try clear c18
        try clear c18b0
        try clear c18b1
        try clear c18b2
        try clear c19
        obtain ⟨kq, x57_9, rfl, HA, HJ9, HB⟩ := hcut
        cases kq with
        | zero => exact absurd HA.out (by simp [vizardlaw01_VarintBack.j0])
        | succ kj9 =>
          have H := HA.out
          clear HA
          simp only [vizardlaw01_VarintBack.j0] at H
          by_cases c20 : x57_9 = true
          · subst c20
            have H1 : (some false) = some r := by rw [if_pos rfl] at H; exact H
            clear H
            have H := H1
            clear H1
            obtain rfl := Option.some.inj H
            go_wp2
            go_ret
            exact ⟨by first | rfl | (simp [errW_none, errW_some] <;> rfl) | (simp [*, errW_none, errW_some] <;> rfl), by repeat (first | (with_reducible first | exact HB.out | apply below_alloc | apply pw_below_drewN | apply below_drew1) | exact HB.out)⟩
          · replace c20 := Bool.eq_false_iff.mpr c20
            subst c20
            have H1 : (if t121.size + 0 ≤ 9223372036854775807 then (if (t121.size : Int) = 0 then (none) else (if 0 ≤ (wrap64 (Int.tmod (IntKind.u64.wrap (a3)) (t121.size : Int))) then (if (wrap64 (Int.tmod (IntKind.u64.wrap (a3)) (t121.size : Int))) ≤ (t121.size : Int) then ((varint_Take.f kj9 (t121.extract 0 ((wrap64 (Int.tmod (IntKind.u64.wrap (a3)) (t121.size : Int))) : Int).toNat)).bind fun bt126 => (if bt126.2.2 = 1 then ((varint_Put.f kj9 a0).bind fun t129 => (if a0 < 0 then (vizardlaw01_VarintBack.j1 kj9 a0 a2 a3 t129 true) else (vizardlaw01_VarintBack.j1 kj9 a0 a2 a3 t129 (decide (a0 > 4611686018427387903))))) else (some false))) else (none)) else (none))) else (none)) = some r := by rw [if_neg (show ¬ (false = true) by decide)] at H; exact H
            clear H
            have H := H1
            clear H1
            by_cases c21 : t121.size + 0 ≤ 9223372036854775807
            · rw [if_pos c21] at H
              have c21b0 := eq_true c21
              have c21b1 : decide (t121.size + 0 ≤ 9223372036854775807) = true := decide_eq_true c21
              try have c21b2 : (9223372036854775807 < t121.size + 0) = False := eq_false (Nat.not_lt.2 c21)
              by_cases c22 : (t121.size : Int) = 0
              · rw [if_pos c22] at H
                exact absurd H (by simp)
              · rw [if_neg c22] at H
                have c22b0 : ((t121.size : Int) == 0) = false := beq_eq_false_iff_ne.mpr c22
                have c22b1 : ((t121.size : Int) != 0) = true := bne_iff_ne.mpr c22
                obtain ⟨ji23, hji23⟩ : ∃ j_ : Int, (wrap64 (Int.tmod (IntKind.u64.wrap (a3)) (t121.size : Int))) = j_ := ⟨_, rfl⟩
                replace H : (if 0 ≤ (ji23) then (if (ji23) ≤ (t121.size : Int) then ((varint_Take.f kj9 (t121.extract 0 ((ji23) : Int).toNat)).bind fun bt126 => (if bt126.2.2 = 1 then ((varint_Put.f kj9 a0).bind fun t129 => (if a0 < 0 then (vizardlaw01_VarintBack.j1 kj9 a0 a2 a3 t129 true) else (vizardlaw01_VarintBack.j1 kj9 a0 a2 a3 t129 (decide (a0 > 4611686018427387903))))) else (some false))) else (none)) else (none)) = some r := by first | (rw [hji23] at H; exact H) | (simp only [hji23] at H ⊢; exact H)
                have hji23w : (IntKind.i64.wrap (Int.tmod (IntKind.u64.wrap (a3)) (t121.size : Int))) = ji23 := (i64_w _).trans hji23
                by_cases c24 : 0 ≤ (ji23)
                · rw [if_pos c24] at H
                  have c24b0 := eq_true c24
                  have c24b1 : decide (0 ≤ (ji23)) = true := decide_eq_true c24
                  clear c24
                  by_cases c25 : (ji23) ≤ (t121.size : Int)
                  · rw [if_pos c25] at H
                    have c25b0 := eq_true c25
                    have c25b1 : decide ((ji23) ≤ (t121.size : Int)) = true := decide_eq_true c25
                    clear c25
                    replace H := Option.bind_eq_some_iff.mp H
                    obtain ⟨⟨t126, t127, t128⟩, A260, H⟩ := H
                    replace H : (if t128 = 1 then ((varint_Put.f kj9 a0).bind fun t129 => (if a0 < 0 then (vizardlaw01_VarintBack.j1 kj9 a0 a2 a3 t129 true) else (vizardlaw01_VarintBack.j1 kj9 a0 a2 a3 t129 (decide (a0 > 4611686018427387903))))) else (some false)) = some r := H
                    have A26 := Aside0.mk A260
                    clear A260
                    by_cases c27 : t128 = 1
                    · rw [if_pos c27] at H
                      have c27b0 : (t128 == 1) = true := beq_iff_eq.mpr c27
                      have c27b1 : (t128 != 1) = false := bne_eq_false_iff_eq.mpr c27
                      clear c27
                      replace H := Option.bind_eq_some_iff.mp H
                      obtain ⟨t129, A280, H⟩ := H
                      replace H : (if a0 < 0 then (vizardlaw01_VarintBack.j1 kj9 a0 a2 a3 t129 true) else (vizardlaw01_VarintBack.j1 kj9 a0 a2 a3 t129 (decide (a0 > 4611686018427387903)))) = some r := H
                      have A28 := Aside0.mk A280
                      clear A280
                      have HC29 := Aside0.mk H
                      clear H
                      go_upto_region 11 with (first | ((with_reducible refine gate_callee (f := 11) rfl ?_); refine goesL_ (some 68) rfl rfl Tryd.func11 (by kernel_rfl) rfl #[.string (t121.extract 0 ((ji23) : Int).toNat)] rfl (by (try simp only [List.map_toArray, List.map_cons, List.map_nil]); first | done | (simp only [hji23]; rfl) | rfl | (simp only [List.length_drop, List.length_take]; rfl)) ?_; (with_reducible refine (varint_Take.calls kj9 (t121.extract 0 ((ji23) : Int).toNat) t126 t127 t128 _ ?side1 A26.out).mono ?_); (case side1 => repeat (first | exact (Kd.C_below HRG0.out HB.out) | (with_reducible refine Kd.C_alloc ?_ _) | (with_reducible refine Kd.C_drewN ?_ _) | (with_reducible refine Kd.C_drew ?_))); rintro e w' ⟨rfl, ⟨nd, rfl⟩⟩; refine ⟨_, rfl, ?_⟩) | ((with_reducible refine gate_callee (f := 15) rfl ?_); refine goesL_ (some 75) rfl rfl Tryd.func15 (by kernel_rfl) rfl #[.int .i64 a0] rfl (by (try simp only [List.map_toArray, List.map_cons, List.map_nil]); first | done | rfl | (simp only [List.length_drop, List.length_take]; rfl)) ?_; (with_reducible refine (varint_Put.calls kj9 a0 t129 _ ?side1 A28.out).mono ?_); (case side1 => repeat (first | exact (Kd.C_below HRG0.out (by repeat (first | (with_reducible first | exact HB.out | apply below_alloc | apply pw_below_drewN | apply below_drew1) | exact HB.out))) | (with_reducible refine Kd.C_alloc ?_ _) | (with_reducible refine Kd.C_drewN ?_ _) | (with_reducible refine Kd.C_drew ?_))); rintro e w30 ⟨rfl, hb⟩; refine ⟨_, rfl, ?_⟩; have n0_ := Aside0.mk (below_step (by repeat (first | (with_reducible first | exact HB.out | apply below_alloc | apply pw_below_drewN | apply below_drew1) | exact HB.out)) hb); clear HB; have HB := n0_; clear n0_; (try clear hb); (try clear hb2); (try clear hk); (try clear hi)))
                      (try simp only [Act.put, List.setIfInBounds_toArray, List.set_cons_zero, List.set_cons_succ])
                      go_cut [81] (fun v81 wc => ∃ (kq : Nat) (x81_28 : Bool), v81 = .bool x81_28 ∧ Aside0 (vizardlaw01_VarintBack.j1 kq a0 a2 a3 t129 x81_28 = some r) ∧ Aside0 (kq ≤ kj9) ∧ Aside0 (Below w.heap.size w wc))
                      case first =>
                        have H := HC29.out
                        clear HC29
                        by_cases c31 : a0 < 0
                        · rw [if_pos c31] at H
                          have c31b0 : decide (a0 < 0) = true := decide_eq_true c31
                          clear c31
                          (first | rw [c31b0] | (simp only [i64_w, i32_w]; rw [c31b0]) | skip)
                          have H' := Aside0.mk H
                          clear H
                          go_wp2
                          go_meet
                          case rel => exact ⟨_, (true), (by first | rfl | (simp; done) | (simp [*]; done)), H', ⟨by have := HJ9.out; first | omega | exact Nat.le_refl _⟩, ⟨by repeat (first | (with_reducible first | exact HB.out | apply below_alloc | apply pw_below_drewN | apply below_drew1) | exact HB.out)⟩⟩
                        · rw [if_neg c31] at H
                          have c31b0 : decide (a0 < 0) = false := decide_eq_false c31
                          clear c31
                          (first | rw [c31b0] | (simp only [i64_w, i32_w]; rw [c31b0]) | skip)
                          have H' := Aside0.mk H
                          clear H
                          go_wp2
                          go_meet
                          case rel => exact ⟨_, (decide (a0 > 4611686018427387903)), (by first | rfl | (simp; done) | (simp [*]; done)), H', ⟨by have := HJ9.out; first | omega | exact Nat.le_refl _⟩, ⟨by repeat (first | (with_reducible first | exact HB.out | apply below_alloc | apply pw_below_drewN | apply below_drew1) | exact HB.out)⟩⟩
                      case rest =>
                        clear HC29
                        try clear c1
                        try clear c2
                        try clear p2
                        try clear c3
                        try clear c6
                        try clear p6
                        try clear c7
                        try clear c8
                        try clear c8b0
                        try clear c8b1
                        try clear c8b2
                        try clear c11
                        try clear c13
                        try clear c13b0
                        try clear c13b1
                        try clear c14
                        try clear c14b0
                        try clear c14b1
                        try clear c15
                        try clear c15b0
                        try clear c15b1
                        try clear c16
                        try clear c16b0
                        try clear c16b1
                        try clear c17
                        try clear c18
                        try clear c18b0
                        try clear c18b1
                        try clear c18b2
                        try clear c19
                        try clear c20
                        try clear c21
                        try clear c21b0
                        try clear c21b1
                        try clear c21b2
                        try clear c22
                        try clear c22b0
                        try clear c22b1
                        try clear c24
                        try clear c24b0
                        try clear c24b1
                        try clear c25
                        try clear c25b0
                        try clear c25b1
                        try clear c27
                        try clear c27b0
                        try clear c27b1
                        try clear c31
                        try clear c31b0
                        try clear p2
                        obtain ⟨kq, x81_28, rfl, HA, HJ28, HB⟩ := hcut
                        cases kq with
                        | zero => exact absurd HA.out (by simp [vizardlaw01_VarintBack.j1])
                        | succ kj28 =>
                          have H := HA.out
                          clear HA
                          simp only [vizardlaw01_VarintBack.j1] at H
                          by_cases c32 : x81_28 = true
                          · subst c32
                            have H1 : (some (t129.toList == ([] : List UInt8))) = some r := by rw [if_pos rfl] at H; exact H
                            clear H
                            have H := H1
                            clear H1
                            obtain rfl := Option.some.inj H
                            go_wp2
                            go_ret
                            exact ⟨by first | rfl | (simp [errW_none, errW_some] <;> rfl) | (simp only [← hji23]; first | rfl | (simp [errW_none, errW_some] <;> rfl)) | (simp [*, errW_none, errW_some] <;> rfl), by repeat (first | (with_reducible first | exact HB.out | apply below_alloc | apply pw_below_drewN | apply below_drew1) | exact HB.out)⟩
                          · replace c32 := Bool.eq_false_iff.mpr c32
                            subst c32
                            have H1 : (if t129.toList = ([] : List UInt8) then (some false) else (if t129.size + a2.size ≤ 9223372036854775807 then ((varint_Get.f kj28 (t129 ++ a2)).bind fun bt130 => (if t129.size + 0 ≤ 9223372036854775807 then (if (t129.size : Int) = 0 then (none) else (if 0 ≤ (wrap64 (Int.tmod (IntKind.u64.wrap (a3)) (t129.size : Int))) then (if (wrap64 (Int.tmod (IntKind.u64.wrap (a3)) (t129.size : Int))) ≤ (t129.size : Int) then ((varint_Get.f kj28 (t129.extract 0 ((wrap64 (Int.tmod (IntKind.u64.wrap (a3)) (t129.size : Int))) : Int).toNat)).bind fun bt133 => (if bt130.2.2 = 0 then (if bt130.1 = a0 then (if bt130.2.1 = (t129.size : Int) then (some (bt133.2.2 == 1)) else (some false)) else (some false)) else (some false))) else (none)) else (none))) else (none))) else (none))) = some r := by rw [if_neg (show ¬ (false = true) by decide)] at H; exact H
                            clear H
                            have H := H1
                            clear H1
                            by_cases c33 : t129.toList = ([] : List UInt8)
                            · rw [if_pos c33] at H
                              have c33b0 : (t129.toList == ([] : List UInt8)) = true := beq_iff_eq.mpr c33
                              have c33b1 : (t129.toList != ([] : List UInt8)) = false := bne_eq_false_iff_eq.mpr c33
                              clear c33
                              obtain rfl := Option.some.inj H
                              go_wp2
                              go_ret
                              exact ⟨by first | rfl | (simp [errW_none, errW_some] <;> rfl) | (simp only [← hji23]; first | rfl | (simp [errW_none, errW_some] <;> rfl)) | (simp [*, errW_none, errW_some] <;> rfl), by repeat (first | (with_reducible first | exact HB.out | apply below_alloc | apply pw_below_drewN | apply below_drew1) | exact HB.out)⟩
                            · rw [if_neg c33] at H
                              have c33b0 : (t129.toList == ([] : List UInt8)) = false := beq_eq_false_iff_ne.mpr c33
                              have c33b1 : (t129.toList != ([] : List UInt8)) = true := bne_iff_ne.mpr c33
                              by_cases c34 : t129.size + a2.size ≤ 9223372036854775807
                              · rw [if_pos c34] at H
                                have c34b0 := eq_true c34
                                have c34b1 : decide (t129.size + a2.size ≤ 9223372036854775807) = true := decide_eq_true c34
                                try have c34b2 : (9223372036854775807 < t129.size + a2.size) = False := eq_false (Nat.not_lt.2 c34)
                                replace H := Option.bind_eq_some_iff.mp H
                                obtain ⟨⟨t130, t131, t132⟩, A350, H⟩ := H
                                replace H : (if t129.size + 0 ≤ 9223372036854775807 then (if (t129.size : Int) = 0 then (none) else (if 0 ≤ (wrap64 (Int.tmod (IntKind.u64.wrap (a3)) (t129.size : Int))) then (if (wrap64 (Int.tmod (IntKind.u64.wrap (a3)) (t129.size : Int))) ≤ (t129.size : Int) then ((varint_Get.f kj28 (t129.extract 0 ((wrap64 (Int.tmod (IntKind.u64.wrap (a3)) (t129.size : Int))) : Int).toNat)).bind fun bt133 => (if t132 = 0 then (if t130 = a0 then (if t131 = (t129.size : Int) then (some (bt133.2.2 == 1)) else (some false)) else (some false)) else (some false))) else (none)) else (none))) else (none)) = some r := H
                                have A35 := Aside0.mk A350
                                clear A350
                                by_cases c36 : t129.size + 0 ≤ 9223372036854775807
                                · rw [if_pos c36] at H
                                  have c36b0 := eq_true c36
                                  have c36b1 : decide (t129.size + 0 ≤ 9223372036854775807) = true := decide_eq_true c36
                                  try have c36b2 : (9223372036854775807 < t129.size + 0) = False := eq_false (Nat.not_lt.2 c36)
                                  by_cases c37 : (t129.size : Int) = 0
                                  · rw [if_pos c37] at H
                                    exact absurd H (by simp)
                                  · rw [if_neg c37] at H
                                    have c37b0 : ((t129.size : Int) == 0) = false := beq_eq_false_iff_ne.mpr c37
                                    have c37b1 : ((t129.size : Int) != 0) = true := bne_iff_ne.mpr c37
                                    obtain ⟨ji38, hji38⟩ : ∃ j_ : Int, (wrap64 (Int.tmod (IntKind.u64.wrap (a3)) (t129.size : Int))) = j_ := ⟨_, rfl⟩
                                    replace H : (if 0 ≤ (ji38) then (if (ji38) ≤ (t129.size : Int) then ((varint_Get.f kj28 (t129.extract 0 ((ji38) : Int).toNat)).bind fun bt133 => (if t132 = 0 then (if t130 = a0 then (if t131 = (t129.size : Int) then (some (bt133.2.2 == 1)) else (some false)) else (some false)) else (some false))) else (none)) else (none)) = some r := by first | (rw [hji38] at H; exact H) | (simp only [hji38] at H ⊢; exact H)
                                    (try rw [hji38] at A35)
                                    have hji38w : (IntKind.i64.wrap (Int.tmod (IntKind.u64.wrap (a3)) (t129.size : Int))) = ji38 := (i64_w _).trans hji38
                                    by_cases c39 : 0 ≤ (ji38)
                                    · rw [if_pos c39] at H
                                      have c39b0 := eq_true c39
                                      have c39b1 : decide (0 ≤ (ji38)) = true := decide_eq_true c39
                                      clear c39
                                      by_cases c40 : (ji38) ≤ (t129.size : Int)
                                      · rw [if_pos c40] at H
                                        have c40b0 := eq_true c40
                                        have c40b1 : decide ((ji38) ≤ (t129.size : Int)) = true := decide_eq_true c40
                                        clear c40
                                        replace H := Option.bind_eq_some_iff.mp H
                                        obtain ⟨⟨t133, t134, t135⟩, A410, H⟩ := H
                                        replace H : (if t132 = 0 then (if t130 = a0 then (if t131 = (t129.size : Int) then (some (t135 == 1)) else (some false)) else (some false)) else (some false)) = some r := H
                                        have A41 := Aside0.mk A410
                                        clear A410
                                        by_cases c42 : t132 = 0
                                        · rw [if_pos c42] at H
                                          have c42b0 : (t132 == 0) = true := beq_iff_eq.mpr c42
                                          have c42b1 : (t132 != 0) = false := bne_eq_false_iff_eq.mpr c42
                                          clear c42
                                          by_cases c43 : t130 = a0
                                          · rw [if_pos c43] at H
                                            have c43b0 : (t130 == a0) = true := beq_iff_eq.mpr c43
                                            have c43b1 : (t130 != a0) = false := bne_eq_false_iff_eq.mpr c43
                                            clear c43
                                            by_cases c44 : t131 = (t129.size : Int)
                                            · rw [if_pos c44] at H
                                              have c44b0 : (t131 == (t129.size : Int)) = true := beq_iff_eq.mpr c44
                                              have c44b1 : (t131 != (t129.size : Int)) = false := bne_eq_false_iff_eq.mpr c44
                                              clear c44
                                              obtain rfl := Option.some.inj H
                                              go_wp2_with (first | ((with_reducible refine gate_callee (f := 9) rfl ?_); refine goesL_ (some 90) rfl rfl Tryd.func9 (by kernel_rfl) rfl #[.string (t129 ++ a2)] rfl (by (try simp only [List.map_toArray, List.map_cons, List.map_nil]); first | done | rfl | (simp only [List.length_drop, List.length_take]; rfl)) ?_; (with_reducible refine (varint_Get.calls kj28 (t129 ++ a2) t130 t131 t132 _ ?side1 A35.out).mono ?_); (case side1 => repeat (first | exact (Kd.C_below HRG0.out HB.out) | (with_reducible refine Kd.C_alloc ?_ _) | (with_reducible refine Kd.C_drewN ?_ _) | (with_reducible refine Kd.C_drew ?_))); rintro e w' ⟨rfl, ⟨nd, rfl⟩⟩; refine ⟨_, rfl, ?_⟩) | ((with_reducible refine gate_callee (f := 9) rfl ?_); refine goesL_ (some 104) rfl rfl Tryd.func9 (by kernel_rfl) rfl #[.string (t129.extract 0 ((ji38) : Int).toNat)] rfl (by (try simp only [List.map_toArray, List.map_cons, List.map_nil]); first | done | (simp only [hji38]; rfl) | rfl | (simp only [List.length_drop, List.length_take]; rfl)) ?_; (with_reducible refine (varint_Get.calls kj28 (t129.extract 0 ((ji38) : Int).toNat) t133 t134 t135 _ ?side1 A41.out).mono ?_); (case side1 => repeat (first | exact (Kd.C_below HRG0.out (by repeat (first | (with_reducible first | exact HB.out | apply below_alloc | apply pw_below_drewN | apply below_drew1) | exact HB.out))) | (with_reducible refine Kd.C_alloc ?_ _) | (with_reducible refine Kd.C_drewN ?_ _) | (with_reducible refine Kd.C_drew ?_))); rintro e w' ⟨rfl, ⟨nd, rfl⟩⟩; refine ⟨_, rfl, ?_⟩))
                                              go_ret
                                              exact ⟨by first | rfl | (simp [errW_none, errW_some] <;> rfl) | (simp only [← hji23, ← hji38]; first | rfl | (simp [errW_none, errW_some] <;> rfl)) | (simp [*, errW_none, errW_some] <;> rfl), by repeat (first | (with_reducible first | exact HB.out | apply below_alloc | apply pw_below_drewN | apply below_drew1) | exact HB.out)⟩
                                            · rw [if_neg c44] at H
                                              have c44b0 : (t131 == (t129.size : Int)) = false := beq_eq_false_iff_ne.mpr c44
                                              have c44b1 : (t131 != (t129.size : Int)) = true := bne_iff_ne.mpr c44
                                              obtain rfl := Option.some.inj H
                                              go_wp2_with (first | ((with_reducible refine gate_callee (f := 9) rfl ?_); refine goesL_ (some 90) rfl rfl Tryd.func9 (by kernel_rfl) rfl #[.string (t129 ++ a2)] rfl (by (try simp only [List.map_toArray, List.map_cons, List.map_nil]); first | done | rfl | (simp only [List.length_drop, List.length_take]; rfl)) ?_; (with_reducible refine (varint_Get.calls kj28 (t129 ++ a2) t130 t131 t132 _ ?side1 A35.out).mono ?_); (case side1 => repeat (first | exact (Kd.C_below HRG0.out HB.out) | (with_reducible refine Kd.C_alloc ?_ _) | (with_reducible refine Kd.C_drewN ?_ _) | (with_reducible refine Kd.C_drew ?_))); rintro e w' ⟨rfl, ⟨nd, rfl⟩⟩; refine ⟨_, rfl, ?_⟩) | ((with_reducible refine gate_callee (f := 9) rfl ?_); refine goesL_ (some 104) rfl rfl Tryd.func9 (by kernel_rfl) rfl #[.string (t129.extract 0 ((ji38) : Int).toNat)] rfl (by (try simp only [List.map_toArray, List.map_cons, List.map_nil]); first | done | (simp only [hji38]; rfl) | rfl | (simp only [List.length_drop, List.length_take]; rfl)) ?_; (with_reducible refine (varint_Get.calls kj28 (t129.extract 0 ((ji38) : Int).toNat) t133 t134 t135 _ ?side1 A41.out).mono ?_); (case side1 => repeat (first | exact (Kd.C_below HRG0.out (by repeat (first | (with_reducible first | exact HB.out | apply below_alloc | apply pw_below_drewN | apply below_drew1) | exact HB.out))) | (with_reducible refine Kd.C_alloc ?_ _) | (with_reducible refine Kd.C_drewN ?_ _) | (with_reducible refine Kd.C_drew ?_))); rintro e w' ⟨rfl, ⟨nd, rfl⟩⟩; refine ⟨_, rfl, ?_⟩))
                                              go_ret
                                              exact ⟨by first | rfl | (simp [errW_none, errW_some] <;> rfl) | (simp only [← hji23, ← hji38]; first | rfl | (simp [errW_none, errW_some] <;> rfl)) | (simp [*, errW_none, errW_some] <;> rfl), by repeat (first | (with_reducible first | exact HB.out | apply below_alloc | apply pw_below_drewN | apply below_drew1) | exact HB.out)⟩
                                          · rw [if_neg c43] at H
                                            have c43b0 : (t130 == a0) = false := beq_eq_false_iff_ne.mpr c43
                                            have c43b1 : (t130 != a0) = true := bne_iff_ne.mpr c43
                                            obtain rfl := Option.some.inj H
                                            go_wp2_with (first | ((with_reducible refine gate_callee (f := 9) rfl ?_); refine goesL_ (some 90) rfl rfl Tryd.func9 (by kernel_rfl) rfl #[.string (t129 ++ a2)] rfl (by (try simp only [List.map_toArray, List.map_cons, List.map_nil]); first | done | rfl | (simp only [List.length_drop, List.length_take]; rfl)) ?_; (with_reducible refine (varint_Get.calls kj28 (t129 ++ a2) t130 t131 t132 _ ?side1 A35.out).mono ?_); (case side1 => repeat (first | exact (Kd.C_below HRG0.out HB.out) | (with_reducible refine Kd.C_alloc ?_ _) | (with_reducible refine Kd.C_drewN ?_ _) | (with_reducible refine Kd.C_drew ?_))); rintro e w' ⟨rfl, ⟨nd, rfl⟩⟩; refine ⟨_, rfl, ?_⟩) | ((with_reducible refine gate_callee (f := 9) rfl ?_); refine goesL_ (some 104) rfl rfl Tryd.func9 (by kernel_rfl) rfl #[.string (t129.extract 0 ((ji38) : Int).toNat)] rfl (by (try simp only [List.map_toArray, List.map_cons, List.map_nil]); first | done | (simp only [hji38]; rfl) | rfl | (simp only [List.length_drop, List.length_take]; rfl)) ?_; (with_reducible refine (varint_Get.calls kj28 (t129.extract 0 ((ji38) : Int).toNat) t133 t134 t135 _ ?side1 A41.out).mono ?_); (case side1 => repeat (first | exact (Kd.C_below HRG0.out (by repeat (first | (with_reducible first | exact HB.out | apply below_alloc | apply pw_below_drewN | apply below_drew1) | exact HB.out))) | (with_reducible refine Kd.C_alloc ?_ _) | (with_reducible refine Kd.C_drewN ?_ _) | (with_reducible refine Kd.C_drew ?_))); rintro e w' ⟨rfl, ⟨nd, rfl⟩⟩; refine ⟨_, rfl, ?_⟩))
                                            go_ret
                                            exact ⟨by first | rfl | (simp [errW_none, errW_some] <;> rfl) | (simp only [← hji23, ← hji38]; first | rfl | (simp [errW_none, errW_some] <;> rfl)) | (simp [*, errW_none, errW_some] <;> rfl), by repeat (first | (with_reducible first | exact HB.out | apply below_alloc | apply pw_below_drewN | apply below_drew1) | exact HB.out)⟩
                                        · rw [if_neg c42] at H
                                          have c42b0 : (t132 == 0) = false := beq_eq_false_iff_ne.mpr c42
                                          have c42b1 : (t132 != 0) = true := bne_iff_ne.mpr c42
                                          obtain rfl := Option.some.inj H
                                          go_wp2_with (first | ((with_reducible refine gate_callee (f := 9) rfl ?_); refine goesL_ (some 90) rfl rfl Tryd.func9 (by kernel_rfl) rfl #[.string (t129 ++ a2)] rfl (by (try simp only [List.map_toArray, List.map_cons, List.map_nil]); first | done | rfl | (simp only [List.length_drop, List.length_take]; rfl)) ?_; (with_reducible refine (varint_Get.calls kj28 (t129 ++ a2) t130 t131 t132 _ ?side1 A35.out).mono ?_); (case side1 => repeat (first | exact (Kd.C_below HRG0.out HB.out) | (with_reducible refine Kd.C_alloc ?_ _) | (with_reducible refine Kd.C_drewN ?_ _) | (with_reducible refine Kd.C_drew ?_))); rintro e w' ⟨rfl, ⟨nd, rfl⟩⟩; refine ⟨_, rfl, ?_⟩) | ((with_reducible refine gate_callee (f := 9) rfl ?_); refine goesL_ (some 104) rfl rfl Tryd.func9 (by kernel_rfl) rfl #[.string (t129.extract 0 ((ji38) : Int).toNat)] rfl (by (try simp only [List.map_toArray, List.map_cons, List.map_nil]); first | done | (simp only [hji38]; rfl) | rfl | (simp only [List.length_drop, List.length_take]; rfl)) ?_; (with_reducible refine (varint_Get.calls kj28 (t129.extract 0 ((ji38) : Int).toNat) t133 t134 t135 _ ?side1 A41.out).mono ?_); (case side1 => repeat (first | exact (Kd.C_below HRG0.out (by repeat (first | (with_reducible first | exact HB.out | apply below_alloc | apply pw_below_drewN | apply below_drew1) | exact HB.out))) | (with_reducible refine Kd.C_alloc ?_ _) | (with_reducible refine Kd.C_drewN ?_ _) | (with_reducible refine Kd.C_drew ?_))); rintro e w' ⟨rfl, ⟨nd, rfl⟩⟩; refine ⟨_, rfl, ?_⟩))
                                          go_ret
                                          exact ⟨by first | rfl | (simp [errW_none, errW_some] <;> rfl) | (simp only [← hji23, ← hji38]; first | rfl | (simp [errW_none, errW_some] <;> rfl)) | (simp [*, errW_none, errW_some] <;> rfl), by repeat (first | (with_reducible first | exact HB.out | apply below_alloc | apply pw_below_drewN | apply below_drew1) | exact HB.out)⟩
                                      · rw [if_neg c40] at H
                                        exact absurd H (by simp)
                                    · rw [if_neg c39] at H
                                      exact absurd H (by simp)
                                · rw [if_neg c36] at H
                                  exact absurd H (by simp)
                              · rw [if_neg c34] at H
                                exact absurd H (by simp)
                    · rw [if_neg c27] at H
                      have c27b0 : (t128 == 1) = false := beq_eq_false_iff_ne.mpr c27
                      have c27b1 : (t128 != 1) = true := bne_iff_ne.mpr c27
                      obtain rfl := Option.some.inj H
                      go_wp2_with (first | ((with_reducible refine gate_callee (f := 11) rfl ?_); refine goesL_ (some 68) rfl rfl Tryd.func11 (by kernel_rfl) rfl #[.string (t121.extract 0 ((ji23) : Int).toNat)] rfl (by (try simp only [List.map_toArray, List.map_cons, List.map_nil]); first | done | (simp only [hji23]; rfl) | rfl | (simp only [List.length_drop, List.length_take]; rfl)) ?_; (with_reducible refine (varint_Take.calls kj9 (t121.extract 0 ((ji23) : Int).toNat) t126 t127 t128 _ ?side1 A26.out).mono ?_); (case side1 => repeat (first | exact (Kd.C_below HRG0.out HB.out) | (with_reducible refine Kd.C_alloc ?_ _) | (with_reducible refine Kd.C_drewN ?_ _) | (with_reducible refine Kd.C_drew ?_))); rintro e w' ⟨rfl, ⟨nd, rfl⟩⟩; refine ⟨_, rfl, ?_⟩))
                      go_ret
                      exact ⟨by first | rfl | (simp [errW_none, errW_some] <;> rfl) | (simp only [← hji23]; first | rfl | (simp [errW_none, errW_some] <;> rfl)) | (simp [*, errW_none, errW_some] <;> rfl), by repeat (first | (with_reducible first | exact HB.out | apply below_alloc | apply pw_below_drewN | apply below_drew1) | exact HB.out)⟩
                  · rw [if_neg c25] at H
                    exact absurd H (by simp)
                · rw [if_neg c24] at H
                  exact absurd H (by simp)
            · rw [if_neg c21] at H
              exact absurd H (by simp)
    · rw [if_neg c8] at H
      exact absurd H (by simp)
  · replace c6 := Bool.eq_false_iff.mpr c6
    subst c6
    have H1 : (some false) = some r := by rw [if_neg (show ¬ (false = true) by decide)] at H; exact H
    clear H
    have H := H1
    clear H1
    obtain rfl := Option.some.inj H
    go_enter Tryd.func7, Tryd.ntmps7
    go_wp2_with (first | ((with_reducible refine gate_callee (f := 17) rfl ?_); refine goesL_ (some 20) rfl rfl Tryd.func17 (by kernel_rfl) rfl #[] rfl (by (try simp only [List.map_toArray, List.map_cons, List.map_nil]); first | done | rfl | (simp only [List.length_drop, List.length_take]; rfl)) ?_; (with_reducible refine (vizardlaw01_works.calls k  false _ ?side1 A5.out).mono ?_); (case side1 => repeat (first | exact HRG0.out | (with_reducible refine Kd.C_alloc ?_ _) | (with_reducible refine Kd.C_drewN ?_ _) | (with_reducible refine Kd.C_drew ?_))); rintro e w45 ⟨rfl, hb⟩; refine ⟨_, rfl, ?_⟩; have n0_ := Aside0.mk (below_step (by repeat (first | (with_reducible first | exact HB.out | apply below_alloc | apply pw_below_drewN | apply below_drew1) | exact HB.out)) hb); clear HB; have HB := n0_; clear n0_; (try clear hb); (try clear hb2); (try clear hk); (try clear hi)))
    go_ret
    exact ⟨by first | rfl | (simp [errW_none, errW_some] <;> rfl) | (simp [*, errW_none, errW_some] <;> rfl), by repeat (first | (with_reducible first | exact HB.out | apply below_alloc | apply pw_below_drewN | apply below_drew1) | exact HB.out)⟩

end Go.Proofs.YtbbjeifbcijkcaaDoor.PVarintBack
