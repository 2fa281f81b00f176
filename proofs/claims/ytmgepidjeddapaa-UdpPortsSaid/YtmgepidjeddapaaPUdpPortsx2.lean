/- Written by a program of this session (xprint.py, over the kit's print): Go functions told as Lean functions, each with the proof that a call answers just so. -/
import Derived.Test.YtmgepidjeddapaaPUdpPortsx0
import Derived.Test.YtmgepidjeddapaaPUdpPortsx1
namespace Go.Proofs.Ytmgepidjeddapaa.PUdpPorts
open Go.Proofs.Ytmgepidjeddapaa.Hand
open Go.RowKit Go.Proofs.YtmgepidjeddapaaW.PrintWords Go.Proofs.YtmgepidjeddapaaW.PrintLast Go.Proofs.YtmgepidjeddapaaW.PrintMore
attribute [local go_sem] max2_int min2_int max_two min_two max_three min_three max_four min_four   -- for this text's walks alone
set_option linter.unusedVariables false
set_option linter.unusedSimpArgs false

/-! ### udp_Ports: function 12 -/
def udp_Ports.j0 : Nat → Bool → Int → Int → Int → Int → Int → Int → Int → ByteArray → Option (Int × Int × Bool)
  | 0, _, _, _, _, _, _, _, _, _ => none
  | k + 1, x24, x120000, x120001, x120002, x120003, x120004, x120005, x120006, x120007 => if x24 = true then (some (0, 0, false)) else ((udp_word.f x120007).bind fun t120 => (if 2 ≤ (x120007.size : Int) then ((udp_word.f (x120007.extract 2 x120007.size)).bind fun t121 => (some (t120, t121, true))) else (none)))
def udp_Ports.f (k : Nat) (a0_0 : Int) (a0_1 : Int) (a0_2 : Int) (a0_3 : Int) (a0_4 : Int) (a0_5 : Int) (a0_6 : Int) (a0_7 : ByteArray) : Option (Int × Int × Bool) := if a0_4 = 17 then (if (Go.bits .and .i64 a0_2 8191) = 0 then (udp_Ports.j0 k (decide ((a0_7.size : Int) < 4)) a0_0 a0_1 a0_2 a0_3 a0_4 a0_5 a0_6 a0_7) else (udp_Ports.j0 k true a0_0 a0_1 a0_2 a0_3 a0_4 a0_5 a0_6 a0_7)) else (if a0_4 = 6 then (if (Go.bits .and .i64 a0_2 8191) = 0 then (udp_Ports.j0 k (decide ((a0_7.size : Int) < 4)) a0_0 a0_1 a0_2 a0_3 a0_4 a0_5 a0_6 a0_7) else (udp_Ports.j0 k true a0_0 a0_1 a0_2 a0_3 a0_4 a0_5 a0_6 a0_7)) else (udp_Ports.j0 k true a0_0 a0_1 a0_2 a0_3 a0_4 a0_5 a0_6 a0_7))
theorem udp_Ports.mono_l : ∀ k, (∀ y0 y1 y2 y3 y4 y5 y6 y7 y8, LeO (udp_Ports.j0 k y0 y1 y2 y3 y4 y5 y6 y7 y8) (udp_Ports.j0 (k + 1) y0 y1 y2 y3 y4 y5 y6 y7 y8))
  | 0 => fun _ _ _ _ _ _ _ _ _ r h => by simp [udp_Ports.j0] at h
  | k + 1 => by
    have ih0 := udp_Ports.mono_l k
    · intro y0 y1 y2 y3 y4 y5 y6 y7 y8
      unfold udp_Ports.j0
      repeat' first
      | (with_reducible exact ih0 _ _ _ _ _ _ _ _ _)
      | (with_reducible exact LeO.refl _)
      | (with_reducible exact LeO.none _)
      | (with_reducible refine LeO.ite ?_ ?_)
      | (with_reducible refine LeO.bind ?_ (fun _ => ?_))
      | exact ih0 _ _ _ _ _ _ _ _ _
      | exact LeO.none _
      | refine LeO.ite ?_ ?_
      | refine LeO.bind ?_ (fun _ => ?_)
theorem udp_Ports.mono : ∀ a0 a1 a2 a3 a4 a5 a6 a7 k, LeO (udp_Ports.f k a0 a1 a2 a3 a4 a5 a6 a7) (udp_Ports.f (k + 1) a0 a1 a2 a3 a4 a5 a6 a7) := by
  intro a0 a1 a2 a3 a4 a5 a6 a7 k
  have ih0 := udp_Ports.mono_l k
  unfold udp_Ports.f
  repeat' first
      | (with_reducible exact ih0 _ _ _ _ _ _ _ _ _)
      | (with_reducible exact LeO.refl _)
      | (with_reducible exact LeO.none _)
      | (with_reducible refine LeO.ite ?_ ?_)
      | (with_reducible refine LeO.bind ?_ (fun _ => ?_))
      | exact ih0 _ _ _ _ _ _ _ _ _
      | exact LeO.none _
      | refine LeO.ite ?_ ?_
      | refine LeO.bind ?_ (fun _ => ?_)
set_option maxHeartbeats 8000000 in
set_option maxRecDepth 100000 in
theorem udp_Ports.calls (k : Nat) (a0_0 : Int) (a0_1 : Int) (a0_2 : Int) (a0_3 : Int) (a0_4 : Int) (a0_5 : Int) (a0_6 : Int) (a0_7 : ByteArray) (r1 : Int) (r2 : Int) (r3 : Bool) (w : World) (h : udp_Ports.f k a0_0 a0_1 a0_2 a0_3 a0_4 a0_5 a0_6 a0_7 = some (r1, r2, r3)) :
    Calls Try.prog 12 #[.agg #[.int .i64 a0_0, .int .i64 a0_1, .int .i64 a0_2, .int .i64 a0_3, .int .i64 a0_4, .int .u32 a0_5, .int .u32 a0_6, .string a0_7]] w fun e w' => e = .returned (.tuple #[.int .i64 r1, .int .i64 r2, .bool r3]) ∧ Below w.heap.size w w' := by
  have hu36 := Try.underlying36
  have HB := Aside0.mk (Below.refl w.heap.size w)
  have H : (if a0_4 = 17 then (if (Go.bits .and .i64 a0_2 8191) = 0 then (udp_Ports.j0 k (decide ((a0_7.size : Int) < 4)) a0_0 a0_1 a0_2 a0_3 a0_4 a0_5 a0_6 a0_7) else (udp_Ports.j0 k true a0_0 a0_1 a0_2 a0_3 a0_4 a0_5 a0_6 a0_7)) else (if a0_4 = 6 then (if (Go.bits .and .i64 a0_2 8191) = 0 then (udp_Ports.j0 k (decide ((a0_7.size : Int) < 4)) a0_0 a0_1 a0_2 a0_3 a0_4 a0_5 a0_6 a0_7) else (udp_Ports.j0 k true a0_0 a0_1 a0_2 a0_3 a0_4 a0_5 a0_6 a0_7)) else (udp_Ports.j0 k true a0_0 a0_1 a0_2 a0_3 a0_4 a0_5 a0_6 a0_7))) = some (r1, r2, r3) := h
  clear h
  have HC2 := Aside0.mk H
  clear H
  go_enter Try.func12, Try.ntmps12
  go_upto_region 1 with (first | ((with_reducible refine gate_dst (N := 1) rfl ?_); (try (refine gate_guard (by rfl) ?_; dsimp only)); refine box_event ?hg (N := 1) ?hd (cs := #[.int .i64 a0_0, .int .i64 a0_1, .int .i64 a0_2, .int .i64 a0_3, .int .i64 a0_4, .int .u32 a0_5, .int .u32 a0_6, .string a0_7]) (t := 36) ?hr ?_; (case hd => rfl); (case hg => rfl); (case hr => first | (go_simp; done) | (go_simp; rfl)); intro gb119 hg w3 hbox hb; have n0_ := Aside0.mk (below_step (by repeat (first | (with_reducible first | exact HB.out | apply below_alloc | apply pw_below_drewN | apply below_drew1) | exact HB.out)) hb); have n1_ := Aside0.mk (hbox); have n2_ := Aside0.mk ((by rw [hg]; exact (below_size (by repeat (first | (with_reducible first | exact HB.out | apply below_alloc | apply pw_below_drewN | apply below_drew1) | exact HB.out))) : w.heap.size ≤ gb119)); have n3_ := Aside0.mk ((by rw [hg]; exact (below_size (by repeat (first | (with_reducible first | exact HB.out | apply below_alloc | apply pw_below_drewN | apply below_drew1) | exact HB.out))) : w.heap.size ≤ gb119)); clear HB; have HB := n0_; have BK119 := n1_; have GW119 := n2_; have GE119 := n3_; clear n0_ n1_ n2_ n3_; clear hb hbox hg))
  repeat (go_quiet (first | ((with_reducible refine gate_dst (N := 1) rfl ?_); (try (refine gate_guard (by rfl) ?_; dsimp only)); refine box_event ?hg (N := 1) ?hd (cs := #[.int .i64 a0_0, .int .i64 a0_1, .int .i64 a0_2, .int .i64 a0_3, .int .i64 a0_4, .int .u32 a0_5, .int .u32 a0_6, .string a0_7]) (t := 36) ?hr ?_; (case hd => rfl); (case hg => rfl); (case hr => first | (go_simp; done) | (go_simp; rfl)); intro gb119 hg w3 hbox hb; have n0_ := Aside0.mk (below_step (by repeat (first | (with_reducible first | exact HB.out | apply below_alloc | apply pw_below_drewN | apply below_drew1) | exact HB.out)) hb); have n1_ := Aside0.mk (hbox); have n2_ := Aside0.mk ((by rw [hg]; exact (below_size (by repeat (first | (with_reducible first | exact HB.out | apply below_alloc | apply pw_below_drewN | apply below_drew1) | exact HB.out))) : w.heap.size ≤ gb119)); have n3_ := Aside0.mk ((by rw [hg]; exact (below_size (by repeat (first | (with_reducible first | exact HB.out | apply below_alloc | apply pw_below_drewN | apply below_drew1) | exact HB.out))) : w.heap.size ≤ gb119)); clear HB; have HB := n0_; have BK119 := n1_; have GW119 := n2_; have GE119 := n3_; clear n0_ n1_ n2_ n3_; clear hb hbox hg)); go_upto_region 1 with (first | ((with_reducible refine gate_dst (N := 1) rfl ?_); (try (refine gate_guard (by rfl) ?_; dsimp only)); refine box_event ?hg (N := 1) ?hd (cs := #[.int .i64 a0_0, .int .i64 a0_1, .int .i64 a0_2, .int .i64 a0_3, .int .i64 a0_4, .int .u32 a0_5, .int .u32 a0_6, .string a0_7]) (t := 36) ?hr ?_; (case hd => rfl); (case hg => rfl); (case hr => first | (go_simp; done) | (go_simp; rfl)); intro gb119 hg w3 hbox hb; have n0_ := Aside0.mk (below_step (by repeat (first | (with_reducible first | exact HB.out | apply below_alloc | apply pw_below_drewN | apply below_drew1) | exact HB.out)) hb); have n1_ := Aside0.mk (hbox); have n2_ := Aside0.mk ((by rw [hg]; exact (below_size (by repeat (first | (with_reducible first | exact HB.out | apply below_alloc | apply pw_below_drewN | apply below_drew1) | exact HB.out))) : w.heap.size ≤ gb119)); have n3_ := Aside0.mk ((by rw [hg]; exact (below_size (by repeat (first | (with_reducible first | exact HB.out | apply below_alloc | apply pw_below_drewN | apply below_drew1) | exact HB.out))) : w.heap.size ≤ gb119)); clear HB; have HB := n0_; have BK119 := n1_; have GW119 := n2_; have GE119 := n3_; clear n0_ n1_ n2_ n3_; clear hb hbox hg)))
  (try simp only [Act.put, List.setIfInBounds_toArray, List.set_cons_zero, List.set_cons_succ])
  go_cut [24] (fun v24 wc => ∃ (kq : Nat) (x24_1 : Bool), v24 = .bool x24_1 ∧ Aside0 (udp_Ports.j0 kq x24_1 a0_0 a0_1 a0_2 a0_3 a0_4 a0_5 a0_6 a0_7 = some (r1, r2, r3)) ∧ Aside0 (kq ≤ k) ∧ Aside0 (wc.heap[gb119]? = some (.cells #[.int .i64 a0_0, .int .i64 a0_1, .int .i64 a0_2, .int .i64 a0_3, .int .i64 a0_4, .int .u32 a0_5, .int .u32 a0_6, .string a0_7] 36 (0, 0))) ∧ Aside0 (Below w.heap.size w wc))
  case first =>
    have H := HC2.out
    clear HC2
    by_cases c4 : a0_4 = 17
    · rw [if_pos c4] at H
      have c4b0 : (a0_4 == 17) = true := beq_iff_eq.mpr c4
      have c4b1 : (a0_4 != 17) = false := bne_eq_false_iff_eq.mpr c4
      clear c4
      (first | rw [c4b0] | (simp only [i64_w, i32_w]; rw [c4b0]) | skip)
      by_cases c5 : (Go.bits .and .i64 a0_2 8191) = 0
      · rw [if_pos c5] at H
        have c5b0 : ((Go.bits .and .i64 a0_2 8191) == 0) = true := beq_iff_eq.mpr c5
        have c5b1 : ((Go.bits .and .i64 a0_2 8191) != 0) = false := bne_eq_false_iff_eq.mpr c5
        clear c5
        have H' := Aside0.mk H
        clear H
        have hcz6_0 : w3.cell? ⟨gb119, 0, none⟩ = some (.int .i64 a0_0) := (blk_cell BK119.out 0).trans rfl
        have hcz6_1 : w3.cell? ⟨gb119, 1, none⟩ = some (.int .i64 a0_1) := (blk_cell BK119.out 1).trans rfl
        have hcz6_2 : w3.cell? ⟨gb119, 2, none⟩ = some (.int .i64 a0_2) := (blk_cell BK119.out 2).trans rfl
        have hcz6_3 : w3.cell? ⟨gb119, 3, none⟩ = some (.int .i64 a0_3) := (blk_cell BK119.out 3).trans rfl
        have hcz6_4 : w3.cell? ⟨gb119, 4, none⟩ = some (.int .i64 a0_4) := (blk_cell BK119.out 4).trans rfl
        have hcz6_5 : w3.cell? ⟨gb119, 5, none⟩ = some (.int .u32 a0_5) := (blk_cell BK119.out 5).trans rfl
        have hcz6_6 : w3.cell? ⟨gb119, 6, none⟩ = some (.int .u32 a0_6) := (blk_cell BK119.out 6).trans rfl
        have hcz6_7 : w3.cell? ⟨gb119, 7, none⟩ = some (.string a0_7) := (blk_cell BK119.out 7).trans rfl
        have hfz6_0 := blk_frozen BK119.out 0
        have hfz6_1 := blk_frozen BK119.out 1
        have hfz6_2 := blk_frozen BK119.out 2
        have hfz6_3 := blk_frozen BK119.out 3
        have hfz6_4 := blk_frozen BK119.out 4
        have hfz6_5 := blk_frozen BK119.out 5
        have hfz6_6 := blk_frozen BK119.out 6
        have hfz6_7 := blk_frozen BK119.out 7
        go_wp2
        repeat (go_quiet (fail); try go_wp2)
        go_meet
        case rel => exact ⟨_, (decide ((a0_7.size : Int) < 4)), (by first | rfl | (simp; done) | (simp [*]; done)), H', ⟨by first | omega | exact Nat.le_refl _⟩, ⟨by (with_reducible repeat (first | refine blk_drewN ?_ _ | refine blk_drew ?_ | refine blk_alloc ?_ _)); exact BK119.out⟩, ⟨by repeat (first | (with_reducible first | exact HB.out | apply below_alloc | apply pw_below_drewN | apply below_drew1 | refine below_set ?_ GE119.out) | exact HB.out)⟩⟩
      · rw [if_neg c5] at H
        have c5b0 : ((Go.bits .and .i64 a0_2 8191) == 0) = false := beq_eq_false_iff_ne.mpr c5
        have c5b1 : ((Go.bits .and .i64 a0_2 8191) != 0) = true := bne_iff_ne.mpr c5
        have H' := Aside0.mk H
        clear H
        have hcz7_0 : w3.cell? ⟨gb119, 0, none⟩ = some (.int .i64 a0_0) := (blk_cell BK119.out 0).trans rfl
        have hcz7_1 : w3.cell? ⟨gb119, 1, none⟩ = some (.int .i64 a0_1) := (blk_cell BK119.out 1).trans rfl
        have hcz7_2 : w3.cell? ⟨gb119, 2, none⟩ = some (.int .i64 a0_2) := (blk_cell BK119.out 2).trans rfl
        have hcz7_3 : w3.cell? ⟨gb119, 3, none⟩ = some (.int .i64 a0_3) := (blk_cell BK119.out 3).trans rfl
        have hcz7_4 : w3.cell? ⟨gb119, 4, none⟩ = some (.int .i64 a0_4) := (blk_cell BK119.out 4).trans rfl
        have hcz7_5 : w3.cell? ⟨gb119, 5, none⟩ = some (.int .u32 a0_5) := (blk_cell BK119.out 5).trans rfl
        have hcz7_6 : w3.cell? ⟨gb119, 6, none⟩ = some (.int .u32 a0_6) := (blk_cell BK119.out 6).trans rfl
        have hcz7_7 : w3.cell? ⟨gb119, 7, none⟩ = some (.string a0_7) := (blk_cell BK119.out 7).trans rfl
        have hfz7_0 := blk_frozen BK119.out 0
        have hfz7_1 := blk_frozen BK119.out 1
        have hfz7_2 := blk_frozen BK119.out 2
        have hfz7_3 := blk_frozen BK119.out 3
        have hfz7_4 := blk_frozen BK119.out 4
        have hfz7_5 := blk_frozen BK119.out 5
        have hfz7_6 := blk_frozen BK119.out 6
        have hfz7_7 := blk_frozen BK119.out 7
        go_wp2
        repeat (go_quiet (fail); try go_wp2)
        go_meet
        case rel => exact ⟨_, (true), (by first | rfl | (simp; done) | (simp [*]; done)), H', ⟨by first | omega | exact Nat.le_refl _⟩, ⟨by (with_reducible repeat (first | refine blk_drewN ?_ _ | refine blk_drew ?_ | refine blk_alloc ?_ _)); exact BK119.out⟩, ⟨by repeat (first | (with_reducible first | exact HB.out | apply below_alloc | apply pw_below_drewN | apply below_drew1 | refine below_set ?_ GE119.out) | exact HB.out)⟩⟩
    · rw [if_neg c4] at H
      have c4b0 : (a0_4 == 17) = false := beq_eq_false_iff_ne.mpr c4
      have c4b1 : (a0_4 != 17) = true := bne_iff_ne.mpr c4
      (first | rw [c4b0] | (simp only [i64_w, i32_w]; rw [c4b0]) | skip)
      by_cases c8 : a0_4 = 6
      · rw [if_pos c8] at H
        have c8b0 : (a0_4 == 6) = true := beq_iff_eq.mpr c8
        have c8b1 : (a0_4 != 6) = false := bne_eq_false_iff_eq.mpr c8
        clear c8
        by_cases c9 : (Go.bits .and .i64 a0_2 8191) = 0
        · rw [if_pos c9] at H
          have c9b0 : ((Go.bits .and .i64 a0_2 8191) == 0) = true := beq_iff_eq.mpr c9
          have c9b1 : ((Go.bits .and .i64 a0_2 8191) != 0) = false := bne_eq_false_iff_eq.mpr c9
          clear c9
          have H' := Aside0.mk H
          clear H
          have hcz10_0 : w3.cell? ⟨gb119, 0, none⟩ = some (.int .i64 a0_0) := (blk_cell BK119.out 0).trans rfl
          have hcz10_1 : w3.cell? ⟨gb119, 1, none⟩ = some (.int .i64 a0_1) := (blk_cell BK119.out 1).trans rfl
          have hcz10_2 : w3.cell? ⟨gb119, 2, none⟩ = some (.int .i64 a0_2) := (blk_cell BK119.out 2).trans rfl
          have hcz10_3 : w3.cell? ⟨gb119, 3, none⟩ = some (.int .i64 a0_3) := (blk_cell BK119.out 3).trans rfl
          have hcz10_4 : w3.cell? ⟨gb119, 4, none⟩ = some (.int .i64 a0_4) := (blk_cell BK119.out 4).trans rfl
          have hcz10_5 : w3.cell? ⟨gb119, 5, none⟩ = some (.int .u32 a0_5) := (blk_cell BK119.out 5).trans rfl
          have hcz10_6 : w3.cell? ⟨gb119, 6, none⟩ = some (.int .u32 a0_6) := (blk_cell BK119.out 6).trans rfl
          have hcz10_7 : w3.cell? ⟨gb119, 7, none⟩ = some (.string a0_7) := (blk_cell BK119.out 7).trans rfl
          have hfz10_0 := blk_frozen BK119.out 0
          have hfz10_1 := blk_frozen BK119.out 1
          have hfz10_2 := blk_frozen BK119.out 2
          have hfz10_3 := blk_frozen BK119.out 3
          have hfz10_4 := blk_frozen BK119.out 4
          have hfz10_5 := blk_frozen BK119.out 5
          have hfz10_6 := blk_frozen BK119.out 6
          have hfz10_7 := blk_frozen BK119.out 7
          go_wp2
          repeat (go_quiet (fail); try go_wp2)
          go_meet
          case rel => exact ⟨_, (decide ((a0_7.size : Int) < 4)), (by first | rfl | (simp; done) | (simp [*]; done)), H', ⟨by first | omega | exact Nat.le_refl _⟩, ⟨by (with_reducible repeat (first | refine blk_drewN ?_ _ | refine blk_drew ?_ | refine blk_alloc ?_ _)); exact BK119.out⟩, ⟨by repeat (first | (with_reducible first | exact HB.out | apply below_alloc | apply pw_below_drewN | apply below_drew1 | refine below_set ?_ GE119.out) | exact HB.out)⟩⟩
        · rw [if_neg c9] at H
          have c9b0 : ((Go.bits .and .i64 a0_2 8191) == 0) = false := beq_eq_false_iff_ne.mpr c9
          have c9b1 : ((Go.bits .and .i64 a0_2 8191) != 0) = true := bne_iff_ne.mpr c9
          have H' := Aside0.mk H
          clear H
          have hcz11_0 : w3.cell? ⟨gb119, 0, none⟩ = some (.int .i64 a0_0) := (blk_cell BK119.out 0).trans rfl
          have hcz11_1 : w3.cell? ⟨gb119, 1, none⟩ = some (.int .i64 a0_1) := (blk_cell BK119.out 1).trans rfl
          have hcz11_2 : w3.cell? ⟨gb119, 2, none⟩ = some (.int .i64 a0_2) := (blk_cell BK119.out 2).trans rfl
          have hcz11_3 : w3.cell? ⟨gb119, 3, none⟩ = some (.int .i64 a0_3) := (blk_cell BK119.out 3).trans rfl
          have hcz11_4 : w3.cell? ⟨gb119, 4, none⟩ = some (.int .i64 a0_4) := (blk_cell BK119.out 4).trans rfl
          have hcz11_5 : w3.cell? ⟨gb119, 5, none⟩ = some (.int .u32 a0_5) := (blk_cell BK119.out 5).trans rfl
          have hcz11_6 : w3.cell? ⟨gb119, 6, none⟩ = some (.int .u32 a0_6) := (blk_cell BK119.out 6).trans rfl
          have hcz11_7 : w3.cell? ⟨gb119, 7, none⟩ = some (.string a0_7) := (blk_cell BK119.out 7).trans rfl
          have hfz11_0 := blk_frozen BK119.out 0
          have hfz11_1 := blk_frozen BK119.out 1
          have hfz11_2 := blk_frozen BK119.out 2
          have hfz11_3 := blk_frozen BK119.out 3
          have hfz11_4 := blk_frozen BK119.out 4
          have hfz11_5 := blk_frozen BK119.out 5
          have hfz11_6 := blk_frozen BK119.out 6
          have hfz11_7 := blk_frozen BK119.out 7
          go_wp2
          repeat (go_quiet (fail); try go_wp2)
          go_meet
          case rel => exact ⟨_, (true), (by first | rfl | (simp; done) | (simp [*]; done)), H', ⟨by first | omega | exact Nat.le_refl _⟩, ⟨by (with_reducible repeat (first | refine blk_drewN ?_ _ | refine blk_drew ?_ | refine blk_alloc ?_ _)); exact BK119.out⟩, ⟨by repeat (first | (with_reducible first | exact HB.out | apply below_alloc | apply pw_below_drewN | apply below_drew1 | refine below_set ?_ GE119.out) | exact HB.out)⟩⟩
      · rw [if_neg c8] at H
        have c8b0 : (a0_4 == 6) = false := beq_eq_false_iff_ne.mpr c8
        have c8b1 : (a0_4 != 6) = true := bne_iff_ne.mpr c8
        have H' := Aside0.mk H
        clear H
        have hcz12_0 : w3.cell? ⟨gb119, 0, none⟩ = some (.int .i64 a0_0) := (blk_cell BK119.out 0).trans rfl
        have hcz12_1 : w3.cell? ⟨gb119, 1, none⟩ = some (.int .i64 a0_1) := (blk_cell BK119.out 1).trans rfl
        have hcz12_2 : w3.cell? ⟨gb119, 2, none⟩ = some (.int .i64 a0_2) := (blk_cell BK119.out 2).trans rfl
        have hcz12_3 : w3.cell? ⟨gb119, 3, none⟩ = some (.int .i64 a0_3) := (blk_cell BK119.out 3).trans rfl
        have hcz12_4 : w3.cell? ⟨gb119, 4, none⟩ = some (.int .i64 a0_4) := (blk_cell BK119.out 4).trans rfl
        have hcz12_5 : w3.cell? ⟨gb119, 5, none⟩ = some (.int .u32 a0_5) := (blk_cell BK119.out 5).trans rfl
        have hcz12_6 : w3.cell? ⟨gb119, 6, none⟩ = some (.int .u32 a0_6) := (blk_cell BK119.out 6).trans rfl
        have hcz12_7 : w3.cell? ⟨gb119, 7, none⟩ = some (.string a0_7) := (blk_cell BK119.out 7).trans rfl
        have hfz12_0 := blk_frozen BK119.out 0
        have hfz12_1 := blk_frozen BK119.out 1
        have hfz12_2 := blk_frozen BK119.out 2
        have hfz12_3 := blk_frozen BK119.out 3
        have hfz12_4 := blk_frozen BK119.out 4
        have hfz12_5 := blk_frozen BK119.out 5
        have hfz12_6 := blk_frozen BK119.out 6
        have hfz12_7 := blk_frozen BK119.out 7
        go_wp2
        repeat (go_quiet (fail); try go_wp2)
        go_meet
        case rel => exact ⟨_, (true), (by first | rfl | (simp; done) | (simp [*]; done)), H', ⟨by first | omega | exact Nat.le_refl _⟩, ⟨by (with_reducible repeat (first | refine blk_drewN ?_ _ | refine blk_drew ?_ | refine blk_alloc ?_ _)); exact BK119.out⟩, ⟨by repeat (first | (with_reducible first | exact HB.out | apply below_alloc | apply pw_below_drewN | apply below_drew1 | refine below_set ?_ GE119.out) | exact HB.out)⟩⟩
  case rest =>
    clear HC2
    try clear c1
    try clear p2
    try clear c4
    try clear c4b0
    try clear c4b1
    try clear c5
    try clear c5b0
    try clear c5b1
    try clear c8
    try clear c8b0
    try clear c8b1
    try clear c9
    try clear c9b0
    try clear c9b1
    try clear c12
    try clear hcz10_0
    try clear hcz10_1
    try clear hcz10_2
    try clear hcz10_3
    try clear hcz10_4
    try clear hcz10_5
    try clear hcz10_6
    try clear hcz10_7
    try clear hcz11_0
    try clear hcz11_1
    try clear hcz11_2
    try clear hcz11_3
    try clear hcz11_4
    try clear hcz11_5
    try clear hcz11_6
    try clear hcz11_7
    try clear hcz12_0
    try clear hcz12_1
    try clear hcz12_2
    try clear hcz12_3
    try clear hcz12_4
    try clear hcz12_5
    try clear hcz12_6
    try clear hcz12_7
    try clear hcz6_0
    try clear hcz6_1
    try clear hcz6_2
    try clear hcz6_3
    try clear hcz6_4
    try clear hcz6_5
    try clear hcz6_6
    try clear hcz6_7
    try clear hcz7_0
    try clear hcz7_1
    try clear hcz7_2
    try clear hcz7_3
    try clear hcz7_4
    try clear hcz7_5
    try clear hcz7_6
    try clear hcz7_7
    try clear hfz10_0
    try clear hfz10_1
    try clear hfz10_2
    try clear hfz10_3
    try clear hfz10_4
    try clear hfz10_5
    try clear hfz10_6
    try clear hfz10_7
    try clear hfz11_0
    try clear hfz11_1
    try clear hfz11_2
    try clear hfz11_3
    try clear hfz11_4
    try clear hfz11_5
    try clear hfz11_6
    try clear hfz11_7
    try clear hfz12_0
    try clear hfz12_1
    try clear hfz12_2
    try clear hfz12_3
    try clear hfz12_4
    try clear hfz12_5
    try clear hfz12_6
    try clear hfz12_7
    try clear hfz6_0
    try clear hfz6_1
    try clear hfz6_2
    try clear hfz6_3
    try clear hfz6_4
    try clear hfz6_5
    try clear hfz6_6
    try clear hfz6_7
    try clear hfz7_0
    try clear hfz7_1
    try clear hfz7_2
    try clear hfz7_3
    try clear hfz7_4
    try clear hfz7_5
    try clear hfz7_6
    try clear hfz7_7
    obtain ⟨kq, x24_1, rfl, HA, HJ1, BK119, HB⟩ := hcut
    cases kq with
    | zero => exact absurd HA.out (by simp [udp_Ports.j0])
    | succ kj1 =>
      have H := HA.out
      clear HA
      simp only [udp_Ports.j0] at H
      by_cases c13 : x24_1 = true
      · subst c13
        have H1 : (some (0, 0, false)) = some (r1, r2, r3) := by rw [if_pos rfl] at H; exact H
        clear H
        have H := H1
        clear H1
        simp only [Option.some.injEq, Prod.mk.injEq] at H
        obtain ⟨rfl, rfl, rfl⟩ := H
        go_wp2
        repeat (go_quiet (fail); try go_wp2)
        go_ret3
        exact ⟨by first | rfl | (simp [errW_none, errW_some] <;> rfl) | (simp [*, errW_none, errW_some] <;> rfl), by repeat (first | (with_reducible first | exact HB.out | apply below_alloc | apply pw_below_drewN | apply below_drew1 | refine below_set ?_ GE119.out) | exact HB.out)⟩
      · replace c13 := Bool.eq_false_iff.mpr c13
        subst c13
        have H1 : ((udp_word.f a0_7).bind fun t120 => (if 2 ≤ (a0_7.size : Int) then ((udp_word.f (a0_7.extract 2 a0_7.size)).bind fun t121 => (some (t120, t121, true))) else (none))) = some (r1, r2, r3) := by rw [if_neg (show ¬ (false = true) by decide)] at H; exact H
        clear H
        have H := H1
        clear H1
        replace H := Option.bind_eq_some_iff.mp H
        obtain ⟨t120, A140, H⟩ := H
        replace H : (if 2 ≤ (a0_7.size : Int) then ((udp_word.f (a0_7.extract 2 a0_7.size)).bind fun t121 => (some (t120, t121, true))) else (none)) = some (r1, r2, r3) := H
        have A14 := Aside0.mk A140
        clear A140
        by_cases c15 : 2 ≤ (a0_7.size : Int)
        · rw [if_pos c15] at H
          have c15b0 := eq_true c15
          have c15b1 : decide (2 ≤ (a0_7.size : Int)) = true := decide_eq_true c15
          clear c15
          replace H := Option.bind_eq_some_iff.mp H
          obtain ⟨t121, A160, H⟩ := H
          replace H : (some (t120, t121, true)) = some (r1, r2, r3) := H
          have A16 := Aside0.mk A160
          clear A160
          simp only [Option.some.injEq, Prod.mk.injEq] at H
          obtain ⟨rfl, rfl, rfl⟩ := H
          have hcz17_0 : wc.cell? ⟨gb119, 0, none⟩ = some (.int .i64 a0_0) := (blk_cell BK119.out 0).trans rfl
          have hcz17_1 : wc.cell? ⟨gb119, 1, none⟩ = some (.int .i64 a0_1) := (blk_cell BK119.out 1).trans rfl
          have hcz17_2 : wc.cell? ⟨gb119, 2, none⟩ = some (.int .i64 a0_2) := (blk_cell BK119.out 2).trans rfl
          have hcz17_3 : wc.cell? ⟨gb119, 3, none⟩ = some (.int .i64 a0_3) := (blk_cell BK119.out 3).trans rfl
          have hcz17_4 : wc.cell? ⟨gb119, 4, none⟩ = some (.int .i64 a0_4) := (blk_cell BK119.out 4).trans rfl
          have hcz17_5 : wc.cell? ⟨gb119, 5, none⟩ = some (.int .u32 a0_5) := (blk_cell BK119.out 5).trans rfl
          have hcz17_6 : wc.cell? ⟨gb119, 6, none⟩ = some (.int .u32 a0_6) := (blk_cell BK119.out 6).trans rfl
          have hcz17_7 : wc.cell? ⟨gb119, 7, none⟩ = some (.string a0_7) := (blk_cell BK119.out 7).trans rfl
          have hfz17_0 := blk_frozen BK119.out 0
          have hfz17_1 := blk_frozen BK119.out 1
          have hfz17_2 := blk_frozen BK119.out 2
          have hfz17_3 := blk_frozen BK119.out 3
          have hfz17_4 := blk_frozen BK119.out 4
          have hfz17_5 := blk_frozen BK119.out 5
          have hfz17_6 := blk_frozen BK119.out 6
          have hfz17_7 := blk_frozen BK119.out 7
          go_wp2_with (first | (go_at_call 23; (with_reducible refine (udp_word.calls a0_7 t120 _ A14.out).mono ?_); rintro e w' ⟨rfl, ⟨nd, rfl⟩⟩; (try first | exact ⟨rfl, _, World.drewN_drewN _ _ _⟩ | exact ⟨rfl, _, Eq.trans (World.drewN_drewN _ _ _) (congrArg (World.drewN _) (Nat.add_assoc _ _ _))⟩)) | (go_at_call 23; (with_reducible refine (udp_word.calls (a0_7.extract 2 a0_7.size) t121 _ A16.out).mono ?_); rintro e w' ⟨rfl, ⟨nd, rfl⟩⟩; (try first | exact ⟨rfl, _, World.drewN_drewN _ _ _⟩ | exact ⟨rfl, _, Eq.trans (World.drewN_drewN _ _ _) (congrArg (World.drewN _) (Nat.add_assoc _ _ _))⟩)))
          repeat (go_quiet (first | (go_at_call 23; (with_reducible refine (udp_word.calls a0_7 t120 _ A14.out).mono ?_); rintro e w' ⟨rfl, ⟨nd, rfl⟩⟩; (try first | exact ⟨rfl, _, World.drewN_drewN _ _ _⟩ | exact ⟨rfl, _, Eq.trans (World.drewN_drewN _ _ _) (congrArg (World.drewN _) (Nat.add_assoc _ _ _))⟩)) | (go_at_call 23; (with_reducible refine (udp_word.calls (a0_7.extract 2 a0_7.size) t121 _ A16.out).mono ?_); rintro e w' ⟨rfl, ⟨nd, rfl⟩⟩; (try first | exact ⟨rfl, _, World.drewN_drewN _ _ _⟩ | exact ⟨rfl, _, Eq.trans (World.drewN_drewN _ _ _) (congrArg (World.drewN _) (Nat.add_assoc _ _ _))⟩))); try go_wp2_with (first | (go_at_call 23; (with_reducible refine (udp_word.calls a0_7 t120 _ A14.out).mono ?_); rintro e w' ⟨rfl, ⟨nd, rfl⟩⟩; (try first | exact ⟨rfl, _, World.drewN_drewN _ _ _⟩ | exact ⟨rfl, _, Eq.trans (World.drewN_drewN _ _ _) (congrArg (World.drewN _) (Nat.add_assoc _ _ _))⟩)) | (go_at_call 23; (with_reducible refine (udp_word.calls (a0_7.extract 2 a0_7.size) t121 _ A16.out).mono ?_); rintro e w' ⟨rfl, ⟨nd, rfl⟩⟩; (try first | exact ⟨rfl, _, World.drewN_drewN _ _ _⟩ | exact ⟨rfl, _, Eq.trans (World.drewN_drewN _ _ _) (congrArg (World.drewN _) (Nat.add_assoc _ _ _))⟩))))
          go_ret3
          exact ⟨by first | rfl | (simp [errW_none, errW_some] <;> rfl) | (simp [*, errW_none, errW_some] <;> rfl), by repeat (first | (with_reducible first | exact HB.out | apply below_alloc | apply pw_below_drewN | apply below_drew1 | refine below_set ?_ GE119.out) | exact HB.out)⟩
        · rw [if_neg c15] at H
          exact absurd H (by simp)

/-! ### vizardlaw03_UdpPorts: by hand (its print is longer than a file may be) -/
def vizardlaw03_UdpPorts.f (k : Nat) (a0_0 a0_1 a0_2 a0_3 a0_4 a0_5 a0_6 : Int) (a0_7 : ByteArray) : Option Bool := (vizardlaw03_works.f k).bind fun b => if b = true then ((udp_Ports.f k a0_0 a0_1 a0_2 a0_3 a0_4 a0_5 a0_6 a0_7).bind fun r =>
  if (a0_4 = 17 ∨ a0_4 = 6) ∧ Go.bits .and .i64 a0_2 8191 = 0 ∧ 4 ≤ (a0_7.size : Int) then (if r = (256 * bt a0_7 0 + bt a0_7 1, 256 * bt a0_7 2 + bt a0_7 3, true) then some true else none) else (if r = (0, 0, false) then some true else none)) else none
theorem vizardlaw03_UdpPorts.mono : ∀ a0_0 a0_1 a0_2 a0_3 a0_4 a0_5 a0_6 a0_7 k, LeO (vizardlaw03_UdpPorts.f k a0_0 a0_1 a0_2 a0_3 a0_4 a0_5 a0_6 a0_7) (vizardlaw03_UdpPorts.f (k + 1) a0_0 a0_1 a0_2 a0_3 a0_4 a0_5 a0_6 a0_7) := by
  intro a0_0 a0_1 a0_2 a0_3 a0_4 a0_5 a0_6 a0_7 k
  unfold vizardlaw03_UdpPorts.f
  exact LeO.bind (vizardlaw03_works.mono _) (fun b => LeO.ite (LeO.bind (udp_Ports.mono _ _ _ _ _ _ _ _ _) (fun r => LeO.refl _)) (LeO.refl _))
set_option maxHeartbeats 8000000 in
set_option maxRecDepth 100000 in
theorem vizardlaw03_UdpPorts.calls (k : Nat) (a0_0 a0_1 a0_2 a0_3 a0_4 a0_5 a0_6 : Int) (a0_7 : ByteArray) (r : Bool) (w : World) (h : vizardlaw03_UdpPorts.f k a0_0 a0_1 a0_2 a0_3 a0_4 a0_5 a0_6 a0_7 = some r) :
    Calls Try.prog 6 #[.agg #[.int .i64 a0_0, .int .i64 a0_1, .int .i64 a0_2, .int .i64 a0_3, .int .i64 a0_4, .int .u32 a0_5, .int .u32 a0_6, .string a0_7]] w fun e w' => e = .returned (.bool r) ∧ Below w.heap.size w w' := by
  unfold vizardlaw03_UdpPorts.f at h
  obtain ⟨b, hb, hh⟩ := Option.bind_eq_some_iff.1 h
  clear h
  have HB : Aside0 (Below w.heap.size w w) := ⟨Below.refl _ _⟩
  cases b with
  | false => exact absurd hh (by simp)
  | true =>
    rw [if_pos rfl] at hh
    have HW := Aside0.mk hb
    clear hb
    obtain ⟨⟨p, q, ok⟩, hp, h⟩ := Option.bind_eq_some_iff.1 hh
    clear hh
    have HP := Aside0.mk hp
    clear hp
    have T17 : (a0_4 == 17) = true ∨ (a0_4 == 17) = false := by cases (a0_4 == 17) <;> simp
    have T6 : (a0_4 == 6) = true ∨ (a0_4 == 6) = false := by cases (a0_4 == 6) <;> simp
    have TF : (Go.bits .and .i64 a0_2 8191 == 0) = true ∨ (Go.bits .and .i64 a0_2 8191 == 0) = false := by cases (Go.bits .and .i64 a0_2 8191 == 0) <;> simp
    have TS : decide (4 ≤ (a0_7.size : Int)) = true ∨ decide (4 ≤ (a0_7.size : Int)) = false := by cases decide (4 ≤ (a0_7.size : Int)) <;> simp
    by_cases is : (a0_4 = 17 ∨ a0_4 = 6) ∧ Go.bits .and .i64 a0_2 8191 = 0 ∧ 4 ≤ (a0_7.size : Int)
    · rw [if_pos is] at h
      by_cases hr : (p, q, ok) = (256 * bt a0_7 0 + bt a0_7 1, 256 * bt a0_7 2 + bt a0_7 3, true)
      · rw [if_pos hr] at h
        obtain ⟨rfl, rfl, rfl⟩ := (by simpa using hr : p = 256 * bt a0_7 0 + bt a0_7 1 ∧ q = 256 * bt a0_7 2 + bt a0_7 3 ∧ ok = true)
        obtain rfl := Option.some.inj h
        clear h hr
        have tf : (Go.bits .and .i64 a0_2 8191 == 0) = true := by simpa using is.2.1
        have ts : decide (4 ≤ (a0_7.size : Int)) = true := decide_eq_true is.2.2
        have ts' : decide ((a0_7.size : Int) ≥ 4) = true := ts
        have s4 := is.2.2
        have i0 := eq_true (show 0 < a0_7.size by omega)
        have i1 := eq_true (show 1 < a0_7.size by omega)
        have i2 := eq_true (show 2 < a0_7.size by omega)
        have i3 := eq_true (show 3 < a0_7.size by omega)
        have j0 := eq_true (show 0 < (a0_7.size : Int) by omega)
        have j1 := eq_true (show 1 < (a0_7.size : Int) by omega)
        have j2 := eq_true (show 2 < (a0_7.size : Int) by omega)
        have j3 := eq_true (show 3 < (a0_7.size : Int) by omega)
        have x0 : ∀ h : 0 < a0_7.size, ((a0_7[0]'h).toNat : Int) = bt a0_7 0 := bt_at a0_7 0
        have x1 : ∀ h : 1 < a0_7.size, ((a0_7[1]'h).toNat : Int) = bt a0_7 1 := bt_at a0_7 1
        have x2 : ∀ h : 2 < a0_7.size, ((a0_7[2]'h).toNat : Int) = bt a0_7 2 := bt_at a0_7 2
        have x3 : ∀ h : 3 < a0_7.size, ((a0_7[3]'h).toNat : Int) = bt a0_7 3 := bt_at a0_7 3
        have r0 := bt_range a0_7 0
        have r1 := bt_range a0_7 1
        have r2 := bt_range a0_7 2
        have r3 := bt_range a0_7 3
        have is' : (a0_4 == 17) = true ∨ ((a0_4 == 17) = false ∧ (a0_4 == 6) = true) := by
          by_cases e : a0_4 = 17
          · exact Or.inl (by simpa using e)
          · exact Or.inr ⟨by simpa using e, by simpa using is.1.resolve_left e⟩
        clear is s4 T17 T6 TF TS
        rcases is' with t17 | ⟨t17, t6⟩
        all_goals
         go_enter Try.func6, Try.ntmps6
         go_wp2_with (first | ((with_reducible refine gate_dst (N := 1) rfl ?_); refine box_event ?hg (N := 1) ?hd (cs := #[.int .i64 a0_0, .int .i64 a0_1, .int .i64 a0_2, .int .i64 a0_3, .int .i64 a0_4, .int .u32 a0_5, .int .u32 a0_6, .string a0_7]) (t := 36) ?hr ?_; (case hd => rfl); (case hg => rfl); (case hr => first | (go_simp; done) | (go_simp; rfl)); intro gb hgb w1 hbox hb; have BK := Aside0.mk hbox; have n0_ := Aside0.mk (below_step HB.out hb); clear HB; have HB := n0_; clear n0_ hgb hbox hb; have hc0 := (show _ = some (Value.int .i64 a0_0) from (blk_cell BK.out 0).trans rfl); have hc1 := (show _ = some (Value.int .i64 a0_1) from (blk_cell BK.out 1).trans rfl); have hc2 := (show _ = some (Value.int .i64 a0_2) from (blk_cell BK.out 2).trans rfl); have hc3 := (show _ = some (Value.int .i64 a0_3) from (blk_cell BK.out 3).trans rfl); have hc4 := (show _ = some (Value.int .i64 a0_4) from (blk_cell BK.out 4).trans rfl); have hc5 := (show _ = some (Value.int .u32 a0_5) from (blk_cell BK.out 5).trans rfl); have hc6 := (show _ = some (Value.int .u32 a0_6) from (blk_cell BK.out 6).trans rfl); have hc7 := (show _ = some (Value.string a0_7) from (blk_cell BK.out 7).trans rfl)) | (go_at_call 10; refine (vizardlaw03_works.calls k true _ HW.out).mono ?_; rintro e w2 ⟨rfl, hb⟩; have n0_ := Aside0.mk (below_step HB.out hb); have n1_ := Aside0.mk (blk_below BK.out hb); clear HB BK; have HB := n0_; have BK := n1_; clear hc0 hc1 hc2 hc3 hc4 hc5 hc6 hc7; clear n0_ n1_ hb; have hc0 := (show _ = some (Value.int .i64 a0_0) from (blk_cell BK.out 0).trans rfl); have hc1 := (show _ = some (Value.int .i64 a0_1) from (blk_cell BK.out 1).trans rfl); have hc2 := (show _ = some (Value.int .i64 a0_2) from (blk_cell BK.out 2).trans rfl); have hc3 := (show _ = some (Value.int .i64 a0_3) from (blk_cell BK.out 3).trans rfl); have hc4 := (show _ = some (Value.int .i64 a0_4) from (blk_cell BK.out 4).trans rfl); have hc5 := (show _ = some (Value.int .u32 a0_5) from (blk_cell BK.out 5).trans rfl); have hc6 := (show _ = some (Value.int .u32 a0_6) from (blk_cell BK.out 6).trans rfl); have hc7 := (show _ = some (Value.string a0_7) from (blk_cell BK.out 7).trans rfl)) | (go_at_call 12; refine (udp_Ports.calls k a0_0 a0_1 a0_2 a0_3 a0_4 a0_5 a0_6 a0_7 _ _ _ _ HP.out).mono ?_; rintro e w3 ⟨rfl, hb⟩; have n0_ := Aside0.mk (below_step HB.out hb); have n1_ := Aside0.mk (blk_below BK.out hb); clear HB BK; have HB := n0_; have BK := n1_; clear hc0 hc1 hc2 hc3 hc4 hc5 hc6 hc7; clear n0_ n1_ hb; have hc0 := (show _ = some (Value.int .i64 a0_0) from (blk_cell BK.out 0).trans rfl); have hc1 := (show _ = some (Value.int .i64 a0_1) from (blk_cell BK.out 1).trans rfl); have hc2 := (show _ = some (Value.int .i64 a0_2) from (blk_cell BK.out 2).trans rfl); have hc3 := (show _ = some (Value.int .i64 a0_3) from (blk_cell BK.out 3).trans rfl); have hc4 := (show _ = some (Value.int .i64 a0_4) from (blk_cell BK.out 4).trans rfl); have hc5 := (show _ = some (Value.int .u32 a0_5) from (blk_cell BK.out 5).trans rfl); have hc6 := (show _ = some (Value.int .u32 a0_6) from (blk_cell BK.out 6).trans rfl); have hc7 := (show _ = some (Value.string a0_7) from (blk_cell BK.out 7).trans rfl)))
         go_quiet (fail)
         go_wp2
         go_ret
         exact ⟨by first | rfl | (simp; done), by repeat (first | (with_reducible first | exact HB.out | apply below_alloc | apply pw_below_drewN | apply below_drew1) | exact HB.out)⟩
      · rw [if_neg hr] at h
        exact absurd h (by simp)
    · rw [if_neg is] at h
      by_cases hr : (p, q, ok) = (0, 0, false)
      · rw [if_pos hr] at h
        obtain ⟨rfl, rfl, rfl⟩ := (by simpa using hr : p = 0 ∧ q = 0 ∧ ok = false)
        obtain rfl := Option.some.inj h
        clear h hr
        have TS' : ∀ b : Bool, decide (4 ≤ (a0_7.size : Int)) = b → decide ((a0_7.size : Int) ≥ 4) = b := fun b hb => hb
        rcases T17 with t17 | t17 <;> rcases T6 with t6 | t6 <;> rcases TF with tf | tf <;> rcases TS with ts | ts
        all_goals first
          | (exfalso; apply is; refine ⟨?_, by simpa using tf, by simpa using ts⟩; first | exact Or.inl (by simpa using t17) | exact Or.inr (by simpa using t6))
          | skip
        all_goals
          have ts' := TS' _ ts
          clear is TS'
        all_goals
         go_enter Try.func6, Try.ntmps6
         go_wp2_with (first | ((with_reducible refine gate_dst (N := 1) rfl ?_); refine box_event ?hg (N := 1) ?hd (cs := #[.int .i64 a0_0, .int .i64 a0_1, .int .i64 a0_2, .int .i64 a0_3, .int .i64 a0_4, .int .u32 a0_5, .int .u32 a0_6, .string a0_7]) (t := 36) ?hr ?_; (case hd => rfl); (case hg => rfl); (case hr => first | (go_simp; done) | (go_simp; rfl)); intro gb hgb w1 hbox hb; have BK := Aside0.mk hbox; have n0_ := Aside0.mk (below_step HB.out hb); clear HB; have HB := n0_; clear n0_ hgb hbox hb; have hc0 := (show _ = some (Value.int .i64 a0_0) from (blk_cell BK.out 0).trans rfl); have hc1 := (show _ = some (Value.int .i64 a0_1) from (blk_cell BK.out 1).trans rfl); have hc2 := (show _ = some (Value.int .i64 a0_2) from (blk_cell BK.out 2).trans rfl); have hc3 := (show _ = some (Value.int .i64 a0_3) from (blk_cell BK.out 3).trans rfl); have hc4 := (show _ = some (Value.int .i64 a0_4) from (blk_cell BK.out 4).trans rfl); have hc5 := (show _ = some (Value.int .u32 a0_5) from (blk_cell BK.out 5).trans rfl); have hc6 := (show _ = some (Value.int .u32 a0_6) from (blk_cell BK.out 6).trans rfl); have hc7 := (show _ = some (Value.string a0_7) from (blk_cell BK.out 7).trans rfl)) | (go_at_call 10; refine (vizardlaw03_works.calls k true _ HW.out).mono ?_; rintro e w2 ⟨rfl, hb⟩; have n0_ := Aside0.mk (below_step HB.out hb); have n1_ := Aside0.mk (blk_below BK.out hb); clear HB BK; have HB := n0_; have BK := n1_; clear hc0 hc1 hc2 hc3 hc4 hc5 hc6 hc7; clear n0_ n1_ hb; have hc0 := (show _ = some (Value.int .i64 a0_0) from (blk_cell BK.out 0).trans rfl); have hc1 := (show _ = some (Value.int .i64 a0_1) from (blk_cell BK.out 1).trans rfl); have hc2 := (show _ = some (Value.int .i64 a0_2) from (blk_cell BK.out 2).trans rfl); have hc3 := (show _ = some (Value.int .i64 a0_3) from (blk_cell BK.out 3).trans rfl); have hc4 := (show _ = some (Value.int .i64 a0_4) from (blk_cell BK.out 4).trans rfl); have hc5 := (show _ = some (Value.int .u32 a0_5) from (blk_cell BK.out 5).trans rfl); have hc6 := (show _ = some (Value.int .u32 a0_6) from (blk_cell BK.out 6).trans rfl); have hc7 := (show _ = some (Value.string a0_7) from (blk_cell BK.out 7).trans rfl)) | (go_at_call 12; refine (udp_Ports.calls k a0_0 a0_1 a0_2 a0_3 a0_4 a0_5 a0_6 a0_7 _ _ _ _ HP.out).mono ?_; rintro e w3 ⟨rfl, hb⟩; have n0_ := Aside0.mk (below_step HB.out hb); have n1_ := Aside0.mk (blk_below BK.out hb); clear HB BK; have HB := n0_; have BK := n1_; clear hc0 hc1 hc2 hc3 hc4 hc5 hc6 hc7; clear n0_ n1_ hb; have hc0 := (show _ = some (Value.int .i64 a0_0) from (blk_cell BK.out 0).trans rfl); have hc1 := (show _ = some (Value.int .i64 a0_1) from (blk_cell BK.out 1).trans rfl); have hc2 := (show _ = some (Value.int .i64 a0_2) from (blk_cell BK.out 2).trans rfl); have hc3 := (show _ = some (Value.int .i64 a0_3) from (blk_cell BK.out 3).trans rfl); have hc4 := (show _ = some (Value.int .i64 a0_4) from (blk_cell BK.out 4).trans rfl); have hc5 := (show _ = some (Value.int .u32 a0_5) from (blk_cell BK.out 5).trans rfl); have hc6 := (show _ = some (Value.int .u32 a0_6) from (blk_cell BK.out 6).trans rfl); have hc7 := (show _ = some (Value.string a0_7) from (blk_cell BK.out 7).trans rfl)))
         go_ret
         exact ⟨by first | rfl | (simp; done), HB.out⟩
      · rw [if_neg hr] at h
        exact absurd h (by simp)

end Go.Proofs.Ytmgepidjeddapaa.PUdpPorts
