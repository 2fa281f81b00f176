/- works: it returns true. -/
import Derived.Test.YtpdbiooccnfkhaaHandB
namespace Go.Proofs.Ytpdbiooccnfkhaa.Walk
open Go.RowKit Go.Proofs.YtpdbiooccnfkhaaW.PrintWords Go.Proofs.YtpdbiooccnfkhaaW.PrintLast Go.Proofs.YtpdbiooccnfkhaaW.PrintMore Go.Proofs.Ytpdbiooccnfkhaa
set_option linter.unusedVariables false
set_option linter.unusedSimpArgs false
set_option maxHeartbeats 4000000 in
set_option maxRecDepth 100000 in
theorem works_c (w : World) : Calls Try.prog 6 #[] w fun e w' => e = .returned (.bool true) ∧ Below w.heap.size w w' := by
  go_enter Try.func6, Try.ntmps6
  go_wp2_with (fail)
  go_at_call 7
  (with_reducible refine (Hand.new_c 10 100 _).mono ?_)
  rintro e w1 ⟨rfl, hw⟩
  have hb : Hand.BK w1 w.heap.size 10 100 100 0 0 := by rw [← hw]; exact blk_drew (blk_new _ _)
  have hB : Below w.heap.size w w1 := by rw [← hw]; exact below_drew1 (below_alloc (Below.refl _ _) _)
  have Hb := Aside0.mk hb
  have HB := Aside0.mk hB
  clear hw hb hB
  go_wp2_with (fail)
  go_at_call 9
  (with_reducible refine (Hand.take_c w.heap.size 60 10 100 100 0 0 (by omega) _ Hb.out true 40 60 0 (by decide +kernel)).mono ?_)
  rintro e w_ ⟨rfl, hx, ho⟩
  have hB_ := ho.below w HB.out (Nat.le_refl _)
  have Hb2 := Aside0.mk hx
  have HB2 := Aside0.mk hB_
  clear hB_ hx ho HB Hb 
  have Hb := Hb2
  have HB := HB2
  clear HB2 Hb2 
  go_wp2_with (fail)
  go_at_call 9
  (with_reducible refine (Hand.take_c w.heap.size 50 10 100 40 60 0 (by omega) _ Hb.out false 40 60 50 (by decide +kernel)).mono ?_)
  rintro e w_ ⟨rfl, hx, ho⟩
  have hB_ := ho.below w HB.out (Nat.le_refl _)
  have Hb2 := Aside0.mk hx
  have HB2 := Aside0.mk hB_
  clear hB_ hx ho HB Hb 
  have Hb := Hb2
  have HB := HB2
  clear HB2 Hb2 
  go_wp2_with (fail)
  go_at_call 8
  (with_reducible refine (Hand.tick_o w.heap.size 1 10 100 40 60 50 (by omega) (by omega) _ Hb.out).mono ?_)
  rintro e w_ ⟨rfl, hx, ho⟩
  rw [show mn 100 (40 + 10 * Hand.cutv 1) = 50 from by decide +kernel] at hx
  have hB_ := ho.below w HB.out (Nat.le_refl _)
  have Hb2 := Aside0.mk hx
  have HB2 := Aside0.mk hB_
  clear hB_ hx ho HB Hb 
  have Hb := Hb2
  have HB := HB2
  clear HB2 Hb2 
  go_wp2_with (fail)
  go_at_call 10
  (with_reducible refine (Hand.level_c w.heap.size 10 100 50 60 50 _ Hb.out).mono ?_)
  rintro e w_ ⟨rfl, rfl⟩
  go_wp2_with (fail)
  go_at_call 9
  (with_reducible refine (Hand.take_c w.heap.size 50 10 100 50 60 50 (by omega) _ Hb.out true 0 110 50 (by decide +kernel)).mono ?_)
  rintro e w_ ⟨rfl, hx, ho⟩
  have hB_ := ho.below w HB.out (Nat.le_refl _)
  have Hb2 := Aside0.mk hx
  have HB2 := Aside0.mk hB_
  clear hB_ hx ho HB Hb 
  have Hb := Hb2
  have HB := HB2
  clear HB2 Hb2 
  go_wp2_with (fail)
  go_at_call 10
  (with_reducible refine (Hand.level_c w.heap.size 10 100 0 110 50 _ Hb.out).mono ?_)
  rintro e w_ ⟨rfl, rfl⟩
  go_wp2_with (fail)
  go_ret
  exact ⟨rfl, HB.out⟩
end Go.Proofs.Ytpdbiooccnfkhaa.Walk
