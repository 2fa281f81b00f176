/- BucketTicks: the walk. -/
import Derived.Test.YtpdbiooccnfkhaaGoodBucketTicks
import Derived.Test.YtpdbiooccnfkhaaWorks
import Derived.LoopN
namespace Go.Proofs.Ytpdbiooccnfkhaa.Walk
open Go.RowKit Go.Proofs.YtpdbiooccnfkhaaW.PrintWords Go.Proofs.YtpdbiooccnfkhaaW.PrintLast Go.Proofs.YtpdbiooccnfkhaaW.PrintMore Go.Proofs.Ytpdbiooccnfkhaa.PBucketTicks Go.Proofs.Ytpdbiooccnfkhaa
set_option linter.unusedVariables false
set_option linter.unusedSimpArgs false
set_option maxHeartbeats 8000000 in
set_option maxRecDepth 100000 in
theorem bucketTicks_walk (rate burst n take : Int) (w : World) (G0 : (Lit.int .i64 rate).wf = true) (G1 : (Lit.int .i64 burst).wf = true) (G2 : (Lit.int .i64 n).wf = true) (G3 : (Lit.int .i64 take).wf = true) :
    Calls Try.prog 4 #[.int .i64 rate, .int .i64 burst, .int .i64 n, .int .i64 take] w fun e w' => e = .returned (.bool true) ∧ Below w.heap.size w w' := by
  obtain ⟨R, hR⟩ : ∃ R, Hand.cutv rate = R := ⟨_, rfl⟩
  obtain ⟨Bu, hBu⟩ : ∃ B, Hand.cutv burst = B := ⟨_, rfl⟩
  have hRr := Hand.cutv_range rate
  have hBr := Hand.cutv_range burst
  rw [hR] at hRr
  rw [hBu] at hBr
  obtain ⟨⟨b, l0, t0, n0⟩, ht⟩ : ∃ p, Hand.takeS Bu 0 0 take = p := ⟨_, rfl⟩
  have hl0 := Hand.takeS_level Bu 0 0 take hBr
  have hl1 := Hand.takeS_le Bu 0 0 take
  rw [ht] at hl0 hl1
  dsimp only at hl0 hl1
  obtain ⟨N, hN⟩ : ∃ N, IntKind.u64.wrap n % 50 = N := ⟨_, rfl⟩
  have hNr : 0 ≤ N ∧ N < 50 := by omega
  have hu := Hand.u64_range n
  have hu2 : Int.tmod (IntKind.u64.wrap n) 50 = N := by rw [Int.tmod_eq_emod_of_nonneg hu.1]; exact hN
  have hw1 : wrap64 N = N := by unfold wrap64; omega
  have hw1b : IntKind.i64.wrap N = N := (i64_w _).trans hw1
  have hw0 : wrap64 (IntKind.u64.wrap n % 50) = N := by rw [hN]; exact hw1
  have H1 := Aside0.mk hR
  have H2 := Aside0.mk hBu
  have HRr := Aside0.mk hRr
  have HBr := Aside0.mk hBr
  have HT := Aside0.mk ht
  have HL0 := Aside0.mk hl0
  have HL1 := Aside0.mk hl1
  have HNr := Aside0.mk hNr
  clear hR hBu hRr hBr ht hl0 hl1 hu hNr G0 G1 G2 G3
  go_enter Try.func4, Try.ntmps4
  go_wp2_with (fail)
  go_at_call 6
  (with_reducible refine (works_c _).mono ?_)
  rintro e w0 ⟨rfl, hb⟩
  have HB0 := Aside0.mk hb
  clear hb
  go_wp2_with (fail)
  go_at_call 7
  (with_reducible refine (Hand.new_c rate burst _).mono ?_)
  rintro e w1 ⟨rfl, hw⟩
  rw [H1.out, H2.out] at hw
  have hb : Hand.BK w1 w0.heap.size R Bu Bu 0 0 := by rw [← hw]; exact blk_drew (blk_new _ _)
  have hB : Below w.heap.size w w1 := by rw [← hw]; exact below_drew1 (below_alloc HB0.out _)
  have hlt := blk_lt hb
  have Ha := Aside0.mk hb
  have HB := Aside0.mk hB
  clear hw hb hB
  go_wp2_with (fail)
  go_at_call 7
  (with_reducible refine (Hand.new_c rate burst _).mono ?_)
  rintro e w2 ⟨rfl, hw⟩
  rw [H1.out, H2.out] at hw
  have hb : Hand.BK w2 w1.heap.size R Bu Bu 0 0 := by rw [← hw]; exact blk_drew (blk_new _ _)
  have ha : Hand.BK w2 w0.heap.size R Bu Bu 0 0 := by rw [← hw]; exact blk_drew (blk_alloc Ha.out _)
  have hB : Below w.heap.size w w2 := by rw [← hw]; exact below_drew1 (below_alloc HB.out _)
  have HGA := Aside0.mk (below_size HB0.out)
  have HGB := Aside0.mk (below_size HB.out)
  have HNE := Aside0.mk (Nat.ne_of_lt hlt)
  clear HB Ha
  have Ha := Aside0.mk ha
  have Hb := Aside0.mk hb
  have HB := Aside0.mk hB
  clear hw hb hB ha hlt HB0
  generalize w0.heap.size = ga at *
  generalize w1.heap.size = gb at *
  go_wp2_with (fail)
  go_at_call 9
  (with_reducible refine (Hand.take_c ga take R Bu Bu 0 0 (HBr.out.2) _ Ha.out b l0 t0 n0 (HT.out)).mono ?_)
  rintro e w_ ⟨rfl, hx, ho⟩
  have Hb_ : Hand.BK _ gb _ _ _ _ _ := (ho.other _ (HNE.out.symm)).trans Hb.out
  have hB_ := ho.below w HB.out HGA.out
  have Ha2 := Aside0.mk hx
  have HB2 := Aside0.mk hB_
  have Hb2 := Aside0.mk Hb_
  clear hB_ hx ho HB Ha Hb Hb_
  have Ha := Ha2
  have HB := HB2
  have Hb := Hb2
  clear HB2 Ha2 Hb2
  go_wp2_with (fail)
  go_at_call 9
  (with_reducible refine (Hand.take_c gb take R Bu Bu 0 0 (HBr.out.2) _ Hb.out b l0 t0 n0 (HT.out)).mono ?_)
  rintro e w_ ⟨rfl, hx, ho⟩
  have Ha_ : Hand.BK _ ga _ _ _ _ _ := (ho.other _ (HNE.out)).trans Ha.out
  have hB_ := ho.below w HB.out HGB.out
  have Hb2 := Aside0.mk hx
  have HB2 := Aside0.mk hB_
  have Ha2 := Aside0.mk Ha_
  clear hB_ hx ho HB Hb Ha Ha_
  have Hb := Hb2
  have HB := HB2
  have Ha := Ha2
  clear HB2 Hb2 Ha2
  go_wp2_with (fail)
  go_loopw [11] (fun v11 wr => ∃ i : Int, v11 = .int .i64 i ∧ Aside0 (0 ≤ i ∧ i ≤ N) ∧ Aside0 (Hand.BK wr ga R Bu (mn Bu (l0 + R * i)) t0 n0) ∧ Aside0 (Hand.BK wr gb R Bu l0 t0 n0) ∧ Aside0 (Below w.heap.size w wr)) (fun v11 _ => (N - intOf v11).toNat)
  case atStart =>
    refine ⟨0, rfl, ⟨by have := HNr.out; omega⟩, ⟨?_⟩, Hb, HB⟩
    have e : mn Bu (l0 + R * 0) = l0 := by
      have := HL1.out
      unfold mn
      rw [Int.mul_zero, Int.add_zero]
      split <;> omega
    rw [e]
    exact Ha.out
  case round =>
    clear Ha Hb HB
    obtain ⟨i, rfl, hi, Ha, Hb, HB⟩ := hrel
    have hmul := Int.mul_nonneg HRr.out.1 hi.out.1
    have hlv := Hand.mn_range Bu l0 (R * i) HBr.out HL0.out hmul
    have HLV := Aside0.mk hlv
    have HMU := Aside0.mk hmul
    clear hlv hmul
    by_cases c1 : i < N
    · have C1 : decide (i < N) = true := decide_eq_true c1
      have hwi : wrap64 (i + 1) = i + 1 := by unfold wrap64; have := HNr.out; have := hi.out; omega
      have hwi2 : IntKind.i64.wrap (i + 1) = i + 1 := (i64_w _).trans hwi
      have HC := Aside0.mk c1
      clear c1
      go_wp2_with (fail)
      go_at_call 8
      (with_reducible refine (Hand.tick_o ga 1 R Bu (mn Bu (l0 + R * i)) t0 n0 HRr.out HLV.out _ Ha.out).mono ?_)
      rintro e w_ ⟨rfl, hx, ho⟩
      rw [show mn Bu ((mn Bu (l0 + R * i)) + R * Hand.cutv 1) = mn Bu (l0 + R * (i + 1)) from Hand.mn_step Bu l0 R i HRr.out.1] at hx
      have Hb_ : Hand.BK _ gb _ _ _ _ _ := (ho.other _ (HNE.out.symm)).trans Hb.out
      have hB_ := ho.below w HB.out HGA.out
      have Ha2 := Aside0.mk hx
      have HB2 := Aside0.mk hB_
      have Hb2 := Aside0.mk Hb_
      clear hB_ hx ho HB Ha Hb Hb_
      have Ha := Ha2
      have HB := HB2
      have Hb := Hb2
      clear HB2 Ha2 Hb2
      go_wp2_with (fail)
      go_roundw
      case rel => exact ⟨i + 1, rfl, ⟨by have := HC.out; have := hi.out; omega⟩, Ha, Hb, HB⟩
      case measure => have := HC.out; simp [intOf]; omega
    · have C1 : decide (i < N) = false := decide_eq_false c1
      have hiN : i = N := by have := hi.out; omega
      subst hiN
      clear c1
      have hsum : mn Bu (l0 + R * Hand.cutv i) = mn Bu (l0 + R * i) := by
        have := HNr.out
        rw [show Hand.cutv i = i by unfold Hand.cutv; rw [if_neg (by omega), if_neg (by omega)]]
      have HS := Aside0.mk hsum
      clear hsum
      go_wp2_with (fail)
      go_at_call 8
      (with_reducible refine (Hand.tick_o gb i R Bu l0 t0 n0 HRr.out HL0.out _ Hb.out).mono ?_)
      rintro e w_ ⟨rfl, hx, ho⟩
      rw [HS.out] at hx
      have Ha_ : Hand.BK _ ga _ _ _ _ _ := (ho.other _ (HNE.out)).trans Ha.out
      have hB_ := ho.below w HB.out HGB.out
      have Hb2 := Aside0.mk hx
      have HB2 := Aside0.mk hB_
      have Ha2 := Aside0.mk Ha_
      clear hB_ hx ho HB Hb Ha Ha_
      have Hb := Hb2
      have HB := HB2
      have Ha := Ha2
      clear HB2 Hb2 Ha2
      obtain ⟨x, hx⟩ : ∃ x, mn Bu (l0 + R * i) = x := ⟨_, rfl⟩
      have ha1 := Ha.out
      have hb1 := Hb.out
      have hv1 := HLV.out
      rw [hx] at ha1 hb1 hv1
      clear Ha Hb HLV HS hx
      have Ha := Aside0.mk ha1
      have Hb := Aside0.mk hb1
      have hs1 : wrap64 (x + 1) = x + 1 := by unfold wrap64; omega
      have hs2 : IntKind.i64.wrap (x + 1) = x + 1 := (i64_w _).trans hs1
      have HV := Aside0.mk hv1
      clear ha1 hb1 hv1
      go_wp2_with (fail)
      go_at_call 10
      (with_reducible refine (Hand.level_c ga R Bu x t0 n0 _ Ha.out).mono ?_)
      rintro e w_ ⟨rfl, rfl⟩
      go_wp2_with (fail)
      go_at_call 9
      (with_reducible refine (Hand.take_c ga (x + 1) R Bu x t0 n0 (HV.out.2) _ Ha.out false x t0 (wrap64 (n0 + (x + 1))) (by have := HV.out; unfold Hand.takeS; rw [if_neg (by omega), if_pos (by omega)])).mono ?_)
      rintro e w_ ⟨rfl, hx, ho⟩
      have Hb_ : Hand.BK _ gb _ _ _ _ _ := (ho.other _ (HNE.out.symm)).trans Hb.out
      have hB_ := ho.below w HB.out HGA.out
      have Ha2 := Aside0.mk hx
      have HB2 := Aside0.mk hB_
      have Hb2 := Aside0.mk Hb_
      clear hB_ hx ho HB Ha Hb Hb_
      have Ha := Ha2
      have HB := HB2
      have Hb := Hb2
      clear HB2 Ha2 Hb2
      go_wp2_with (fail)
      go_at_call 10
      (with_reducible refine (Hand.level_c gb R Bu x t0 n0 _ Hb.out).mono ?_)
      rintro e w_ ⟨rfl, rfl⟩
      go_wp2_with (fail)
      go_at_call 10
      (with_reducible refine (Hand.level_c ga R Bu x t0 (wrap64 (n0 + (x + 1))) _ Ha.out).mono ?_)
      rintro e w_ ⟨rfl, rfl⟩
      go_wp2_with (fail)
      go_at_call 9
      (with_reducible refine (Hand.take_c ga (-1) R Bu x t0 (wrap64 (n0 + (x + 1))) (HV.out.2) _ Ha.out false x t0 (wrap64 (n0 + (x + 1))) (by unfold Hand.takeS; rw [if_pos (by omega)])).mono ?_)
      rintro e w_ ⟨rfl, hx, ho⟩
      have Hb_ : Hand.BK _ gb _ _ _ _ _ := (ho.other _ (HNE.out.symm)).trans Hb.out
      have hB_ := ho.below w HB.out HGA.out
      have Ha2 := Aside0.mk hx
      have HB2 := Aside0.mk hB_
      have Hb2 := Aside0.mk Hb_
      clear hB_ hx ho HB Ha Hb Hb_
      have Ha := Ha2
      have HB := HB2
      have Hb := Hb2
      clear HB2 Ha2 Hb2
      go_wp2_with (fail)
      go_at_call 9
      (with_reducible refine (Hand.take_c ga 0 R Bu x t0 (wrap64 (n0 + (x + 1))) (HV.out.2) _ Ha.out true (x - 0) (wrap64 (t0 + 0)) (wrap64 (n0 + (x + 1))) (by have := HV.out; unfold Hand.takeS; rw [if_neg (by omega), if_neg (by omega)])).mono ?_)
      rintro e w_ ⟨rfl, hx, ho⟩
      have Hb_ : Hand.BK _ gb _ _ _ _ _ := (ho.other _ (HNE.out.symm)).trans Hb.out
      have hB_ := ho.below w HB.out HGA.out
      have Ha2 := Aside0.mk hx
      have HB2 := Aside0.mk hB_
      have Hb2 := Aside0.mk Hb_
      clear hB_ hx ho HB Ha Hb Hb_
      have Ha := Ha2
      have HB := HB2
      have Hb := Hb2
      clear HB2 Ha2 Hb2
      go_wp2_with (fail)
      go_ret
      exact ⟨rfl, HB.out⟩
end Go.Proofs.Ytpdbiooccnfkhaa.Walk
