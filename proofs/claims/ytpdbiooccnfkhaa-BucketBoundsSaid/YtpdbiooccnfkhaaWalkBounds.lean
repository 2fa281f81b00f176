/- BucketBounds: the walk. -/
import Derived.Test.YtpdbiooccnfkhaaGoodBucketBounds
import Derived.Test.YtpdbiooccnfkhaaWorks
import Derived.LoopN
namespace Go.Proofs.Ytpdbiooccnfkhaa.Walk
open Go.RowKit Go.Proofs.YtpdbiooccnfkhaaW.PrintWords Go.Proofs.YtpdbiooccnfkhaaW.PrintLast Go.Proofs.YtpdbiooccnfkhaaW.PrintMore Go.Proofs.Ytpdbiooccnfkhaa.PBucketBounds Go.Proofs.Ytpdbiooccnfkhaa
set_option linter.unusedVariables false
set_option linter.unusedSimpArgs false
theorem at28 {w : World} {A : Option Addr} {n : Nat} {xs : List S28} (h : Kd.C k28 w A n xs) (i : Int) (h0 : 0 ≤ i) (h1 : i < n) : ∃ ad, ∃ x : S28, A = some ad ∧ ∀ W, Below w.heap.size w W → W.cell? (ad.add (i.toNat * 2)) = some (.bool x.f0) ∧ W.cell? ⟨(ad.add (i.toNat * 2)).block, (ad.add (i.toNat * 2)).off + 1, none⟩ = some (.int .i64 x.f1) := by
  obtain ⟨ad, c, e, _, hK, hc0⟩ := Kd.C_get h ⟨false, 0⟩ i h0 h1
  refine ⟨ad, xs.getD i.toNat ⟨false, 0⟩, e, fun W hb => ?_⟩
  obtain ⟨ad2, c2, e2, _, hK2, hc2⟩ := Kd.C_get (Kd.C_below h hb) ⟨false, 0⟩ i h0 h1
  obtain rfl : ad = ad2 := Option.some.inj (e.symm.trans e2)
  have hc : ∀ j u, c2[j]? = some u → W.cell? (ad.add (i.toNat * 2 + j)) = some u := hc2
  obtain rfl := k28_open hK2
  exact ⟨hc 0 _ rfl, by rw [← add_field _ _ 1 (by omega)]; exact hc 1 _ rfl⟩
set_option maxHeartbeats 8000000 in
set_option maxRecDepth 100000 in
theorem bucketBounds_walk (rate burst : Int) (A : Option Addr) (cap : Nat) (xs : List S28) (w : World) (hr : Kd.C k28 w A xs.length xs) (hc : xs.length ≤ cap) (G0 : (Lit.int .i64 rate).wf = true) (G1 : (Lit.int .i64 burst).wf = true) (G2 : xs.length * 16 ≤ 140737488351232 ∧ ∀ y ∈ xs, good28 y) :
    Calls Try.prog 3 #[.int .i64 rate, .int .i64 burst, .slice A xs.length cap] w fun e w' => e = .returned (.bool true) ∧ Below w.heap.size w w' := by
  obtain ⟨R, hR⟩ : ∃ N, IntKind.u64.wrap rate % 5000 = N := ⟨_, rfl⟩
  have hRr : 0 ≤ R ∧ R < 5000 := by omega
  have hRu := (Hand.u64_range rate).1
  have hRt : Int.tmod (IntKind.u64.wrap rate) 5000 = R := by rw [Int.tmod_eq_emod_of_nonneg hRu]; exact hR
  have hRw : wrap64 R = R := by unfold wrap64; omega
  have hRx : IntKind.i64.wrap R = R := (i64_w _).trans hRw
  have hRR := Aside0.mk hRr
  clear hRr hRu
  obtain ⟨Bu, hB⟩ : ∃ N, IntKind.u64.wrap burst % 5000 = N := ⟨_, rfl⟩
  have hBr : 0 ≤ Bu ∧ Bu < 5000 := by omega
  have hBu := (Hand.u64_range burst).1
  have hBt : Int.tmod (IntKind.u64.wrap burst) 5000 = Bu := by rw [Int.tmod_eq_emod_of_nonneg hBu]; exact hB
  have hBw : wrap64 Bu = Bu := by unfold wrap64; omega
  have hBx : IntKind.i64.wrap Bu = Bu := (i64_w _).trans hBw
  have hBR := Aside0.mk hBr
  clear hBr hBu
  have hcR : Hand.cutv R = R := by have := hRR.out; unfold Hand.cutv; rw [if_neg (by omega), if_neg (by omega)]
  have hcB : Hand.cutv Bu = Bu := by have := hBR.out; unfold Hand.cutv; rw [if_neg (by omega), if_neg (by omega)]
  have HcR := Aside0.mk hcR
  have HcB := Aside0.mk hcB
  clear hcR hcB
  have HN : xs.length * 16 ≤ 140737488351232 := G2.1
  have HR := Aside0.mk hr
  clear hr G0 G1 G2 hc
  have HB0 : Aside0 (Below w.heap.size w w) := ⟨Below.refl _ _⟩
  go_enter Try.func3, Try.ntmps3
  go_wp2_with (fail)
  go_at_call 6
  (with_reducible refine (works_c _).mono ?_)
  rintro e w0 ⟨rfl, hb⟩
  have HB1 := Aside0.mk hb
  clear hb
  go_wp2_with (fail)
  go_at_call 7
  (with_reducible refine (Hand.new_c R Bu _).mono ?_)
  rintro e w1 ⟨rfl, hw⟩
  rw [HcR.out, HcB.out] at hw
  have hb : Hand.BK w1 w0.heap.size R Bu Bu 0 0 := by rw [← hw]; exact blk_drew (blk_new _ _)
  have hB_ : Below w.heap.size w w1 := by rw [← hw]; exact below_drew1 (below_alloc HB1.out _)
  have Hb := Aside0.mk hb
  have HB := Aside0.mk hB_
  have HG := Aside0.mk (below_size HB1.out)
  clear hw hb hB_ HB1
  generalize w0.heap.size = g at *
  go_wp2_with (fail)
  go_loopw [8, 9, 10] (fun v8 v9 v10 wr => ∃ (ticks taken i level tk nt : Int), v8 = .int .i64 ticks ∧ v9 = .int .i64 taken ∧ v10 = .int .i64 i ∧ Aside0 (0 ≤ i ∧ i ≤ 200 ∧ 0 ≤ ticks ∧ ticks ≤ 6000 * i ∧ 0 ≤ taken ∧ 0 ≤ level ∧ level ≤ Bu) ∧ Aside0 (0 ≤ R * ticks ∧ R * ticks ≤ 5000 * ticks ∧ level + taken ≤ Bu + R * ticks) ∧ Aside0 (Hand.BK wr g R Bu level tk nt) ∧ Aside0 (Below w.heap.size w wr)) (fun _ _ v10 _ => (200 - intOf v10).toNat)
  case atStart => exact ⟨0, 0, 0, Bu, 0, 0, rfl, rfl, rfl, ⟨by have := hBR.out; omega⟩, ⟨by rw [Int.mul_zero]; omega⟩, Hb, HB⟩
  case round =>
    clear Hb HB
    obtain ⟨ticks, taken, i, level, tk, nt, rfl, rfl, rfl, H1, H2, Hb, HB⟩ := hrel
    have hi0 := H1.out.1
    by_cases c : i < (xs.length : Int) ∧ i < 200
    rotate_left
    · have q : decide (i < (xs.length : Int)) = false ∨ (decide (i < (xs.length : Int)) = true ∧ decide (i < 200) = false) := by
        by_cases q1 : i < (xs.length : Int)
        · exact Or.inr ⟨decide_eq_true q1, decide_eq_false (fun h => c ⟨q1, h⟩)⟩
        · exact Or.inl (decide_eq_false q1)
      clear c hi0
      have fin : R = 0 ∨ ¬ R = 0 := Classical.em _
      have hR0 := hRR.out
      have hB0 := hBR.out
      have h1 := H1.out
      have HRX := Aside0.mk (And.intro hR0.1 (show R ≤ 1073741824 by omega))
      have HLX := Aside0.mk (And.intro h1.2.2.2.2.2.1 (show level ≤ 1073741824 by omega))
      have HFU : Aside0 (¬ R = 0 → mn Bu (level + R * Hand.cutv Bu) = Bu) := ⟨fun hr0 => by
        rw [HcB.out]
        have := Int.mul_le_mul (show 1 ≤ R by omega) (Int.le_refl Bu) hB0.1 (by omega)
        unfold mn
        rw [if_neg (by omega)]⟩
      clear hR0 h1
      rcases q with q | ⟨q, q2⟩
      all_goals
        rcases fin with f | f
        · have F1 : (R == 0) = true := beq_iff_eq.mpr f
          clear f
          go_wp2_with (fail)
          go_ret
          exact ⟨rfl, HB.out⟩
        · have F1 : (R == 0) = false := beq_eq_false_iff_ne.mpr f
          have HFV := Aside0.mk (HFU.out f)
          clear f
          go_wp2_with (fail)
          go_at_call 8
          (with_reducible refine (Hand.tick_o g Bu R Bu level tk nt HRX.out HLX.out _ Hb.out).mono ?_)
          rintro e w_ ⟨rfl, hx, ho⟩
          rw [show mn Bu (level + R * Hand.cutv Bu) = Bu from HFV.out] at hx
          have hB_ := ho.below w HB.out HG.out
          have Hb2 := Aside0.mk hx
          have HB2 := Aside0.mk hB_
          clear hB_ hx ho HB Hb 
          have Hb := Hb2
          have HB := HB2
          clear HB2 Hb2 
          go_wp2_with (fail)
          go_at_call 10
          (with_reducible refine (Hand.level_c g R Bu Bu tk nt _ Hb.out).mono ?_)
          rintro e w_ ⟨rfl, rfl⟩
          go_wp2_with (fail)
          go_at_call 9
          (with_reducible refine (Hand.take_c g Bu R Bu Bu tk nt (by have := hBR.out; omega) _ Hb.out true (Bu - Bu) (wrap64 (tk + Bu)) nt (by have := hBR.out; unfold Hand.takeS; rw [if_neg (by omega), if_neg (by omega)])).mono ?_)
          rintro e w_ ⟨rfl, hx, ho⟩
          have hB_ := ho.below w HB.out HG.out
          have Hb2 := Aside0.mk hx
          have HB2 := Aside0.mk hB_
          clear hB_ hx ho HB Hb 
          have Hb := Hb2
          have HB := HB2
          clear HB2 Hb2 
          by_cases z : Bu = 0
          · have Z1 : (Bu == 0) = true := beq_iff_eq.mpr z
            have HZ := Aside0.mk z
            clear z
            go_wp2_with (fail)
            go_at_call 9
            (with_reducible refine (Hand.take_c g Bu R Bu (Bu - Bu) (wrap64 (tk + Bu)) nt (by omega) _ Hb.out true (Bu - Bu - Bu) (wrap64 (wrap64 (tk + Bu) + Bu)) nt (by have := HZ.out; unfold Hand.takeS; rw [if_neg (by omega), if_neg (by omega)])).mono ?_)
            rintro e w_ ⟨rfl, hx, ho⟩
            have hB_ := ho.below w HB.out HG.out
            have Hb2 := Aside0.mk hx
            have HB2 := Aside0.mk hB_
            clear hB_ hx ho HB Hb 
            have Hb := Hb2
            have HB := HB2
            clear HB2 Hb2 
            go_wp2_with (fail)
            go_ret
            exact ⟨rfl, HB.out⟩
          · have Z1 : (Bu == 0) = false := beq_eq_false_iff_ne.mpr z
            have HZ := Aside0.mk z
            clear z
            go_wp2_with (fail)
            go_at_call 9
            (with_reducible refine (Hand.take_c g Bu R Bu (Bu - Bu) (wrap64 (tk + Bu)) nt (by omega) _ Hb.out false (Bu - Bu) (wrap64 (tk + Bu)) (wrap64 (nt + Bu)) (by have := HZ.out; have := hBR.out; unfold Hand.takeS; rw [if_neg (by omega), if_pos (by omega)])).mono ?_)
            rintro e w_ ⟨rfl, hx, ho⟩
            have hB_ := ho.below w HB.out HG.out
            have Hb2 := Aside0.mk hx
            have HB2 := Aside0.mk hB_
            clear hB_ hx ho HB Hb 
            have Hb := Hb2
            have HB := HB2
            clear HB2 Hb2 
            go_wp2_with (fail)
            go_ret
            exact ⟨rfl, HB.out⟩
    obtain ⟨c1, c2⟩ := c
    have C1 : decide (i < (xs.length : Int)) = true := decide_eq_true c1
    have C2 : decide (i < 200) = true := decide_eq_true c2
    obtain ⟨ad, x, hA, rows⟩ := at28 HR.out i hi0 c1
    subst hA
    have p0 := eq_true hi0
    have p1 := eq_true c1
    have hw1 : wrap64 (i + 1) = i + 1 := by unfold wrap64; omega
    have hw2 : IntKind.i64.wrap (i + 1) = i + 1 := (i64_w _).trans hw1
    have HI := Aside0.mk (And.intro hi0 c2)
    clear c1 c2 hi0
    obtain ⟨e0, e1⟩ := rows wr HB.out
    obtain ⟨b, v⟩ := x
    dsimp only at rows e0 e1
    obtain ⟨n, hn⟩ : ∃ N, IntKind.u64.wrap v % 6000 = N := ⟨_, rfl⟩
    have hnr : 0 ≤ n ∧ n < 6000 := by omega
    have hnu := (Hand.u64_range v).1
    have hnt : Int.tmod (IntKind.u64.wrap v) 6000 = n := by rw [Int.tmod_eq_emod_of_nonneg hnu]; exact hn
    have hnw : wrap64 n = n := by unfold wrap64; omega
    have hnx : IntKind.i64.wrap n = n := (i64_w _).trans hnw
    have hnR := Aside0.mk hnr
    clear hnr hnu
    have hcn : Hand.cutv n = n := by have := hnR.out; unfold Hand.cutv; rw [if_neg (by omega), if_neg (by omega)]
    have Hcn := Aside0.mk hcn
    clear hcn
    have hR0 := hRR.out
    have hB0 := hBR.out
    have hn0 := hnR.out
    have h1 := H1.out
    have h2 := H2.out
    have hmn := Int.mul_nonneg hR0.1 hn0.1
    have hmn2 := Int.mul_le_mul (show R ≤ 5000 by omega) (Int.le_refl n) hn0.1 (by omega)
    have hadd : R * (ticks + n) = R * ticks + R * n := Int.mul_add _ _ _
    cases b
    · by_cases q : n ≤ level
      · have hs5 : wrap64 (taken + n) = taken + n := by unfold wrap64; omega
        have hs6 : IntKind.i64.wrap (taken + n) = taken + n := (i64_w _).trans hs5
        have K1 : Aside0 (0 ≤ ticks ∧ ticks ≤ 6000 * (i + 1) ∧ 0 ≤ taken + n ∧ 0 ≤ level - n ∧ level - n ≤ Bu ∧ i ≤ 200) := ⟨by omega⟩
        have K2 : Aside0 (0 ≤ R * ticks ∧ R * ticks ≤ 5000 * ticks ∧ level - n + (taken + n) ≤ Bu + R * ticks) := ⟨by omega⟩
        have HLX := Aside0.mk (show level ≤ 1073741824 by omega)
        have HTS : Aside0 (Hand.takeS level tk nt n = (true, level - n, wrap64 (tk + n), nt)) := ⟨by unfold Hand.takeS; rw [if_neg (by omega), if_neg (by omega)]⟩
        clear q hR0 hB0 hn0 h1 h2 hmn hmn2 hadd
        go_wp2_with (fail)
        go_at_call 9
        (with_reducible refine (Hand.take_c g n R Bu level tk nt (HLX.out) _ Hb.out true (level - n) (wrap64 (tk + n)) nt (HTS.out)).mono ?_)
        rintro e w_ ⟨rfl, hx, ho⟩
        have hB_ := ho.below w HB.out HG.out
        have Hb2 := Aside0.mk hx
        have HB2 := Aside0.mk hB_
        clear hB_ hx ho HB Hb 
        have Hb := Hb2
        have HB := HB2
        clear HB2 Hb2 
        clear e0 e1
        have hs1 : wrap64 (Bu + R * ticks) = Bu + R * ticks := by unfold wrap64; have := K2.out; have := K1.out; have := hBR.out; have := HI.out; omega
        have hs2 : IntKind.i64.wrap (Bu + R * ticks) = Bu + R * ticks := (i64_w _).trans hs1
        have hs3 : wrap64 (R * ticks) = R * ticks := by unfold wrap64; have := K2.out; have := K1.out; have := HI.out; omega
        have hs4 : IntKind.i64.wrap (R * ticks) = R * ticks := (i64_w _).trans hs3
        have d1 : decide ((taken + n) > Bu + R * ticks) = false := decide_eq_false (by have := K2.out; have := K1.out; omega)
        have d1b : decide (Bu + R * ticks < (taken + n)) = false := d1
        have d2 : decide ((level - n) < 0) = false := decide_eq_false (by have := K1.out; omega)
        have d3 : decide ((level - n) > Bu) = false := decide_eq_false (by have := K1.out; omega)
        have d3b : decide (Bu < (level - n)) = false := d3
        go_wp2_with (fail)
        go_at_call 10
        (with_reducible refine (Hand.level_c g R Bu (level - n) (wrap64 (tk + n)) nt _ Hb.out).mono ?_)
        rintro e w_ ⟨rfl, rfl⟩
        go_wp2_with (fail)
        go_at_call 10
        (with_reducible refine (Hand.level_c g R Bu (level - n) (wrap64 (tk + n)) nt _ Hb.out).mono ?_)
        rintro e w_ ⟨rfl, rfl⟩
        go_wp2_with (fail)
        go_roundw
        case rel => exact ⟨ticks, (taken + n), i + 1, (level - n), (wrap64 (tk + n)), nt, rfl, rfl, rfl, ⟨by have := K1.out; have := HI.out; omega⟩, K2, Hb, HB⟩
        case measure => have := HI.out; simp [intOf]; omega
      · have K1 : Aside0 (0 ≤ ticks ∧ ticks ≤ 6000 * (i + 1) ∧ 0 ≤ taken ∧ 0 ≤ level ∧ level ≤ Bu ∧ i ≤ 200) := ⟨by omega⟩
        have K2 : Aside0 (0 ≤ R * ticks ∧ R * ticks ≤ 5000 * ticks ∧ level + taken ≤ Bu + R * ticks) := ⟨by omega⟩
        have HLX := Aside0.mk (show level ≤ 1073741824 by omega)
        have HTS : Aside0 (Hand.takeS level tk nt n = (false, level, tk, wrap64 (nt + n))) := ⟨by unfold Hand.takeS; rw [if_neg (by omega), if_pos (by omega)]⟩
        clear q hR0 hB0 hn0 h1 h2 hmn hmn2 hadd
        go_wp2_with (fail)
        go_at_call 9
        (with_reducible refine (Hand.take_c g n R Bu level tk nt (HLX.out) _ Hb.out false level tk (wrap64 (nt + n)) (HTS.out)).mono ?_)
        rintro e w_ ⟨rfl, hx, ho⟩
        have hB_ := ho.below w HB.out HG.out
        have Hb2 := Aside0.mk hx
        have HB2 := Aside0.mk hB_
        clear hB_ hx ho HB Hb 
        have Hb := Hb2
        have HB := HB2
        clear HB2 Hb2 
        clear e0 e1
        have hs1 : wrap64 (Bu + R * ticks) = Bu + R * ticks := by unfold wrap64; have := K2.out; have := K1.out; have := hBR.out; have := HI.out; omega
        have hs2 : IntKind.i64.wrap (Bu + R * ticks) = Bu + R * ticks := (i64_w _).trans hs1
        have hs3 : wrap64 (R * ticks) = R * ticks := by unfold wrap64; have := K2.out; have := K1.out; have := HI.out; omega
        have hs4 : IntKind.i64.wrap (R * ticks) = R * ticks := (i64_w _).trans hs3
        have d1 : decide (taken > Bu + R * ticks) = false := decide_eq_false (by have := K2.out; have := K1.out; omega)
        have d1b : decide (Bu + R * ticks < taken) = false := d1
        have d2 : decide (level < 0) = false := decide_eq_false (by have := K1.out; omega)
        have d3 : decide (level > Bu) = false := decide_eq_false (by have := K1.out; omega)
        have d3b : decide (Bu < level) = false := d3
        go_wp2_with (fail)
        go_at_call 10
        (with_reducible refine (Hand.level_c g R Bu level tk (wrap64 (nt + n)) _ Hb.out).mono ?_)
        rintro e w_ ⟨rfl, rfl⟩
        go_wp2_with (fail)
        go_at_call 10
        (with_reducible refine (Hand.level_c g R Bu level tk (wrap64 (nt + n)) _ Hb.out).mono ?_)
        rintro e w_ ⟨rfl, rfl⟩
        go_wp2_with (fail)
        go_roundw
        case rel => exact ⟨ticks, taken, i + 1, level, tk, (wrap64 (nt + n)), rfl, rfl, rfl, ⟨by have := K1.out; have := HI.out; omega⟩, K2, Hb, HB⟩
        case measure => have := HI.out; simp [intOf]; omega
    · have hlv : 0 ≤ mn Bu (level + R * n) ∧ mn Bu (level + R * n) ≤ Bu ∧ mn Bu (level + R * n) ≤ level + R * n := by unfold mn; split <;> omega
      obtain ⟨l', hl'⟩ : ∃ l', mn Bu (level + R * n) = l' := ⟨_, rfl⟩
      rw [hl'] at hlv
      have hs5 : wrap64 (ticks + n) = ticks + n := by unfold wrap64; omega
      have hs6 : IntKind.i64.wrap (ticks + n) = ticks + n := (i64_w _).trans hs5
      have K1 : Aside0 (0 ≤ ticks + n ∧ ticks + n ≤ 6000 * (i + 1) ∧ 0 ≤ taken ∧ 0 ≤ l' ∧ l' ≤ Bu ∧ i ≤ 200) := ⟨by omega⟩
      have K2 : Aside0 (0 ≤ R * (ticks + n) ∧ R * (ticks + n) ≤ 5000 * (ticks + n) ∧ l' + taken ≤ Bu + R * (ticks + n)) := ⟨by rw [hadd]; omega⟩
      have HLV := Aside0.mk hl'
      have HRX := Aside0.mk (And.intro hR0.1 (show R ≤ 1073741824 by omega))
      have HLX := Aside0.mk (And.intro h1.2.2.2.2.2.1 (show level ≤ 1073741824 by omega))
      clear hlv hl' hR0 hB0 hn0 h1 h2 hmn hmn2 hadd
      go_wp2_with (fail)
      go_at_call 8
      (with_reducible refine (Hand.tick_o g n R Bu level tk nt HRX.out HLX.out _ Hb.out).mono ?_)
      rintro e w_ ⟨rfl, hx, ho⟩
      rw [show mn Bu (level + R * Hand.cutv n) = l' from (by rw [Hcn.out]; exact HLV.out)] at hx
      have hB_ := ho.below w HB.out HG.out
      have Hb2 := Aside0.mk hx
      have HB2 := Aside0.mk hB_
      clear hB_ hx ho HB Hb 
      have Hb := Hb2
      have HB := HB2
      clear HB2 Hb2 
      clear e0 e1
      have hs1 : wrap64 (Bu + R * (ticks + n)) = Bu + R * (ticks + n) := by unfold wrap64; have := K2.out; have := K1.out; have := hBR.out; have := HI.out; omega
      have hs2 : IntKind.i64.wrap (Bu + R * (ticks + n)) = Bu + R * (ticks + n) := (i64_w _).trans hs1
      have hs3 : wrap64 (R * (ticks + n)) = R * (ticks + n) := by unfold wrap64; have := K2.out; have := K1.out; have := HI.out; omega
      have hs4 : IntKind.i64.wrap (R * (ticks + n)) = R * (ticks + n) := (i64_w _).trans hs3
      have d1 : decide (taken > Bu + R * (ticks + n)) = false := decide_eq_false (by have := K2.out; have := K1.out; omega)
      have d1b : decide (Bu + R * (ticks + n) < taken) = false := d1
      have d2 : decide (l' < 0) = false := decide_eq_false (by have := K1.out; omega)
      have d3 : decide (l' > Bu) = false := decide_eq_false (by have := K1.out; omega)
      have d3b : decide (Bu < l') = false := d3
      go_wp2_with (fail)
      go_at_call 10
      (with_reducible refine (Hand.level_c g R Bu l' tk nt _ Hb.out).mono ?_)
      rintro e w_ ⟨rfl, rfl⟩
      go_wp2_with (fail)
      go_at_call 10
      (with_reducible refine (Hand.level_c g R Bu l' tk nt _ Hb.out).mono ?_)
      rintro e w_ ⟨rfl, rfl⟩
      go_wp2_with (fail)
      go_roundw
      case rel => exact ⟨(ticks + n), taken, i + 1, l', tk, nt, rfl, rfl, rfl, ⟨by have := K1.out; have := HI.out; omega⟩, K2, Hb, HB⟩
      case measure => have := HI.out; simp [intOf]; omega
end Go.Proofs.Ytpdbiooccnfkhaa.Walk
