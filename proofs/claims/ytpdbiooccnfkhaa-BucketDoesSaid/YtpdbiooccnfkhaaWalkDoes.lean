/- BucketDoes: the walk. -/
import Derived.Test.YtpdbiooccnfkhaaGoodBucketDoes
import Derived.Test.YtpdbiooccnfkhaaHandB
import Derived.LoopN
namespace Go.Proofs.Ytpdbiooccnfkhaa.Walk
open Go.RowKit Go.Proofs.YtpdbiooccnfkhaaW.PrintWords Go.Proofs.YtpdbiooccnfkhaaW.PrintLast Go.Proofs.YtpdbiooccnfkhaaW.PrintMore Go.Proofs.Ytpdbiooccnfkhaa.PBucketDoes Go.Proofs.Ytpdbiooccnfkhaa
set_option linter.unusedVariables false
set_option linter.unusedSimpArgs false
theorem at28 {w : World} {A : Option Addr} {n : Nat} {xs : List S28} (h : Kd.C k28 w A n xs) (i : Int) (h0 : 0 ≤ i) (h1 : i < n) : ∃ ad, ∃ x : S28, A = some ad ∧ ∀ W, Below w.heap.size w W → W.cell? (ad.add (i.toNat * 2)) = some (.bool x.f0) ∧ W.cell? ⟨(ad.add (i.toNat * 2)).block, (ad.add (i.toNat * 2)).off + 1, none⟩ = some (.int .i64 x.f1) := by
  obtain ⟨ad, c, e, _, hK, hc0⟩ := Kd.C_get h ⟨false, 0⟩ i h0 h1
  refine ⟨ad, xs.getD i.toNat ⟨false, 0⟩, e, fun W hb => ?_⟩
  obtain ⟨ad2, c2, e2, _, hK2, hc2⟩ := Kd.C_get (Kd.C_below h hb) ⟨false, 0⟩ i h0 h1
  obtain rfl : ad = ad2 := Option.some.inj (e.symm.trans e2)
  have hc : ∀ j u, c2[j]? = some u → W.cell? (ad.add (i.toNat * 2 + j)) = some u := hc2
  obtain rfl := k28_open hK2
  exact ⟨hc 0 _ rfl, by rw [← add_field _ _ 1 (by omega)]; exact hc 1 _ rfl⟩
set_option maxHeartbeats 4000000 in
set_option maxRecDepth 100000 in
theorem bucketDoes_walk (rate burst : Int) (A : Option Addr) (cap : Nat) (xs : List S28) (w : World) (hr : Kd.C k28 w A xs.length xs) (hc : xs.length ≤ cap) (G0 : (Lit.int .i64 rate).wf = true) (G1 : (Lit.int .i64 burst).wf = true) (G2 : xs.length * 16 ≤ 140737488351232 ∧ ∀ y ∈ xs, good28 y) :
    Calls Try.prog 5 #[.int .i64 rate, .int .i64 burst, .slice A xs.length cap] w fun e w' => e = .returned (.bool true) ∧ Below w.heap.size w w' := by
  have HB0 : Aside0 (Below w.heap.size w w) := ⟨Below.refl _ _⟩
  obtain ⟨R, hR⟩ : ∃ R, Hand.cutv rate = R := ⟨_, rfl⟩
  obtain ⟨B, hBu⟩ : ∃ B, Hand.cutv burst = B := ⟨_, rfl⟩
  have hRr := Hand.cutv_range rate
  have hBr := Hand.cutv_range burst
  rw [hR] at hRr
  rw [hBu] at hBr
  have HN : xs.length * 16 ≤ 140737488351232 := G2.1
  have HR := Aside0.mk hr
  have H1 := Aside0.mk hR
  have H2 := Aside0.mk hBu
  have HRr := Aside0.mk hRr
  have HBr := Aside0.mk hBr
  clear hr hR hBu hRr hBr G0 G1 G2 hc
  go_enter Try.func5, Try.ntmps5
  go_wp2_with (first | (go_at_call 7; (with_reducible refine (Hand.new_c rate burst _).mono ?_); rintro e w' ⟨rfl, hw⟩; rw [H1.out, H2.out] at hw; subst hw) | (go_at_call 11; (with_reducible refine (Hand.rnew_c rate burst _).mono ?_); rintro e w' ⟨rfl, hw⟩; rw [H1.out, H2.out] at hw; subst hw))
  go_loopw [9] (fun v9 wr => ∃ (i level taken not : Int), v9 = .int .i64 i ∧ Aside0 (0 ≤ i ∧ i ≤ 200) ∧ Aside0 (0 ≤ level ∧ level ≤ 1073741824) ∧ Aside0 (Hand.BK wr w.heap.size R B level taken not) ∧ Aside0 (Hand.RK wr (w.heap.size + 1) R B level taken not) ∧ Aside0 (Below w.heap.size w wr)) (fun v9 _ => (200 - intOf v9).toNat)
  case atStart =>
    refine ⟨0, B, 0, 0, rfl, ⟨by omega⟩, HBr, ⟨?_⟩, ⟨?_⟩, ⟨?_⟩⟩
    · repeat (first | exact blk_new _ _ | refine blk_drew ?_ | refine blk_alloc ?_ _)
    · repeat (first | exact Conv.blk_new_at _ _ (by go_simp) | refine blk_drew ?_)
    · repeat (first | exact Below.refl _ _ | apply below_alloc | apply below_drew1)
  case round =>
    obtain ⟨i, level, taken, not, rfl, hi, hl, Hb, Hr, HB⟩ := hrel
    have hi0 := hi.out.1
    by_cases c1 : i < (xs.length : Int)
    rotate_left
    · have C1 : decide (i < (xs.length : Int)) = false := decide_eq_false c1
      clear c1
      go_wp2_with (fail)
      go_ret
      exact ⟨rfl, HB.out⟩
    have C1 : decide (i < (xs.length : Int)) = true := decide_eq_true c1
    by_cases c2 : i < 200
    rotate_left
    · have C2 : decide (i < 200) = false := decide_eq_false c2
      clear c1 c2
      go_wp2_with (fail)
      go_ret
      exact ⟨rfl, HB.out⟩
    have C2 : decide (i < 200) = true := decide_eq_true c2
    obtain ⟨ad, x, hA, rows⟩ := at28 HR.out i hi0 c1
    subst hA
    have p0 := eq_true hi0
    have p1 := eq_true c1
    have hw1 : wrap64 (i + 1) = i + 1 := by unfold wrap64; omega
    have hw2 : IntKind.i64.wrap (i + 1) = i + 1 := (i64_w _).trans hw1
    have HI := Aside0.mk (And.intro hi0 c2)
    clear c1 c2 hi0 hi
    obtain ⟨e0, e1⟩ := rows wr HB.out
    obtain ⟨b, v⟩ := x
    dsimp only at rows e0 e1
    cases b
    · obtain ⟨⟨b, l', t', n'⟩, ht⟩ : ∃ p, Hand.takeS level taken not v = p := ⟨_, rfl⟩
      have hl' := Hand.takeS_level level taken not v hl.out
      rw [ht] at hl'
      dsimp only at hl'
      have HT := Aside0.mk ht
      have HL := Aside0.mk hl'
      clear ht hl'
      go_wp2_with (fail)
      refine Calm.wp_region_calm_then (fun w' => w'.cell? ⟨(ad.add (i.toNat * 2)).block, (ad.add (i.toNat * 2)).off + 1, none⟩ = some (.int .i64 v)) [0, 1, 2, 3, 4, 5, 7, 8, 9, 10, 11, 12] [6, 13, 14] (by kernel_rfl) (by kernel_rfl) (by first | exact e1 | go_simp) ?_
      clear e0 e1
      repeat (refine Calm.value_ (v := ?_) (a' := ?_) rfl rfl (by rfl) ?_ ?_ ?_; rotate_left; (· rintro w' hS'; go_simp; with_reducible rfl); rotate_left; (· simp only [Act.put, List.setIfInBounds_toArray, List.set_cons_zero, List.set_cons_succ, i64_w, i32_w]; rfl))
      refine Calm.nil_ ?_
      refine Calm.t_call rfl rfl Try.func9 (by kernel_rfl) rfl #[.pointer (some ⟨w.heap.size, 0, none⟩), .int .i64 v] (by rfl) rfl (by (try simp only [List.map_toArray, List.map_cons, List.map_nil]); rfl) ?_
      refine (Hand.take_c w.heap.size v R B level taken not hl.out.2 _ (blk_drew Hb.out) b l' t' n' HT.out).mono ?_
      rintro e w1 ⟨rfl, hx, ho⟩
      have hr_ : Hand.RK w1 (w.heap.size + 1) _ _ _ _ _ := (ho.other _ (by omega)).trans (blk_drew Hr.out)
      have hB_ := ho.below w (below_drew1 HB.out) (Nat.le_refl _)
      refine ⟨_, rfl, (rows w1 hB_).2, ?_⟩
      simp only [Act.put, List.setIfInBounds_toArray, List.set_cons_zero, List.set_cons_succ]
      refine Calm.t_call rfl rfl Try.func13 (by kernel_rfl) rfl #[.pointer (some ⟨w.heap.size + 1, 0, none⟩), .int .i64 v] (by rfl) rfl (by (try simp only [List.map_toArray, List.map_cons, List.map_nil]); rfl) ?_
      refine (Hand.rtake_c (w.heap.size + 1) v R B level taken not hl.out.2 _ hr_ b l' t' n' HT.out).mono ?_
      rintro e w2 ⟨rfl, hx2, ho2⟩
      have hb2 : Hand.BK w2 w.heap.size _ _ _ _ _ := (ho2.other _ (by omega)).trans hx
      have hB2 := ho2.below w hB_ (Nat.le_succ _)
      refine ⟨_, rfl, (rows w2 hB2).2, ?_⟩
      simp only [Act.put, List.setIfInBounds_toArray, List.set_cons_zero, List.set_cons_succ]
      have Hb' := Aside0.mk hb2
      have Hr' := Aside0.mk hx2
      have HB' := Aside0.mk hB2
      clear hr_ hB_ hx ho hx2 ho2 hb2 hB2 Hb Hr HB
      have Hb := Hb'
      have Hr := Hr'
      have HB := HB'
      clear Hb' Hr' HB'
      (refine Calm.t_value (v := ?_) (w1 := ?_) (a' := ?_) rfl rfl (by rfl) ?_ ?_ ?_ ?_; rotate_left; rotate_left; (· go_simp; first | (refine And.intro ?_ ?_ <;> rfl) | rfl); (· first | exact (rows _ HB.out).2 | trivial); rotate_left; (· simp only [Act.put, List.setIfInBounds_toArray, List.set_cons_zero, List.set_cons_succ, i64_w, i32_w]; rfl))
      refine Calm.t_nil ?_
      go_wp2_with (fail)
      go_at_call 14
      (with_reducible refine (Hand.counts_c w.heap.size R B l' t' n' _ Hb.out).mono ?_)
      rintro e w3 ⟨rfl, hw⟩
      have hb_ : Hand.BK w3 w.heap.size R B l' t' n' := by rw [← hw]; exact blk_drew Hb.out
      have hr_ : Hand.RK w3 (w.heap.size + 1) R B l' t' n' := by rw [← hw]; exact blk_drew Hr.out
      have hB_ : Below w.heap.size w w3 := by rw [← hw]; exact below_drew1 HB.out
      clear hw
      have Hb_ := Aside0.mk hb_
      have Hr_ := Aside0.mk hr_
      have HB_ := Aside0.mk hB_
      clear Hb Hr HB hb_ hr_ hB_
      have Hb := Hb_
      have Hr := Hr_
      have HB := HB_
      clear Hb_ Hr_ HB_
      go_wp2_with (fail)
      refine wp_region_still_lit (by kernel_rfl) (by kernel_rfl) ?_
      have hr_ := blk_drew Hr.out
      have r2 : w3.drew.cell? ⟨w.heap.size + 1, 2, none⟩ = some (.int .i64 l') := (blk_cell hr_ 2).trans rfl
      have r3 : w3.drew.cell? ⟨w.heap.size + 1, 3, none⟩ = some (.int .i64 t') := (blk_cell hr_ 3).trans rfl
      have r4 : w3.drew.cell? ⟨w.heap.size + 1, 4, none⟩ = some (.int .i64 n') := (blk_cell hr_ 4).trans rfl
      clear hr_
      change wpStill _ _ (World.drew _) (fun a' => _) _ _
      repeat (first | still_step | (still_call ((Hand.level_c w.heap.size R B l' t' n' _ (blk_drew Hb.out)).mono fun _ _ ⟨h1, h2⟩ => ⟨h1, h2.symm⟩)))
      refine wpStill_nil ?_
      clear r2 r3 r4
      go_wp2_with (fail)
      go_roundw
      case rel => exact ⟨i + 1, l', t', n', rfl, ⟨by have := HI.out; omega⟩, HL, ⟨blk_drew Hb.out⟩, ⟨blk_drew Hr.out⟩, ⟨below_drew1 HB.out⟩⟩
      case measure => have := HI.out; simp [intOf]; omega
    · go_wp2_with (first | (go_at_call 8; (with_reducible refine (Hand.tick_o w.heap.size v R B level taken not HRr.out hl.out _ Hb.out).mono ?_); rintro e w1 ⟨rfl, hx, ho⟩; have hb_ := hx; have hr_ : Hand.RK w1 (w.heap.size + 1) _ _ _ _ _ := (ho.other _ (by omega)).trans Hr.out; have hB_ := ho.below w HB.out (Nat.le_refl _); have Hb_ := Aside0.mk hb_; have Hr_ := Aside0.mk hr_; have HB_ := Aside0.mk hB_; clear Hb Hr HB hb_ hr_ hB_ hx ho; have Hb := Hb_; have Hr := Hr_; have HB := HB_; clear Hb_ Hr_ HB_; (try clear e0 e1); obtain ⟨e0, e1⟩ := rows w1 HB.out) | (go_at_call 12; (with_reducible refine (Hand.rtick_o (w.heap.size + 1) v R B level taken not HRr.out hl.out _ Hr.out).mono ?_); rintro e w2 ⟨rfl, hx, ho⟩; have hr_ := hx; have hb_ : Hand.BK w2 w.heap.size _ _ _ _ _ := (ho.other _ (by omega)).trans Hb.out; have hB_ := ho.below w HB.out (Nat.le_succ _); have Hb_ := Aside0.mk hb_; have Hr_ := Aside0.mk hr_; have HB_ := Aside0.mk hB_; clear Hb Hr HB hb_ hr_ hB_ hx ho; have Hb := Hb_; have Hr := Hr_; have HB := HB_; clear Hb_ Hr_ HB_; (try clear e0 e1); obtain ⟨e0, e1⟩ := rows w2 HB.out))
      have hmn := Hand.mn_range B level (R * Hand.cutv v) HBr.out hl.out (Int.mul_nonneg HRr.out.1 (Hand.cutv_range v).1)
      have HL := Aside0.mk hmn
      clear hmn
      generalize mn B (level + R * Hand.cutv v) = l' at *
      go_wp2_with (fail)
      go_at_call 14
      (with_reducible refine (Hand.counts_c w.heap.size R B l' taken not _ Hb.out).mono ?_)
      rintro e w3 ⟨rfl, hw⟩
      have hb_ : Hand.BK w3 w.heap.size R B l' taken not := by rw [← hw]; exact blk_drew Hb.out
      have hr_ : Hand.RK w3 (w.heap.size + 1) R B l' taken not := by rw [← hw]; exact blk_drew Hr.out
      have hB_ : Below w.heap.size w w3 := by rw [← hw]; exact below_drew1 HB.out
      clear hw
      have Hb_ := Aside0.mk hb_
      have Hr_ := Aside0.mk hr_
      have HB_ := Aside0.mk hB_
      clear Hb Hr HB hb_ hr_ hB_
      have Hb := Hb_
      have Hr := Hr_
      have HB := HB_
      clear Hb_ Hr_ HB_
      go_wp2_with (fail)
      refine wp_region_still_lit (by kernel_rfl) (by kernel_rfl) ?_
      have hr_ := blk_drew Hr.out
      have r2 : w3.drew.cell? ⟨w.heap.size + 1, 2, none⟩ = some (.int .i64 l') := (blk_cell hr_ 2).trans rfl
      have r3 : w3.drew.cell? ⟨w.heap.size + 1, 3, none⟩ = some (.int .i64 taken) := (blk_cell hr_ 3).trans rfl
      have r4 : w3.drew.cell? ⟨w.heap.size + 1, 4, none⟩ = some (.int .i64 not) := (blk_cell hr_ 4).trans rfl
      clear hr_
      change wpStill _ _ (World.drew _) (fun a' => _) _ _
      repeat (first | still_step | (still_call ((Hand.level_c w.heap.size R B l' taken not _ (blk_drew Hb.out)).mono fun _ _ ⟨h1, h2⟩ => ⟨h1, h2.symm⟩)))
      refine wpStill_nil ?_
      clear r2 r3 r4
      go_wp2_with (fail)
      go_roundw
      case rel => exact ⟨i + 1, l', taken, not, rfl, ⟨by have := HI.out; omega⟩, HL, ⟨blk_drew Hb.out⟩, ⟨blk_drew Hr.out⟩, ⟨below_drew1 HB.out⟩⟩
      case measure => have := HI.out; simp [intOf]; omega
end Go.Proofs.Ytpdbiooccnfkhaa.Walk
