/- CapsuleGrams: the walk. -/
import Derived.Test.YtiokdkhhffngiaaDoorFeedCapsuleGrams
namespace Go.Proofs.YtiokdkhhffngiaaDoor.Walk
open Go.RowKit Go.Proofs.YtiokdkhhffngiaaDoorW.PrintWords Go.Proofs.YtiokdkhhffngiaaDoorW.PrintLast Go.Proofs.YtiokdkhhffngiaaDoorW.PrintMore Go.Proofs.YtiokdkhhffngiaaDoor.PCapsuleGrams Go.Proofs.YtiokdkhhffngiaaDoor Go.Proofs.YtiokdkhhffngiaaDoor.Pure
set_option linter.unusedVariables false
set_option linter.unusedSimpArgs false
set_option maxHeartbeats 8000000 in
set_option maxRecDepth 100000 in
theorem capsuleGrams_walk (a0 a1 : Int) (a2 : ByteArray) (w : World) (hT : Kd.C (Kd.int .i64) w (some ⟨0, 0, none⟩) 4 ([1, 2, 4, 8] : List Int)) (G0 : (Lit.int .i64 a0).wf = true) (G1 : (Lit.int .i64 a1).wf = true) (G2 : a2.size ≤ 140737488351232) :
    Calls Tryd.prog 4 #[.int .i64 a0, .int .i64 a1, .string a2] w fun e w' => e = .returned (.bool true) ∧ Below w.heap.size w w' := by
  obtain ⟨kg, hgr⟩ := (gram_ev 4 0 (⟨#[120]⟩ : ByteArray) (by decide)).rounds
  rw [show gramv 4 0 (⟨#[120]⟩ : ByteArray) = ((⟨#[1, 0, 120]⟩ : ByteArray), 0) by decide +kernel] at hgr
  obtain ⟨k1, hk1⟩ := (gram_ev a0 a1 a2 G2).rounds
  have HT := Aside0.mk hT
  have HGR := Aside0.mk hgr
  have HB := Aside0.mk (Below.refl w.heap.size w)
  clear hT hgr G0 G1 G2
  unfold gramv at hk1
  by_cases hok : gramOk a0 a1
  rotate_left
  · rw [if_neg hok] at hk1
    have HK1 := Aside0.mk hk1
    clear hk1
    have ways : decide (a0 < 0) = true ∨ (decide (a0 < 0) = false ∧ decide (a0 > 28) = true ∧ decide (28 < a0) = true) ∨ (decide (a0 < 0) = false ∧ decide (a0 > 28) = false ∧ decide (28 < a0) = false ∧ (Int.tmod a0 4 != 0) = true) ∨ (decide (a0 < 0) = false ∧ decide (a0 > 28) = false ∧ decide (28 < a0) = false ∧ (Int.tmod a0 4 != 0) = false ∧ decide (a1 < 0) = true) ∨
        (decide (a0 < 0) = false ∧ decide (a0 > 28) = false ∧ decide (28 < a0) = false ∧ (Int.tmod a0 4 != 0) = false ∧ decide (a1 < 0) = false ∧ decide (a1 > 4611686018427387903) = true ∧ decide (4611686018427387903 < a1) = true) := by
      simp only [decide_eq_true_eq, decide_eq_false_iff_not, bne_iff_ne, bne_eq_false_iff_eq]
      unfold gramOk at hok
      omega
    clear hok
    rcases ways with b1 | ⟨b1, b2, b3⟩ | ⟨b1, b2, b3, b4⟩ | ⟨b1, b2, b3, b4, b5⟩ | ⟨b1, b2, b3, b4, b5, b6, b7⟩
    all_goals
      go_enter Tryd.func4, Tryd.ntmps4
      go_wp2_with (first | (go_at_call 7; (with_reducible refine (Feed.works_c _ (Kd.C_below HT.out HB.out) kg HGR.out).mono ?_); rintro e w1 ⟨rfl, hb⟩; have n0_ := Aside0.mk (below_step HB.out hb); clear HB hb; have HB := n0_; clear n0_) | (go_at_call 11; (with_reducible refine (capsule_Gram.calls k1 a0 a1 a2 _ _ _ (Kd.C_below HT.out HB.out) HK1.out).mono ?_); rintro e w2 ⟨rfl, hb⟩; have n0_ := Aside0.mk (below_step HB.out hb); clear HB hb; have HB := n0_; clear n0_))
      go_ret
      exact ⟨by first | rfl | (simp; done), HB.out⟩
  rw [if_pos hok] at hk1
  obtain ⟨o1, o2, o3⟩ := open_grams a0 a1 a2 hok
  generalize vput (a0 / 4) ++ vput a1 ++ a2 = s at hk1 o1 o2 o3
  have HK1 := Aside0.mk hk1
  obtain ⟨k2, hk2⟩ := (open_ev s).rounds
  rw [o1] at hk2
  obtain ⟨k3, hk3⟩ := (open_ev (s.extract 0 1)).rounds
  obtain ⟨⟨x1, x2, x3, x4⟩, hx⟩ : ∃ x, openv (s.extract 0 1) = x := ⟨_, rfl⟩
  rw [hx] at hk3 o2
  obtain rfl : x4 = 1 := o2
  obtain ⟨k4, hk4⟩ := (open_ev (⟨#[]⟩ : ByteArray)).rounds
  have o4 := open_empty
  obtain ⟨⟨y1, y2, y3, y4⟩, hy⟩ : ∃ x, openv (⟨#[]⟩ : ByteArray) = x := ⟨_, rfl⟩
  rw [hy] at hk4 o4
  obtain rfl : y4 = 1 := o4
  have HK2 := Aside0.mk hk2
  have HK3 := Aside0.mk hk3
  have HK4 := Aside0.mk hk4
  have c1 : decide ((s.size : Int) < 2) = false := decide_eq_false (by omega)
  have c2 : (1 ≤ s.size) = True := eq_true (by omega)
  have c3 : ((1 : Int) ≤ (s.size : Int)) = True := eq_true (by omega)
  have c4 : decide (s.size < 2) = false := decide_eq_false (by omega)
  clear hok hk1 hk2 hk3 hk4 o1 o3 hx hy
  go_enter Tryd.func4, Tryd.ntmps4
  go_wp2_with (first | (go_at_call 7; (with_reducible refine (Feed.works_c _ (Kd.C_below HT.out HB.out) kg HGR.out).mono ?_); rintro e w1 ⟨rfl, hb⟩; have n0_ := Aside0.mk (below_step HB.out hb); clear HB hb; have HB := n0_; clear n0_) | (go_at_call 11; (with_reducible refine (capsule_Gram.calls k1 a0 a1 a2 _ _ _ (Kd.C_below HT.out HB.out) HK1.out).mono ?_); rintro e w2 ⟨rfl, hb⟩; have n0_ := Aside0.mk (below_step HB.out hb); clear HB hb; have HB := n0_; clear n0_) | (go_at_call 12; (with_reducible refine (capsule_Open.calls k2 s a0 a1 a2 0 _ (Kd.C_below HT.out HB.out) HK2.out).mono ?_); rintro e w3 ⟨rfl, nd, hnd⟩; have n0_ := Aside0.mk (show Below w.heap.size w w3 from (by rw [hnd]; exact pw_below_drewN HB.out nd)); clear HB hnd; have HB := n0_; clear n0_) | (go_at_call 12; (with_reducible refine (capsule_Open.calls k3 (s.extract 0 1) x1 x2 x3 1 _ (Kd.C_below HT.out HB.out) HK3.out).mono ?_); rintro e w4 ⟨rfl, nd, hnd⟩; have n0_ := Aside0.mk (show Below w.heap.size w w4 from (by rw [hnd]; exact pw_below_drewN HB.out nd)); clear HB hnd; have HB := n0_; clear n0_) | (go_at_call 12; (with_reducible refine (capsule_Open.calls k4 (⟨#[]⟩ : ByteArray) y1 y2 y3 1 _ (Kd.C_below HT.out HB.out) HK4.out).mono ?_); rintro e w5 ⟨rfl, nd, hnd⟩; have n0_ := Aside0.mk (show Below w.heap.size w w5 from (by rw [hnd]; exact pw_below_drewN HB.out nd)); clear HB hnd; have HB := n0_; clear n0_))
  go_ret
  exact ⟨by first | rfl | (simp; done), HB.out⟩
end Go.Proofs.YtiokdkhhffngiaaDoor.Walk
