/- Written by a program of this session (xprint.py, over the kit's print): Go functions told as Lean functions, each with the proof that a call answers just so. -/
import Derived.Test.YtbbjeifbcijkcaaDoorPVarintLongerx0
import Derived.Test.YtbbjeifbcijkcaaDoorPVarintLongerx1
namespace Go.Proofs.YtbbjeifbcijkcaaDoor.PVarintLonger
open Go.Proofs.YtbbjeifbcijkcaaDoor.Hand
open Go.RowKit Go.Proofs.YtbbjeifbcijkcaaDoorW.PrintWords Go.Proofs.YtbbjeifbcijkcaaDoorW.PrintLast Go.Proofs.YtbbjeifbcijkcaaDoorW.PrintMore
attribute [local go_sem] max2_int min2_int max_two min_two max_three min_three max_four min_four   -- for this text's walks alone
set_option linter.unusedVariables false
set_option linter.unusedSimpArgs false

/-! ### vizardref01_Bytes: function 18 -/
def vizardref01_Bytes.f : Nat → Int → Int → Option (ByteArray)
  | 0, _, _ => none
  | k + 1, a0, a1 => if a1 = 0 then (some (⟨#[]⟩ : ByteArray)) else ((vizardref01_Bytes.f k (wrap64 (Int.tdiv a0 256)) (wrap64 (a1 - 1))).bind fun t119 => ((some (([(Int.tmod a0 256) % 256] : List Int) : List Int)).bind fun y120 => (if t119.size + (strOfNums y120).size ≤ 9223372036854775807 then (some (t119 ++ (strOfNums y120))) else (none))))
theorem vizardref01_Bytes.mono_l : ∀ k, (∀ y0 y1, LeO (vizardref01_Bytes.f k y0 y1) (vizardref01_Bytes.f (k + 1) y0 y1))
  | 0 => fun _ _ r h => by simp [vizardref01_Bytes.f] at h
  | k + 1 => by
    have ih0 := vizardref01_Bytes.mono_l k
    · intro y0 y1
      unfold vizardref01_Bytes.f
      repeat' first
      | (with_reducible exact ih0 _ _)
      | (with_reducible exact LeO.refl _)
      | (with_reducible exact LeO.none _)
      | (with_reducible refine LeO.ite ?_ ?_)
      | (with_reducible refine LeO.bind ?_ (fun _ => ?_))
      | exact ih0 _ _
      | exact LeO.none _
      | refine LeO.ite ?_ ?_
      | refine LeO.bind ?_ (fun _ => ?_)
theorem vizardref01_Bytes.mono : ∀ a0 a1 k, LeO (vizardref01_Bytes.f k a0 a1) (vizardref01_Bytes.f (k + 1) a0 a1) := by
  intro a0 a1 k
  have ih0 := vizardref01_Bytes.mono_l k
  exact ih0 a0 a1
def vizardref01_Bytes.T3 : Bool × List (List Nat × List Nat) := (true, [([], []), ([0], [0]), ([], []), ([2], [2]), ([1, 3], [1, 3]), ([], []), ([5], [5]), ([6], [6]), ([7], [7]), ([8], [8]), ([4, 9], [4, 9]), ([10, 4, 0, 1, 2, 3, 4, 5, 6, 7, 8, 9, 10], [10])])
def vizardref01_Bytes.B3 : List Nat := [0, 1, 0, 4, 15, 0, 32, 96, 224, 480, 1023, 2047]
theorem vizardref01_Bytes.tab3 : rtab .any (opsOf Tryd.f18 3) = vizardref01_Bytes.T3 := by kernel_rfl
theorem vizardref01_Bytes.bits3 : waitsOk vizardref01_Bytes.T3.2 vizardref01_Bytes.B3 = true := by kernel_rfl
set_option maxHeartbeats 8000000 in
set_option maxRecDepth 100000 in
theorem vizardref01_Bytes.calls (k : Nat) : ∀ (a0 : Int) (a1 : Int) (r : ByteArray) (w : World) (h : vizardref01_Bytes.f k a0 a1 = some r),
    Calls Tryd.prog 18 #[.int .i64 a0, .int .i64 a1] w fun e w' => e = .returned (.string r) ∧ Below w.heap.size w w' := by
  induction k using Nat.strongRecOn with
  | _ k ih =>
  intro a0 a1 r w h
  cases k with
  | zero => exact absurd h (by simp [vizardref01_Bytes.f])
  | succ k =>
  simp only [vizardref01_Bytes.f] at h
  have HB := Aside0.mk (Below.refl w.heap.size w)
  have H : (if a1 = 0 then (some (⟨#[]⟩ : ByteArray)) else ((vizardref01_Bytes.f k (wrap64 (Int.tdiv a0 256)) (wrap64 (a1 - 1))).bind fun t119 => ((some (([(Int.tmod a0 256) % 256] : List Int) : List Int)).bind fun y120 => (if t119.size + (strOfNums y120).size ≤ 9223372036854775807 then (some (t119 ++ (strOfNums y120))) else (none))))) = some r := h
  clear h
  by_cases c3 : a1 = 0
  · rw [if_pos c3] at H
    have c3b0 : (a1 == 0) = true := beq_iff_eq.mpr c3
    have c3b1 : (a1 != 0) = false := bne_eq_false_iff_eq.mpr c3
    clear c3
    obtain rfl := Option.some.inj H
    go_enter Tryd.func18, Tryd.ntmps18
    go_wp2
    go_ret
    exact ⟨by first | rfl | (simp [errW_none, errW_some] <;> rfl) | (simp [*, errW_none, errW_some] <;> rfl), by repeat (first | (with_reducible first | exact HB.out | apply below_alloc | apply pw_below_drewN | apply below_drew1) | exact HB.out)⟩
  · rw [if_neg c3] at H
    have c3b0 : (a1 == 0) = false := beq_eq_false_iff_ne.mpr c3
    have c3b1 : (a1 != 0) = true := bne_iff_ne.mpr c3
    replace H := Option.bind_eq_some_iff.mp H
    obtain ⟨t119, A40, H⟩ := H
    replace H : ((some (([(Int.tmod a0 256) % 256] : List Int) : List Int)).bind fun y120 => (if t119.size + (strOfNums y120).size ≤ 9223372036854775807 then (some (t119 ++ (strOfNums y120))) else (none))) = some r := H
    have A4 := Aside0.mk A40
    clear A40
    obtain ⟨y120, hy120⟩ : ∃ y_ : List Int, y_ = (([(Int.tmod a0 256) % 256] : List Int)) := ⟨_, rfl⟩
    replace H : (if t119.size + (strOfNums y120).size ≤ 9223372036854775807 then (some (t119 ++ (strOfNums y120))) else (none)) = some r := by first | (rw [hy120]; with_reducible exact H) | (have H2_ := (Option.bind_some _ _).symm.trans H; rw [hy120]; with_reducible exact H2_) | (have H2_ := (Option.bind_some _ _).symm.trans H; with_reducible exact H2_) | with_reducible exact H | (rw [hy120]; exact H) | exact H
    have Ny120 := Aside0.mk hy120
    clear hy120
    by_cases c5 : t119.size + (strOfNums y120).size ≤ 9223372036854775807
    · rw [if_pos c5] at H
      have c5b0 := eq_true c5
      have c5b1 : decide (t119.size + (strOfNums y120).size ≤ 9223372036854775807) = true := decide_eq_true c5
      try have c5b2 : (9223372036854775807 < t119.size + (strOfNums y120).size) = False := eq_false (Nat.not_lt.2 c5)
      obtain rfl := Option.some.inj H
      go_enter Tryd.func18, Tryd.ntmps18
      try go_wp2
      have n0_ := Aside0.mk (below_drew1 HB.out)
      clear HB
      have HB := n0_
      clear n0_
      refine start_ (n := 12) (S := fun w' => True) (ds := []) #[false, false, false, false, false, false, false, false, false, false, false, false] (by kernel_rfl) rfl rfl trivial (fun hHeld => ?_); refine with_tabW vizardref01_Bytes.tab3 vizardref01_Bytes.bits3 (fun HT_ HW_ => ?_)
      generalize w.drew = w6 at HB hHeld ⊢
      refine pure_ (i := 0) (N := some 7) (v := ?_) (a' := ?_) #[true, false, false, false, false, false, false, false, false, false, false, false] rfl rfl (any_of HT_.out (by kernel_rfl)) (fun _ _ _ h => h) (Or.inl ⟨by rfl, ?_⟩) ?_ ?_
      rotate_left
      · intro w'
        go_simp
        with_reducible rfl
      rotate_left
      · simp only [Act.put, List.setIfInBounds_toArray, List.set_cons_zero, List.set_cons_succ, i64_w, i32_w]
        rfl
      refine pure_ (i := 1) (N := some 8) (v := ?_) (a' := ?_) #[true, true, false, false, false, false, false, false, false, false, false, false] rfl rfl (any_of HT_.out (by kernel_rfl)) (fun _ _ _ h => h) (Or.inl ⟨by rfl, ?_⟩) ?_ ?_
      rotate_left
      · intro w'
        go_simp
        with_reducible rfl
      rotate_left
      · simp only [Act.put, List.setIfInBounds_toArray, List.set_cons_zero, List.set_cons_succ, i64_w, i32_w]
        rfl
      refine pure_ (i := 2) (N := some 9) (v := ?_) (a' := ?_) #[true, true, true, false, false, false, false, false, false, false, false, false] rfl rfl (any_of HT_.out (by kernel_rfl)) (fun _ _ _ h => h) (Or.inl ⟨by rfl, ?_⟩) ?_ ?_
      rotate_left
      · intro w'
        go_simp
        with_reducible rfl
      rotate_left
      · simp only [Act.put, List.setIfInBounds_toArray, List.set_cons_zero, List.set_cons_succ, i64_w, i32_w]
        rfl
      refine pure_ (i := 3) (N := some 10) (v := ?_) (a' := ?_) #[true, true, true, true, false, false, false, false, false, false, false, false] rfl rfl (any_of HT_.out (by kernel_rfl)) (fun _ _ _ h => h) (Or.inl ⟨by rfl, ?_⟩) ?_ ?_
      rotate_left
      · intro w'
        go_simp
        with_reducible rfl
      rotate_left
      · simp only [Act.put, List.setIfInBounds_toArray, List.set_cons_zero, List.set_cons_succ, i64_w, i32_w]
        rfl
      refine pure_ (i := 5) (N := some 12) (v := ?_) (a' := ?_) #[true, true, true, true, false, true, false, false, false, false, false, false] rfl rfl (any_of HT_.out (by kernel_rfl)) (fun _ _ _ h => h) (Or.inl ⟨by rfl, ?_⟩) ?_ ?_
      rotate_left
      · intro w'
        go_simp
        with_reducible rfl
      rotate_left
      · simp only [Act.put, List.setIfInBounds_toArray, List.set_cons_zero, List.set_cons_succ, i64_w, i32_w]
        rfl
      refine pure_ (i := 6) (N := some 13) (v := ?_) (a' := ?_) #[true, true, true, true, false, true, true, false, false, false, false, false] rfl rfl (any_of HT_.out (by kernel_rfl)) (fun _ _ _ h => h) (Or.inl ⟨by rfl, ?_⟩) ?_ ?_
      rotate_left
      · intro w'
        go_simp
        with_reducible rfl
      rotate_left
      · simp only [Act.put, List.setIfInBounds_toArray, List.set_cons_zero, List.set_cons_succ, i64_w, i32_w]
        rfl
      refine pure_ (i := 7) (N := some 14) (v := ?_) (a' := ?_) #[true, true, true, true, false, true, true, true, false, false, false, false] rfl rfl (any_of HT_.out (by kernel_rfl)) (fun _ _ _ h => h) (Or.inl ⟨by rfl, ?_⟩) ?_ ?_
      rotate_left
      · intro w'
        go_simp
        with_reducible rfl
      rotate_left
      · simp only [Act.put, List.setIfInBounds_toArray, List.set_cons_zero, List.set_cons_succ, i64_w, i32_w]
        rfl
      refine join_ (σ := Value) 2 #[true, true, true, true, true, true, true, true, true, true, false, false] (fun s_ => [(11, .string t119), (15, s_), (16, .string (strOfNums y120))]) (fun s_ w' => (Kd.R (Kd.int .u8) 5 w' w.heap.size (fun _ => True) s_ y120) ∧ (Below w.heap.size w w')) ?_ ?_
      rotate_left
      · intro hCont
        refine two_ (i := 4) (j := 8) (Ni := some 11) (Nj := some 15) #[true, true, true, true, true, true, true, true, false, false, false, false] #[true, true, true, true, false, true, true, true, true, false, false, false] rfl rfl rfl rfl (two_of HT_.out (by kernel_rfl)) (by decide) (by decide) (fun K hK => ?_) (fun K hK => ?_)
        · skip
          refine goes_ Tryd.func18 (by kernel_rfl) rfl #[.int .i64 (wrap64 (Int.tdiv a0 256)), .int .i64 (wrap64 (a1 - 1))] (by rfl) rfl rfl (by (try simp only [List.map_toArray, List.map_cons, List.map_nil]); first | done | rfl | (simp only [List.length_drop, List.length_take]; rfl)) ?_
          with_reducible refine (ih k (by omega) (wrap64 (Int.tdiv a0 256)) (wrap64 (a1 - 1)) t119 _ A4.out).mono ?_
          rintro e w7 ⟨rfl, hb⟩
          refine ⟨_, rfl, ?_⟩
          have n0_ := Aside0.mk (below_step (by repeat (first | (with_reducible first | exact HB.out | apply below_alloc | apply pw_below_drewN | apply below_drew1) | exact HB.out)) hb)
          clear HB
          have HB := n0_
          clear n0_
          (try clear hb)
          (try clear hb2)
          (try clear hk)
          (try clear hi)
          refine hK.out _ _ trivial (fun hHeld => ?_)
          clear hK K
          refine norm_ (a' := ?_) ?_ ?_
          rotate_left
          · show Act.put _ (some 11) _ = _
            simp only [Act.put, List.setIfInBounds_toArray, List.set_cons_zero, List.set_cons_succ, i64_w, i32_w]
            rfl
          refine one_ (i := 8) (N := some 15) #[true, true, true, true, true, true, true, true, true, false, false, false] rfl rfl (one_of HT_.out (by kernel_rfl)) (by decide) (fun K hK => ?_)
          refine Kd.R_lit_step (Kd.int .u8) _ 5 ?hg (N := 15) ?hd (xs := ([(Int.tmod a0 256) % 256] : List Int)) (inner := [.int .u8 ((Int.tmod a0 256) % 256)]) (ok := fun _ => True) (okp := fun _ => True) ?hr ?hp (fun _ hk => hk) trivial (Below.refl _ _) (Nat.le_refl _) (by simp) ?_; (case hd => rfl); (case hg => rfl); (case hr => first | (go_simp; done) | (go_simp; rfl)); (case hp => exact (Reps.one (show Kd.M (Kd.int .u8) _ _ _ ((Int.tmod a0 256) % 256) [.int .u8 ((Int.tmod a0 256) % 256)] from rfl) (Reps.none _ _)))
          intro v121 w8 ho9 hb hg_ hnew_
          clear hg_ hnew_
          (first | rw [← Ny120.out] at ho9 | (simp only [Int.reduceToNat] at ho9; rw [← Ny120.out] at ho9))
          have n0_ := Aside0.mk (Kd.R_lower ho9 (below_size (by repeat (first | (with_reducible first | exact HB.out | apply below_alloc | apply pw_below_drewN | apply below_drew1) | exact HB.out))))
          have n1_ := Aside0.mk (below_step (by repeat (first | (with_reducible first | exact HB.out | apply below_alloc | apply pw_below_drewN | apply below_drew1) | exact HB.out)) hb)
          clear HB
          have HO122 := n0_
          have HB := n1_
          clear n0_ n1_
          clear hb ho9
          refine hK.out _ _ trivial (fun hHeld => ?_)
          clear hK K
          refine norm_ (a' := ?_) ?_ ?_
          rotate_left
          · show Act.put _ (some 15) _ = _
            simp only [Act.put, List.setIfInBounds_toArray, List.set_cons_zero, List.set_cons_succ, i64_w, i32_w]
            rfl
          refine one_ (i := 9) (N := some 16) #[true, true, true, true, true, true, true, true, true, true, false, false] rfl rfl (one_of HT_.out (by kernel_rfl)) (by decide) (fun K hK => ?_)
          have hcv10 := own_string (P := Tryd.prog) Tryd.underlying35 Tryd.underlying5 Tryd.underlying9 (Kd.own_of_R HO122.out)
          refine value_ (w1 := ?_) (v := ?_) (by rfl) rfl ?_ ?_
          rotate_left 2
          · go_simp
            constructor
            · rfl
            · rfl
          clear hcv10
          refine hK.out _ _ trivial (fun hHeld => ?_)
          clear hK K
          refine norm_ (a' := ?_) ?_ ?_
          rotate_left
          · show Act.put _ (some 16) _ = _
            simp only [Act.put, List.setIfInBounds_toArray, List.set_cons_zero, List.set_cons_succ, i64_w, i32_w]
            rfl
          exact norm_ (by simp only [putAll, Act.put, List.setIfInBounds_toArray, List.set_cons_zero, List.set_cons_succ]) (hCont (v121) _ ⟨(by (with_reducible repeat (first | apply Kd.R_alloc | apply Kd.R_drewN | apply Kd.R_drew)); exact HO122.out), (by repeat (first | (with_reducible first | exact HB.out | apply below_alloc | apply pw_below_drewN | apply below_drew1) | exact HB.out))⟩)
        · skip
          refine Kd.R_lit_step (Kd.int .u8) _ 5 ?hg (N := 15) ?hd (xs := ([(Int.tmod a0 256) % 256] : List Int)) (inner := [.int .u8 ((Int.tmod a0 256) % 256)]) (ok := fun _ => True) (okp := fun _ => True) ?hr ?hp (fun _ hk => hk) trivial (Below.refl _ _) (Nat.le_refl _) (by simp) ?_; (case hd => rfl); (case hg => rfl); (case hr => first | (go_simp; done) | (go_simp; rfl)); (case hp => exact (Reps.one (show Kd.M (Kd.int .u8) _ _ _ ((Int.tmod a0 256) % 256) [.int .u8 ((Int.tmod a0 256) % 256)] from rfl) (Reps.none _ _)))
          intro v121 w7 ho8 hb hg_ hnew_
          clear hg_ hnew_
          (first | rw [← Ny120.out] at ho8 | (simp only [Int.reduceToNat] at ho8; rw [← Ny120.out] at ho8))
          have n0_ := Aside0.mk (Kd.R_lower ho8 (below_size (by repeat (first | (with_reducible first | exact HB.out | apply below_alloc | apply pw_below_drewN | apply below_drew1) | exact HB.out))))
          have n1_ := Aside0.mk (below_step (by repeat (first | (with_reducible first | exact HB.out | apply below_alloc | apply pw_below_drewN | apply below_drew1) | exact HB.out)) hb)
          clear HB
          have HO122 := n0_
          have HB := n1_
          clear n0_ n1_
          clear hb ho8
          refine hK.out _ _ trivial (fun hHeld => ?_)
          clear hK K
          refine norm_ (a' := ?_) ?_ ?_
          rotate_left
          · show Act.put _ (some 15) _ = _
            simp only [Act.put, List.setIfInBounds_toArray, List.set_cons_zero, List.set_cons_succ, i64_w, i32_w]
            rfl
          refine two_ (i := 4) (j := 9) (Ni := some 11) (Nj := some 16) #[true, true, true, true, true, true, true, true, true, false, false, false] #[true, true, true, true, false, true, true, true, true, true, false, false] rfl rfl rfl rfl (two_of HT_.out (by kernel_rfl)) (by decide) (by decide) (fun K hK => ?_) (fun K hK => ?_)
          · skip
            refine goes_ Tryd.func18 (by kernel_rfl) rfl #[.int .i64 (wrap64 (Int.tdiv a0 256)), .int .i64 (wrap64 (a1 - 1))] (by rfl) rfl rfl (by (try simp only [List.map_toArray, List.map_cons, List.map_nil]); first | done | rfl | (simp only [List.length_drop, List.length_take]; rfl)) ?_
            with_reducible refine (ih k (by omega) (wrap64 (Int.tdiv a0 256)) (wrap64 (a1 - 1)) t119 _ A4.out).mono ?_
            rintro e w9 ⟨rfl, hb⟩
            refine ⟨_, rfl, ?_⟩
            have n0_ := Aside0.mk (Kd.R_below (by (with_reducible repeat (first | apply Kd.R_alloc | apply Kd.R_drewN | apply Kd.R_drew)); exact HO122.out) hb)
            have n1_ := Aside0.mk (below_step (by repeat (first | (with_reducible first | exact HB.out | apply below_alloc | apply pw_below_drewN | apply below_drew1) | exact HB.out)) hb)
            clear HO122
            clear HB
            have HO122 := n0_
            have HB := n1_
            clear n0_ n1_
            (try clear hb)
            (try clear hb2)
            (try clear hk)
            (try clear hi)
            refine hK.out _ _ trivial (fun hHeld => ?_)
            clear hK K
            refine norm_ (a' := ?_) ?_ ?_
            rotate_left
            · show Act.put _ (some 11) _ = _
              simp only [Act.put, List.setIfInBounds_toArray, List.set_cons_zero, List.set_cons_succ, i64_w, i32_w]
              rfl
            refine one_ (i := 9) (N := some 16) #[true, true, true, true, true, true, true, true, true, true, false, false] rfl rfl (one_of HT_.out (by kernel_rfl)) (by decide) (fun K hK => ?_)
            have hcv10 := own_string (P := Tryd.prog) Tryd.underlying35 Tryd.underlying5 Tryd.underlying9 (Kd.own_of_R HO122.out)
            refine value_ (w1 := ?_) (v := ?_) (by rfl) rfl ?_ ?_
            rotate_left 2
            · go_simp
              constructor
              · rfl
              · rfl
            clear hcv10
            refine hK.out _ _ trivial (fun hHeld => ?_)
            clear hK K
            refine norm_ (a' := ?_) ?_ ?_
            rotate_left
            · show Act.put _ (some 16) _ = _
              simp only [Act.put, List.setIfInBounds_toArray, List.set_cons_zero, List.set_cons_succ, i64_w, i32_w]
              rfl
            exact norm_ (by simp only [putAll, Act.put, List.setIfInBounds_toArray, List.set_cons_zero, List.set_cons_succ]) (hCont (v121) _ ⟨(by (with_reducible repeat (first | apply Kd.R_alloc | apply Kd.R_drewN | apply Kd.R_drew)); exact HO122.out), (by repeat (first | (with_reducible first | exact HB.out | apply below_alloc | apply pw_below_drewN | apply below_drew1) | exact HB.out))⟩)
          · skip
            have hcv9 := own_string (P := Tryd.prog) Tryd.underlying35 Tryd.underlying5 Tryd.underlying9 (Kd.own_of_R HO122.out)
            refine value_ (w1 := ?_) (v := ?_) (by rfl) rfl ?_ ?_
            rotate_left 2
            · go_simp
              constructor
              · rfl
              · rfl
            clear hcv9
            refine hK.out _ _ trivial (fun hHeld => ?_)
            clear hK K
            refine norm_ (a' := ?_) ?_ ?_
            rotate_left
            · show Act.put _ (some 16) _ = _
              simp only [Act.put, List.setIfInBounds_toArray, List.set_cons_zero, List.set_cons_succ, i64_w, i32_w]
              rfl
            refine one_ (i := 4) (N := some 11) #[true, true, true, true, true, true, true, true, true, true, false, false] rfl rfl (one_of HT_.out (by kernel_rfl)) (by decide) (fun K hK => ?_)
            refine goes_ Tryd.func18 (by kernel_rfl) rfl #[.int .i64 (wrap64 (Int.tdiv a0 256)), .int .i64 (wrap64 (a1 - 1))] (by rfl) rfl rfl (by (try simp only [List.map_toArray, List.map_cons, List.map_nil]); first | done | rfl | (simp only [List.length_drop, List.length_take]; rfl)) ?_
            with_reducible refine (ih k (by omega) (wrap64 (Int.tdiv a0 256)) (wrap64 (a1 - 1)) t119 _ A4.out).mono ?_
            rintro e w10 ⟨rfl, hb⟩
            refine ⟨_, rfl, ?_⟩
            have n0_ := Aside0.mk (Kd.R_below (by (with_reducible repeat (first | apply Kd.R_alloc | apply Kd.R_drewN | apply Kd.R_drew)); exact HO122.out) hb)
            have n1_ := Aside0.mk (below_step (by repeat (first | (with_reducible first | exact HB.out | apply below_alloc | apply pw_below_drewN | apply below_drew1) | exact HB.out)) hb)
            clear HO122
            clear HB
            have HO122 := n0_
            have HB := n1_
            clear n0_ n1_
            (try clear hb)
            (try clear hb2)
            (try clear hk)
            (try clear hi)
            refine hK.out _ _ trivial (fun hHeld => ?_)
            clear hK K
            refine norm_ (a' := ?_) ?_ ?_
            rotate_left
            · show Act.put _ (some 11) _ = _
              simp only [Act.put, List.setIfInBounds_toArray, List.set_cons_zero, List.set_cons_succ, i64_w, i32_w]
              rfl
            exact norm_ (by simp only [putAll, Act.put, List.setIfInBounds_toArray, List.set_cons_zero, List.set_cons_succ]) (hCont (v121) _ ⟨(by (with_reducible repeat (first | apply Kd.R_alloc | apply Kd.R_drewN | apply Kd.R_drew)); exact HO122.out), (by repeat (first | (with_reducible first | exact HB.out | apply below_alloc | apply pw_below_drewN | apply below_drew1) | exact HB.out))⟩)
      rintro v121 w11 ⟨h0_, h1_⟩
      have n0_ : Aside0 (Kd.R (Kd.int .u8) 5 w11 w.heap.size (fun _ => True) v121 y120) := ⟨h0_⟩
      have n1_ : Aside0 (Below w.heap.size w w11) := ⟨h1_⟩
      clear HB
      clear h0_ h1_
      have HO122 := n0_
      have HB := n1_
      clear n0_ n1_
      have hHeld := trivial
      refine norm_ (a' := ?_) ?_ ?_
      rotate_left
      · simp only [putAll, Act.put, List.setIfInBounds_toArray, List.set_cons_zero, List.set_cons_succ]
        rfl
      refine pure_ (i := 10) (N := some 17) (v := ?_) (a' := ?_) #[true, true, true, true, true, true, true, true, true, true, true, false] rfl rfl (any_of HT_.out (by kernel_rfl)) (fun _ _ _ h => h) (Or.inl ⟨by rfl, ?_⟩) ?_ ?_
      rotate_left
      · intro w'
        go_simp
        with_reducible rfl
      rotate_left
      · simp only [Act.put, List.setIfInBounds_toArray, List.set_cons_zero, List.set_cons_succ, i64_w, i32_w]
        rfl
      refine pure_ (i := 11) (N := some 4) (v := ?_) (a' := ?_) #[true, true, true, true, true, true, true, true, true, true, true, true] rfl rfl (any_of HT_.out (by kernel_rfl)) (fun _ _ _ h => h) (Or.inl ⟨by rfl, ?_⟩) ?_ ?_
      rotate_left
      · intro w'
        go_simp
        with_reducible rfl
      rotate_left
      · simp only [Act.put, List.setIfInBounds_toArray, List.set_cons_zero, List.set_cons_succ, i64_w, i32_w]
        rfl
      refine done_ (done_of HT_.out (by kernel_rfl)) ?_
      try go_wp2
      go_ret
      exact ⟨by first | rfl | (simp [errW_none, errW_some] <;> rfl) | (simp [*, errW_none, errW_some] <;> rfl), by repeat (first | (with_reducible first | exact HB.out | apply below_alloc | apply pw_below_drewN | apply below_drew1) | exact HB.out)⟩
    · rw [if_neg c5] at H
      exact absurd H (by simp)

/-! ### vizardlaw01_VarintLonger: by hand ('[]byte(s)' isn't printed) -/
def vizardlaw01_VarintLonger.len (j : Int) : Int := if j = 0 then 1 else if j = 1 then 2 else if j = 2 then 4 else 8
def vizardlaw01_VarintLonger.f (k : Nat) (a0 : Int) (a1 : Int) : Option Bool := (vizardlaw01_works.f k).bind fun b => if b = true then (if a0 < 0 then some true else if a0 > 4611686018427387903 then some true else (varint_Size.f a0).bind fun z =>
  if z > vizardlaw01_VarintLonger.len (IntKind.u64.wrap a1 % 4) then some true else (vizardref01_Bytes.f k a0 (vizardlaw01_VarintLonger.len (IntKind.u64.wrap a1 % 4))).bind fun s =>
  if 0 < s.size then (if s.size ≤ 9223372036854775807 then (varint_Get.f k (strOfNums ((bytesOf s).set 0 (((bytesOf s).getD 0 0 + 64 * (IntKind.u64.wrap a1 % 4) % 256) % 256)))).bind fun g =>
    some (if g.1 = a0 then (if g.2.1 = vizardlaw01_VarintLonger.len (IntKind.u64.wrap a1 % 4) then g.2.2 == 0 else false) else false) else none) else none) else some false
theorem vizardlaw01_VarintLonger.mono : ∀ a0 a1 k, LeO (vizardlaw01_VarintLonger.f k a0 a1) (vizardlaw01_VarintLonger.f (k + 1) a0 a1) := by
  intro a0 a1 k
  unfold vizardlaw01_VarintLonger.f
  refine LeO.bind (vizardlaw01_works.mono _) (fun b => LeO.ite (LeO.ite (LeO.refl _) (LeO.ite (LeO.refl _) (LeO.bind (LeO.refl _) (fun z => LeO.ite (LeO.refl _) (LeO.bind (vizardref01_Bytes.mono _ _ _) (fun s => LeO.ite (LeO.ite (LeO.bind (varint_Get.mono _ _) (fun g => LeO.refl _)) (LeO.refl _)) (LeO.refl _))))))) (LeO.refl _))
set_option maxHeartbeats 4000000 in
set_option maxRecDepth 100000 in
theorem vizardlaw01_VarintLonger.calls (k : Nat) (a0 a1 : Int) (r : Bool) (w : World) (hG0 : Kd.C (Kd.int .i64) w (some ⟨0, 0, none⟩) 4 ([1, 2, 4, 8] : List Int)) (h : vizardlaw01_VarintLonger.f k a0 a1 = some r) :
    Calls Tryd.prog 6 #[.int .i64 a0, .int .i64 a1] w fun e w' => e = .returned (.bool r) ∧ Below w.heap.size w w' := by
  unfold vizardlaw01_VarintLonger.f at h
  obtain ⟨b, hb, h⟩ := Option.bind_eq_some_iff.1 h
  have HW := Aside0.mk hb
  have HRG0 := Aside0.mk hG0
  clear hb hG0
  have HB : Aside0 (Below w.heap.size w w) := ⟨Below.refl _ _⟩
  cases b with
  | false =>
    rw [if_neg (by decide)] at h
    obtain rfl := Option.some.inj h
    go_enter Tryd.func6, Tryd.ntmps6
    go_wp2_with ((with_reducible refine gate_callee (f := 17) rfl ?_); refine goesL_ (some 10) rfl rfl Tryd.func17 (by kernel_rfl) rfl #[] rfl (by (try simp only [List.map_toArray, List.map_cons, List.map_nil]); first | done | rfl | (simp only [List.length_drop, List.length_take]; rfl)) ?_; (with_reducible refine (vizardlaw01_works.calls k false _ ?side0 HW.out).mono ?_); (case side0 => repeat (first | exact (Kd.C_below HRG0.out HB.out) | (with_reducible refine Kd.C_alloc ?_ _) | (with_reducible refine Kd.C_drewN ?_ _) | (with_reducible refine Kd.C_drew ?_))); rintro e w' ⟨rfl, hb⟩; refine ⟨_, rfl, ?_⟩; have n0_ := Aside0.mk (below_step (by repeat (first | (with_reducible first | exact HB.out | apply below_alloc | apply pw_below_drewN | apply below_drew1) | exact HB.out)) hb); clear HB; have HB := n0_; clear n0_; (try clear hb))
    go_ret
    exact ⟨rfl, by repeat (first | (with_reducible first | exact HB.out | apply below_alloc | apply pw_below_drewN | apply below_drew1) | exact HB.out)⟩
  | true =>
    rw [if_pos rfl] at h
    have hj4 : IntKind.u64.wrap a1 % 4 = 0 ∨ IntKind.u64.wrap a1 % 4 = 1 ∨ IntKind.u64.wrap a1 % 4 = 2 ∨ IntKind.u64.wrap a1 % 4 = 3 := by omega
    have hu0 : 0 ≤ IntKind.u64.wrap a1 := by
      simp only [IntKind.wrap, IntKind.bits, IntKind.signed]
      simp
      omega
    have hjt : Int.tmod (IntKind.u64.wrap a1) 4 = IntKind.u64.wrap a1 % 4 := Int.tmod_eq_emod_of_nonneg hu0
    unfold vizardlaw01_VarintLonger.len at h
    rcases hj4 with e | e | e | e
    · rw [e] at hjt h
      simp only [if_true, if_false, reduceIte, Int.reduceEq] at h
      clear e hu0
      by_cases n0 : a0 < 0
      · rw [if_pos n0] at h
        obtain rfl := Option.some.inj h
        have N0 : decide (a0 < 0) = true := decide_eq_true n0
        clear n0 h
        go_enter Tryd.func6, Tryd.ntmps6
        go_wp2_with ((with_reducible refine gate_callee (f := 17) rfl ?_); refine goesL_ (some 10) rfl rfl Tryd.func17 (by kernel_rfl) rfl #[] rfl (by (try simp only [List.map_toArray, List.map_cons, List.map_nil]); first | done | rfl | (simp only [List.length_drop, List.length_take]; rfl)) ?_; (with_reducible refine (vizardlaw01_works.calls k true _ ?side0 HW.out).mono ?_); (case side0 => repeat (first | exact (Kd.C_below HRG0.out HB.out) | (with_reducible refine Kd.C_alloc ?_ _) | (with_reducible refine Kd.C_drewN ?_ _) | (with_reducible refine Kd.C_drew ?_))); rintro e w' ⟨rfl, hb⟩; refine ⟨_, rfl, ?_⟩; have n0_ := Aside0.mk (below_step (by repeat (first | (with_reducible first | exact HB.out | apply below_alloc | apply pw_below_drewN | apply below_drew1) | exact HB.out)) hb); clear HB; have HB := n0_; clear n0_; (try clear hb))
        go_ret
        exact ⟨rfl, by repeat (first | (with_reducible first | exact HB.out | apply below_alloc | apply pw_below_drewN | apply below_drew1) | exact HB.out)⟩
      rw [if_neg n0] at h
      have N0 : decide (a0 < 0) = false := decide_eq_false n0
      clear n0
      by_cases n1 : a0 > 4611686018427387903
      · rw [if_pos n1] at h
        obtain rfl := Option.some.inj h
        have N1 : decide (a0 > 4611686018427387903) = true := decide_eq_true n1
        have N1' : decide (4611686018427387903 < a0) = true := decide_eq_true n1
        clear n1 h
        go_enter Tryd.func6, Tryd.ntmps6
        go_wp2_with ((with_reducible refine gate_callee (f := 17) rfl ?_); refine goesL_ (some 10) rfl rfl Tryd.func17 (by kernel_rfl) rfl #[] rfl (by (try simp only [List.map_toArray, List.map_cons, List.map_nil]); first | done | rfl | (simp only [List.length_drop, List.length_take]; rfl)) ?_; (with_reducible refine (vizardlaw01_works.calls k true _ ?side0 HW.out).mono ?_); (case side0 => repeat (first | exact (Kd.C_below HRG0.out HB.out) | (with_reducible refine Kd.C_alloc ?_ _) | (with_reducible refine Kd.C_drewN ?_ _) | (with_reducible refine Kd.C_drew ?_))); rintro e w' ⟨rfl, hb⟩; refine ⟨_, rfl, ?_⟩; have n0_ := Aside0.mk (below_step (by repeat (first | (with_reducible first | exact HB.out | apply below_alloc | apply pw_below_drewN | apply below_drew1) | exact HB.out)) hb); clear HB; have HB := n0_; clear n0_; (try clear hb))
        go_ret
        exact ⟨rfl, by repeat (first | (with_reducible first | exact HB.out | apply below_alloc | apply pw_below_drewN | apply below_drew1) | exact HB.out)⟩
      rw [if_neg n1] at h
      have N1 : decide (a0 > 4611686018427387903) = false := decide_eq_false n1
      have N1' : decide (4611686018427387903 < a0) = false := decide_eq_false n1
      clear n1
      obtain ⟨z, hz, h⟩ := Option.bind_eq_some_iff.1 h
      have HZ := Aside0.mk hz
      clear hz
      by_cases n2 : z > 1
      · rw [if_pos n2] at h
        obtain rfl := Option.some.inj h
        have N2 : decide (z > 1) = true := decide_eq_true n2
        have N2' : decide (1 < z) = true := decide_eq_true n2
        clear n2 h
        go_enter Tryd.func6, Tryd.ntmps6
        go_wp2_with (first | ((with_reducible refine gate_callee (f := 17) rfl ?_); refine goesL_ (some 10) rfl rfl Tryd.func17 (by kernel_rfl) rfl #[] rfl (by (try simp only [List.map_toArray, List.map_cons, List.map_nil]); first | done | rfl | (simp only [List.length_drop, List.length_take]; rfl)) ?_; (with_reducible refine (vizardlaw01_works.calls k true _ ?side0 HW.out).mono ?_); (case side0 => repeat (first | exact (Kd.C_below HRG0.out HB.out) | (with_reducible refine Kd.C_alloc ?_ _) | (with_reducible refine Kd.C_drewN ?_ _) | (with_reducible refine Kd.C_drew ?_))); rintro e w' ⟨rfl, hb⟩; refine ⟨_, rfl, ?_⟩; have n0_ := Aside0.mk (below_step (by repeat (first | (with_reducible first | exact HB.out | apply below_alloc | apply pw_below_drewN | apply below_drew1) | exact HB.out)) hb); clear HB; have HB := n0_; clear n0_; (try clear hb)) | (go_at_call 13; (with_reducible refine (varint_Size.calls a0 z _ ?side0 HZ.out).mono ?_); (case side0 => repeat (first | exact (Kd.C_below HRG0.out HB.out) | (with_reducible refine Kd.C_alloc ?_ _) | (with_reducible refine Kd.C_drewN ?_ _) | (with_reducible refine Kd.C_drew ?_))); rintro e w' ⟨rfl, ⟨nd, rfl⟩⟩))
        go_ret
        exact ⟨rfl, by repeat (first | (with_reducible first | exact HB.out | apply below_alloc | apply pw_below_drewN | apply below_drew1) | exact HB.out)⟩
      rw [if_neg n2] at h
      have N2 : decide (z > 1) = false := decide_eq_false n2
      have N2' : decide (1 < z) = false := decide_eq_false n2
      clear n2
      obtain ⟨s, hs, h⟩ := Option.bind_eq_some_iff.1 h
      have HS := Aside0.mk hs
      clear hs
      by_cases hpos : 0 < s.size
      · rw [if_pos hpos] at h
        by_cases hle : s.size ≤ 9223372036854775807
        · rw [if_pos hle] at h
          have hlen : (bytesOf s).length = s.size := bytesOf_length s
          have L := Aside0.mk hlen
          clear hlen
          generalize hx : (bytesOf s).getD 0 0 = x0 at h
          have HX := Aside0.mk hx
          clear hx
          obtain ⟨⟨g1, g2, g3⟩, hg, h⟩ := Option.bind_eq_some_iff.1 h
          have HGT : Aside0 (varint_Get.f k (strOfNums ((bytesOf s).set 0 (x0 % 256))) = some (g1, g2, g3)) := ⟨by simpa using hg⟩
          clear hg
          have h := Option.some.inj h
          dsimp only at h
          have Q : ((g1 == a0) = true ∧ (g2 == 1) = true ∧ r = (g3 == 0)) ∨ ((g1 == a0) = true ∧ (g2 == 1) = false ∧ r = false) ∨ ((g1 == a0) = false ∧ r = false) := by
            by_cases q1 : g1 = a0
            · by_cases q2 : g2 = 1
              · rw [if_pos q1, if_pos q2] at h
                exact Or.inl ⟨beq_iff_eq.mpr q1, beq_iff_eq.mpr q2, h.symm⟩
              · rw [if_pos q1, if_neg q2] at h
                exact Or.inr (Or.inl ⟨beq_iff_eq.mpr q1, beq_eq_false_iff_ne.mpr q2, h.symm⟩)
            · rw [if_neg q1] at h
              exact Or.inr (Or.inr ⟨beq_eq_false_iff_ne.mpr q1, h.symm⟩)
          clear h
          rcases Q with ⟨Q1, Q2, rfl⟩ | ⟨Q1, Q2, rfl⟩ | ⟨Q1, rfl⟩
          all_goals
            go_enter Tryd.func6, Tryd.ntmps6
            go_wp2_with (first | ((with_reducible refine gate_callee (f := 17) rfl ?_); refine goesL_ (some 10) rfl rfl Tryd.func17 (by kernel_rfl) rfl #[] rfl (by (try simp only [List.map_toArray, List.map_cons, List.map_nil]); first | done | rfl | (simp only [List.length_drop, List.length_take]; rfl)) ?_; (with_reducible refine (vizardlaw01_works.calls k true _ ?side0 HW.out).mono ?_); (case side0 => repeat (first | exact (Kd.C_below HRG0.out HB.out) | (with_reducible refine Kd.C_alloc ?_ _) | (with_reducible refine Kd.C_drewN ?_ _) | (with_reducible refine Kd.C_drew ?_))); rintro e w' ⟨rfl, hb⟩; refine ⟨_, rfl, ?_⟩; have n0_ := Aside0.mk (below_step (by repeat (first | (with_reducible first | exact HB.out | apply below_alloc | apply pw_below_drewN | apply below_drew1) | exact HB.out)) hb); clear HB; have HB := n0_; clear n0_; (try clear hb)) | (go_at_call 13; (with_reducible refine (varint_Size.calls a0 z _ ?side0 HZ.out).mono ?_); (case side0 => repeat (first | exact (Kd.C_below HRG0.out HB.out) | (with_reducible refine Kd.C_alloc ?_ _) | (with_reducible refine Kd.C_drewN ?_ _) | (with_reducible refine Kd.C_drew ?_))); rintro e w' ⟨rfl, ⟨nd, rfl⟩⟩) | ((with_reducible refine gate_callee (f := 18) rfl ?_); refine goesL_ (some 33) rfl rfl Tryd.func18 (by kernel_rfl) rfl #[.int .i64 a0, .int .i64 1] rfl (by (try simp only [List.map_toArray, List.map_cons, List.map_nil]); first | done | rfl | (simp only [List.length_drop, List.length_take]; rfl)) ?_; (with_reducible refine (vizardref01_Bytes.calls k a0 1 s _ HS.out).mono ?_);  rintro e w' ⟨rfl, hb⟩; refine ⟨_, rfl, ?_⟩; have n0_ := Aside0.mk (below_step (by repeat (first | (with_reducible first | exact HB.out | apply below_alloc | apply pw_below_drewN | apply below_drew1) | exact HB.out)) hb); clear HB; have HB := n0_; clear n0_; (try clear hb)) | ((with_reducible refine gate_dst (N := 34) rfl ?_); refine Conv.conv_arm rfl (N := 34) rfl 9 35 5 _ rfl s rfl Tryd.underlying9 Tryd.underlying35 Tryd.underlying5 ?_; intro g c w3 hrow hge hb3; have HR := Aside0.mk hrow; have HG := Aside0.mk (show w.heap.size ≤ g from Nat.le_trans HB.out.size hge); have n0_ := Aside0.mk (below_step (by repeat (first | (with_reducible first | exact HB.out | apply below_alloc | apply pw_below_drewN | apply below_drew1) | exact HB.out)) hb3); clear HB; have HB := n0_; clear n0_ hrow hge hb3; have hc0 := HR.out.cell 0 (by rw [L.out]; exact hpos); rw [HX.out] at hc0; have hf0 := HR.out.free 0 (by rw [L.out]; exact hpos); have hst := Conv.back_set (P := Tryd.prog) (c := c) (src := 35) (dst := 9) HR.out L.out hle 0 hpos Tryd.underlying35 Tryd.underlying5 Tryd.underlying9) | (go_at_call 9; refine (varint_Get.calls k _ g1 g2 g3 _ ?side0 ?hgt).mono ?_; (case side0 => exact Kd.C_below HRG0.out (below_set HB.out HG.out)); (case hgt => exact HGT.out); rintro e w' ⟨rfl, ⟨nd, rfl⟩⟩))
            go_ret
            exact ⟨by first | rfl | (simp; done) | (simp [*]; done), below_step (below_set HB.out HG.out) (pw_below_drewN (Below.refl _ _) _)⟩
        · rw [if_neg hle] at h
          exact absurd h (by simp)
      · rw [if_neg hpos] at h
        exact absurd h (by simp)
    · rw [e] at hjt h
      simp only [if_true, if_false, reduceIte, Int.reduceEq] at h
      clear e hu0
      by_cases n0 : a0 < 0
      · rw [if_pos n0] at h
        obtain rfl := Option.some.inj h
        have N0 : decide (a0 < 0) = true := decide_eq_true n0
        clear n0 h
        go_enter Tryd.func6, Tryd.ntmps6
        go_wp2_with ((with_reducible refine gate_callee (f := 17) rfl ?_); refine goesL_ (some 10) rfl rfl Tryd.func17 (by kernel_rfl) rfl #[] rfl (by (try simp only [List.map_toArray, List.map_cons, List.map_nil]); first | done | rfl | (simp only [List.length_drop, List.length_take]; rfl)) ?_; (with_reducible refine (vizardlaw01_works.calls k true _ ?side0 HW.out).mono ?_); (case side0 => repeat (first | exact (Kd.C_below HRG0.out HB.out) | (with_reducible refine Kd.C_alloc ?_ _) | (with_reducible refine Kd.C_drewN ?_ _) | (with_reducible refine Kd.C_drew ?_))); rintro e w' ⟨rfl, hb⟩; refine ⟨_, rfl, ?_⟩; have n0_ := Aside0.mk (below_step (by repeat (first | (with_reducible first | exact HB.out | apply below_alloc | apply pw_below_drewN | apply below_drew1) | exact HB.out)) hb); clear HB; have HB := n0_; clear n0_; (try clear hb))
        go_ret
        exact ⟨rfl, by repeat (first | (with_reducible first | exact HB.out | apply below_alloc | apply pw_below_drewN | apply below_drew1) | exact HB.out)⟩
      rw [if_neg n0] at h
      have N0 : decide (a0 < 0) = false := decide_eq_false n0
      clear n0
      by_cases n1 : a0 > 4611686018427387903
      · rw [if_pos n1] at h
        obtain rfl := Option.some.inj h
        have N1 : decide (a0 > 4611686018427387903) = true := decide_eq_true n1
        have N1' : decide (4611686018427387903 < a0) = true := decide_eq_true n1
        clear n1 h
        go_enter Tryd.func6, Tryd.ntmps6
        go_wp2_with ((with_reducible refine gate_callee (f := 17) rfl ?_); refine goesL_ (some 10) rfl rfl Tryd.func17 (by kernel_rfl) rfl #[] rfl (by (try simp only [List.map_toArray, List.map_cons, List.map_nil]); first | done | rfl | (simp only [List.length_drop, List.length_take]; rfl)) ?_; (with_reducible refine (vizardlaw01_works.calls k true _ ?side0 HW.out).mono ?_); (case side0 => repeat (first | exact (Kd.C_below HRG0.out HB.out) | (with_reducible refine Kd.C_alloc ?_ _) | (with_reducible refine Kd.C_drewN ?_ _) | (with_reducible refine Kd.C_drew ?_))); rintro e w' ⟨rfl, hb⟩; refine ⟨_, rfl, ?_⟩; have n0_ := Aside0.mk (below_step (by repeat (first | (with_reducible first | exact HB.out | apply below_alloc | apply pw_below_drewN | apply below_drew1) | exact HB.out)) hb); clear HB; have HB := n0_; clear n0_; (try clear hb))
        go_ret
        exact ⟨rfl, by repeat (first | (with_reducible first | exact HB.out | apply below_alloc | apply pw_below_drewN | apply below_drew1) | exact HB.out)⟩
      rw [if_neg n1] at h
      have N1 : decide (a0 > 4611686018427387903) = false := decide_eq_false n1
      have N1' : decide (4611686018427387903 < a0) = false := decide_eq_false n1
      clear n1
      obtain ⟨z, hz, h⟩ := Option.bind_eq_some_iff.1 h
      have HZ := Aside0.mk hz
      clear hz
      by_cases n2 : z > 2
      · rw [if_pos n2] at h
        obtain rfl := Option.some.inj h
        have N2 : decide (z > 2) = true := decide_eq_true n2
        have N2' : decide (2 < z) = true := decide_eq_true n2
        clear n2 h
        go_enter Tryd.func6, Tryd.ntmps6
        go_wp2_with (first | ((with_reducible refine gate_callee (f := 17) rfl ?_); refine goesL_ (some 10) rfl rfl Tryd.func17 (by kernel_rfl) rfl #[] rfl (by (try simp only [List.map_toArray, List.map_cons, List.map_nil]); first | done | rfl | (simp only [List.length_drop, List.length_take]; rfl)) ?_; (with_reducible refine (vizardlaw01_works.calls k true _ ?side0 HW.out).mono ?_); (case side0 => repeat (first | exact (Kd.C_below HRG0.out HB.out) | (with_reducible refine Kd.C_alloc ?_ _) | (with_reducible refine Kd.C_drewN ?_ _) | (with_reducible refine Kd.C_drew ?_))); rintro e w' ⟨rfl, hb⟩; refine ⟨_, rfl, ?_⟩; have n0_ := Aside0.mk (below_step (by repeat (first | (with_reducible first | exact HB.out | apply below_alloc | apply pw_below_drewN | apply below_drew1) | exact HB.out)) hb); clear HB; have HB := n0_; clear n0_; (try clear hb)) | (go_at_call 13; (with_reducible refine (varint_Size.calls a0 z _ ?side0 HZ.out).mono ?_); (case side0 => repeat (first | exact (Kd.C_below HRG0.out HB.out) | (with_reducible refine Kd.C_alloc ?_ _) | (with_reducible refine Kd.C_drewN ?_ _) | (with_reducible refine Kd.C_drew ?_))); rintro e w' ⟨rfl, ⟨nd, rfl⟩⟩))
        go_ret
        exact ⟨rfl, by repeat (first | (with_reducible first | exact HB.out | apply below_alloc | apply pw_below_drewN | apply below_drew1) | exact HB.out)⟩
      rw [if_neg n2] at h
      have N2 : decide (z > 2) = false := decide_eq_false n2
      have N2' : decide (2 < z) = false := decide_eq_false n2
      clear n2
      obtain ⟨s, hs, h⟩ := Option.bind_eq_some_iff.1 h
      have HS := Aside0.mk hs
      clear hs
      by_cases hpos : 0 < s.size
      · rw [if_pos hpos] at h
        by_cases hle : s.size ≤ 9223372036854775807
        · rw [if_pos hle] at h
          have hlen : (bytesOf s).length = s.size := bytesOf_length s
          have L := Aside0.mk hlen
          clear hlen
          generalize hx : (bytesOf s).getD 0 0 = x0 at h
          have HX := Aside0.mk hx
          clear hx
          obtain ⟨⟨g1, g2, g3⟩, hg, h⟩ := Option.bind_eq_some_iff.1 h
          have HGT : Aside0 (varint_Get.f k (strOfNums ((bytesOf s).set 0 ((x0 + 64) % 256))) = some (g1, g2, g3)) := ⟨by simpa using hg⟩
          clear hg
          have h := Option.some.inj h
          dsimp only at h
          have Q : ((g1 == a0) = true ∧ (g2 == 2) = true ∧ r = (g3 == 0)) ∨ ((g1 == a0) = true ∧ (g2 == 2) = false ∧ r = false) ∨ ((g1 == a0) = false ∧ r = false) := by
            by_cases q1 : g1 = a0
            · by_cases q2 : g2 = 2
              · rw [if_pos q1, if_pos q2] at h
                exact Or.inl ⟨beq_iff_eq.mpr q1, beq_iff_eq.mpr q2, h.symm⟩
              · rw [if_pos q1, if_neg q2] at h
                exact Or.inr (Or.inl ⟨beq_iff_eq.mpr q1, beq_eq_false_iff_ne.mpr q2, h.symm⟩)
            · rw [if_neg q1] at h
              exact Or.inr (Or.inr ⟨beq_eq_false_iff_ne.mpr q1, h.symm⟩)
          clear h
          rcases Q with ⟨Q1, Q2, rfl⟩ | ⟨Q1, Q2, rfl⟩ | ⟨Q1, rfl⟩
          all_goals
            go_enter Tryd.func6, Tryd.ntmps6
            go_wp2_with (first | ((with_reducible refine gate_callee (f := 17) rfl ?_); refine goesL_ (some 10) rfl rfl Tryd.func17 (by kernel_rfl) rfl #[] rfl (by (try simp only [List.map_toArray, List.map_cons, List.map_nil]); first | done | rfl | (simp only [List.length_drop, List.length_take]; rfl)) ?_; (with_reducible refine (vizardlaw01_works.calls k true _ ?side0 HW.out).mono ?_); (case side0 => repeat (first | exact (Kd.C_below HRG0.out HB.out) | (with_reducible refine Kd.C_alloc ?_ _) | (with_reducible refine Kd.C_drewN ?_ _) | (with_reducible refine Kd.C_drew ?_))); rintro e w' ⟨rfl, hb⟩; refine ⟨_, rfl, ?_⟩; have n0_ := Aside0.mk (below_step (by repeat (first | (with_reducible first | exact HB.out | apply below_alloc | apply pw_below_drewN | apply below_drew1) | exact HB.out)) hb); clear HB; have HB := n0_; clear n0_; (try clear hb)) | (go_at_call 13; (with_reducible refine (varint_Size.calls a0 z _ ?side0 HZ.out).mono ?_); (case side0 => repeat (first | exact (Kd.C_below HRG0.out HB.out) | (with_reducible refine Kd.C_alloc ?_ _) | (with_reducible refine Kd.C_drewN ?_ _) | (with_reducible refine Kd.C_drew ?_))); rintro e w' ⟨rfl, ⟨nd, rfl⟩⟩) | ((with_reducible refine gate_callee (f := 18) rfl ?_); refine goesL_ (some 33) rfl rfl Tryd.func18 (by kernel_rfl) rfl #[.int .i64 a0, .int .i64 2] rfl (by (try simp only [List.map_toArray, List.map_cons, List.map_nil]); first | done | rfl | (simp only [List.length_drop, List.length_take]; rfl)) ?_; (with_reducible refine (vizardref01_Bytes.calls k a0 2 s _ HS.out).mono ?_);  rintro e w' ⟨rfl, hb⟩; refine ⟨_, rfl, ?_⟩; have n0_ := Aside0.mk (below_step (by repeat (first | (with_reducible first | exact HB.out | apply below_alloc | apply pw_below_drewN | apply below_drew1) | exact HB.out)) hb); clear HB; have HB := n0_; clear n0_; (try clear hb)) | ((with_reducible refine gate_dst (N := 34) rfl ?_); refine Conv.conv_arm rfl (N := 34) rfl 9 35 5 _ rfl s rfl Tryd.underlying9 Tryd.underlying35 Tryd.underlying5 ?_; intro g c w3 hrow hge hb3; have HR := Aside0.mk hrow; have HG := Aside0.mk (show w.heap.size ≤ g from Nat.le_trans HB.out.size hge); have n0_ := Aside0.mk (below_step (by repeat (first | (with_reducible first | exact HB.out | apply below_alloc | apply pw_below_drewN | apply below_drew1) | exact HB.out)) hb3); clear HB; have HB := n0_; clear n0_ hrow hge hb3; have hc0 := HR.out.cell 0 (by rw [L.out]; exact hpos); rw [HX.out] at hc0; have hf0 := HR.out.free 0 (by rw [L.out]; exact hpos); have hst := Conv.back_set (P := Tryd.prog) (c := c) (src := 35) (dst := 9) HR.out L.out hle 0 hpos Tryd.underlying35 Tryd.underlying5 Tryd.underlying9) | (go_at_call 9; refine (varint_Get.calls k _ g1 g2 g3 _ ?side0 ?hgt).mono ?_; (case side0 => exact Kd.C_below HRG0.out (below_set HB.out HG.out)); (case hgt => exact HGT.out); rintro e w' ⟨rfl, ⟨nd, rfl⟩⟩))
            go_ret
            exact ⟨by first | rfl | (simp; done) | (simp [*]; done), below_step (below_set HB.out HG.out) (pw_below_drewN (Below.refl _ _) _)⟩
        · rw [if_neg hle] at h
          exact absurd h (by simp)
      · rw [if_neg hpos] at h
        exact absurd h (by simp)
    · rw [e] at hjt h
      simp only [if_true, if_false, reduceIte, Int.reduceEq] at h
      clear e hu0
      by_cases n0 : a0 < 0
      · rw [if_pos n0] at h
        obtain rfl := Option.some.inj h
        have N0 : decide (a0 < 0) = true := decide_eq_true n0
        clear n0 h
        go_enter Tryd.func6, Tryd.ntmps6
        go_wp2_with ((with_reducible refine gate_callee (f := 17) rfl ?_); refine goesL_ (some 10) rfl rfl Tryd.func17 (by kernel_rfl) rfl #[] rfl (by (try simp only [List.map_toArray, List.map_cons, List.map_nil]); first | done | rfl | (simp only [List.length_drop, List.length_take]; rfl)) ?_; (with_reducible refine (vizardlaw01_works.calls k true _ ?side0 HW.out).mono ?_); (case side0 => repeat (first | exact (Kd.C_below HRG0.out HB.out) | (with_reducible refine Kd.C_alloc ?_ _) | (with_reducible refine Kd.C_drewN ?_ _) | (with_reducible refine Kd.C_drew ?_))); rintro e w' ⟨rfl, hb⟩; refine ⟨_, rfl, ?_⟩; have n0_ := Aside0.mk (below_step (by repeat (first | (with_reducible first | exact HB.out | apply below_alloc | apply pw_below_drewN | apply below_drew1) | exact HB.out)) hb); clear HB; have HB := n0_; clear n0_; (try clear hb))
        go_ret
        exact ⟨rfl, by repeat (first | (with_reducible first | exact HB.out | apply below_alloc | apply pw_below_drewN | apply below_drew1) | exact HB.out)⟩
      rw [if_neg n0] at h
      have N0 : decide (a0 < 0) = false := decide_eq_false n0
      clear n0
      by_cases n1 : a0 > 4611686018427387903
      · rw [if_pos n1] at h
        obtain rfl := Option.some.inj h
        have N1 : decide (a0 > 4611686018427387903) = true := decide_eq_true n1
        have N1' : decide (4611686018427387903 < a0) = true := decide_eq_true n1
        clear n1 h
        go_enter Tryd.func6, Tryd.ntmps6
        go_wp2_with ((with_reducible refine gate_callee (f := 17) rfl ?_); refine goesL_ (some 10) rfl rfl Tryd.func17 (by kernel_rfl) rfl #[] rfl (by (try simp only [List.map_toArray, List.map_cons, List.map_nil]); first | done | rfl | (simp only [List.length_drop, List.length_take]; rfl)) ?_; (with_reducible refine (vizardlaw01_works.calls k true _ ?side0 HW.out).mono ?_); (case side0 => repeat (first | exact (Kd.C_below HRG0.out HB.out) | (with_reducible refine Kd.C_alloc ?_ _) | (with_reducible refine Kd.C_drewN ?_ _) | (with_reducible refine Kd.C_drew ?_))); rintro e w' ⟨rfl, hb⟩; refine ⟨_, rfl, ?_⟩; have n0_ := Aside0.mk (below_step (by repeat (first | (with_reducible first | exact HB.out | apply below_alloc | apply pw_below_drewN | apply below_drew1) | exact HB.out)) hb); clear HB; have HB := n0_; clear n0_; (try clear hb))
        go_ret
        exact ⟨rfl, by repeat (first | (with_reducible first | exact HB.out | apply below_alloc | apply pw_below_drewN | apply below_drew1) | exact HB.out)⟩
      rw [if_neg n1] at h
      have N1 : decide (a0 > 4611686018427387903) = false := decide_eq_false n1
      have N1' : decide (4611686018427387903 < a0) = false := decide_eq_false n1
      clear n1
      obtain ⟨z, hz, h⟩ := Option.bind_eq_some_iff.1 h
      have HZ := Aside0.mk hz
      clear hz
      by_cases n2 : z > 4
      · rw [if_pos n2] at h
        obtain rfl := Option.some.inj h
        have N2 : decide (z > 4) = true := decide_eq_true n2
        have N2' : decide (4 < z) = true := decide_eq_true n2
        clear n2 h
        go_enter Tryd.func6, Tryd.ntmps6
        go_wp2_with (first | ((with_reducible refine gate_callee (f := 17) rfl ?_); refine goesL_ (some 10) rfl rfl Tryd.func17 (by kernel_rfl) rfl #[] rfl (by (try simp only [List.map_toArray, List.map_cons, List.map_nil]); first | done | rfl | (simp only [List.length_drop, List.length_take]; rfl)) ?_; (with_reducible refine (vizardlaw01_works.calls k true _ ?side0 HW.out).mono ?_); (case side0 => repeat (first | exact (Kd.C_below HRG0.out HB.out) | (with_reducible refine Kd.C_alloc ?_ _) | (with_reducible refine Kd.C_drewN ?_ _) | (with_reducible refine Kd.C_drew ?_))); rintro e w' ⟨rfl, hb⟩; refine ⟨_, rfl, ?_⟩; have n0_ := Aside0.mk (below_step (by repeat (first | (with_reducible first | exact HB.out | apply below_alloc | apply pw_below_drewN | apply below_drew1) | exact HB.out)) hb); clear HB; have HB := n0_; clear n0_; (try clear hb)) | (go_at_call 13; (with_reducible refine (varint_Size.calls a0 z _ ?side0 HZ.out).mono ?_); (case side0 => repeat (first | exact (Kd.C_below HRG0.out HB.out) | (with_reducible refine Kd.C_alloc ?_ _) | (with_reducible refine Kd.C_drewN ?_ _) | (with_reducible refine Kd.C_drew ?_))); rintro e w' ⟨rfl, ⟨nd, rfl⟩⟩))
        go_ret
        exact ⟨rfl, by repeat (first | (with_reducible first | exact HB.out | apply below_alloc | apply pw_below_drewN | apply below_drew1) | exact HB.out)⟩
      rw [if_neg n2] at h
      have N2 : decide (z > 4) = false := decide_eq_false n2
      have N2' : decide (4 < z) = false := decide_eq_false n2
      clear n2
      obtain ⟨s, hs, h⟩ := Option.bind_eq_some_iff.1 h
      have HS := Aside0.mk hs
      clear hs
      by_cases hpos : 0 < s.size
      · rw [if_pos hpos] at h
        by_cases hle : s.size ≤ 9223372036854775807
        · rw [if_pos hle] at h
          have hlen : (bytesOf s).length = s.size := bytesOf_length s
          have L := Aside0.mk hlen
          clear hlen
          generalize hx : (bytesOf s).getD 0 0 = x0 at h
          have HX := Aside0.mk hx
          clear hx
          obtain ⟨⟨g1, g2, g3⟩, hg, h⟩ := Option.bind_eq_some_iff.1 h
          have HGT : Aside0 (varint_Get.f k (strOfNums ((bytesOf s).set 0 ((x0 + 128) % 256))) = some (g1, g2, g3)) := ⟨by simpa using hg⟩
          clear hg
          have h := Option.some.inj h
          dsimp only at h
          have Q : ((g1 == a0) = true ∧ (g2 == 4) = true ∧ r = (g3 == 0)) ∨ ((g1 == a0) = true ∧ (g2 == 4) = false ∧ r = false) ∨ ((g1 == a0) = false ∧ r = false) := by
            by_cases q1 : g1 = a0
            · by_cases q2 : g2 = 4
              · rw [if_pos q1, if_pos q2] at h
                exact Or.inl ⟨beq_iff_eq.mpr q1, beq_iff_eq.mpr q2, h.symm⟩
              · rw [if_pos q1, if_neg q2] at h
                exact Or.inr (Or.inl ⟨beq_iff_eq.mpr q1, beq_eq_false_iff_ne.mpr q2, h.symm⟩)
            · rw [if_neg q1] at h
              exact Or.inr (Or.inr ⟨beq_eq_false_iff_ne.mpr q1, h.symm⟩)
          clear h
          rcases Q with ⟨Q1, Q2, rfl⟩ | ⟨Q1, Q2, rfl⟩ | ⟨Q1, rfl⟩
          all_goals
            go_enter Tryd.func6, Tryd.ntmps6
            go_wp2_with (first | ((with_reducible refine gate_callee (f := 17) rfl ?_); refine goesL_ (some 10) rfl rfl Tryd.func17 (by kernel_rfl) rfl #[] rfl (by (try simp only [List.map_toArray, List.map_cons, List.map_nil]); first | done | rfl | (simp only [List.length_drop, List.length_take]; rfl)) ?_; (with_reducible refine (vizardlaw01_works.calls k true _ ?side0 HW.out).mono ?_); (case side0 => repeat (first | exact (Kd.C_below HRG0.out HB.out) | (with_reducible refine Kd.C_alloc ?_ _) | (with_reducible refine Kd.C_drewN ?_ _) | (with_reducible refine Kd.C_drew ?_))); rintro e w' ⟨rfl, hb⟩; refine ⟨_, rfl, ?_⟩; have n0_ := Aside0.mk (below_step (by repeat (first | (with_reducible first | exact HB.out | apply below_alloc | apply pw_below_drewN | apply below_drew1) | exact HB.out)) hb); clear HB; have HB := n0_; clear n0_; (try clear hb)) | (go_at_call 13; (with_reducible refine (varint_Size.calls a0 z _ ?side0 HZ.out).mono ?_); (case side0 => repeat (first | exact (Kd.C_below HRG0.out HB.out) | (with_reducible refine Kd.C_alloc ?_ _) | (with_reducible refine Kd.C_drewN ?_ _) | (with_reducible refine Kd.C_drew ?_))); rintro e w' ⟨rfl, ⟨nd, rfl⟩⟩) | ((with_reducible refine gate_callee (f := 18) rfl ?_); refine goesL_ (some 33) rfl rfl Tryd.func18 (by kernel_rfl) rfl #[.int .i64 a0, .int .i64 4] rfl (by (try simp only [List.map_toArray, List.map_cons, List.map_nil]); first | done | rfl | (simp only [List.length_drop, List.length_take]; rfl)) ?_; (with_reducible refine (vizardref01_Bytes.calls k a0 4 s _ HS.out).mono ?_);  rintro e w' ⟨rfl, hb⟩; refine ⟨_, rfl, ?_⟩; have n0_ := Aside0.mk (below_step (by repeat (first | (with_reducible first | exact HB.out | apply below_alloc | apply pw_below_drewN | apply below_drew1) | exact HB.out)) hb); clear HB; have HB := n0_; clear n0_; (try clear hb)) | ((with_reducible refine gate_dst (N := 34) rfl ?_); refine Conv.conv_arm rfl (N := 34) rfl 9 35 5 _ rfl s rfl Tryd.underlying9 Tryd.underlying35 Tryd.underlying5 ?_; intro g c w3 hrow hge hb3; have HR := Aside0.mk hrow; have HG := Aside0.mk (show w.heap.size ≤ g from Nat.le_trans HB.out.size hge); have n0_ := Aside0.mk (below_step (by repeat (first | (with_reducible first | exact HB.out | apply below_alloc | apply pw_below_drewN | apply below_drew1) | exact HB.out)) hb3); clear HB; have HB := n0_; clear n0_ hrow hge hb3; have hc0 := HR.out.cell 0 (by rw [L.out]; exact hpos); rw [HX.out] at hc0; have hf0 := HR.out.free 0 (by rw [L.out]; exact hpos); have hst := Conv.back_set (P := Tryd.prog) (c := c) (src := 35) (dst := 9) HR.out L.out hle 0 hpos Tryd.underlying35 Tryd.underlying5 Tryd.underlying9) | (go_at_call 9; refine (varint_Get.calls k _ g1 g2 g3 _ ?side0 ?hgt).mono ?_; (case side0 => exact Kd.C_below HRG0.out (below_set HB.out HG.out)); (case hgt => exact HGT.out); rintro e w' ⟨rfl, ⟨nd, rfl⟩⟩))
            go_ret
            exact ⟨by first | rfl | (simp; done) | (simp [*]; done), below_step (below_set HB.out HG.out) (pw_below_drewN (Below.refl _ _) _)⟩
        · rw [if_neg hle] at h
          exact absurd h (by simp)
      · rw [if_neg hpos] at h
        exact absurd h (by simp)
    · rw [e] at hjt h
      simp only [if_true, if_false, reduceIte, Int.reduceEq] at h
      clear e hu0
      by_cases n0 : a0 < 0
      · rw [if_pos n0] at h
        obtain rfl := Option.some.inj h
        have N0 : decide (a0 < 0) = true := decide_eq_true n0
        clear n0 h
        go_enter Tryd.func6, Tryd.ntmps6
        go_wp2_with ((with_reducible refine gate_callee (f := 17) rfl ?_); refine goesL_ (some 10) rfl rfl Tryd.func17 (by kernel_rfl) rfl #[] rfl (by (try simp only [List.map_toArray, List.map_cons, List.map_nil]); first | done | rfl | (simp only [List.length_drop, List.length_take]; rfl)) ?_; (with_reducible refine (vizardlaw01_works.calls k true _ ?side0 HW.out).mono ?_); (case side0 => repeat (first | exact (Kd.C_below HRG0.out HB.out) | (with_reducible refine Kd.C_alloc ?_ _) | (with_reducible refine Kd.C_drewN ?_ _) | (with_reducible refine Kd.C_drew ?_))); rintro e w' ⟨rfl, hb⟩; refine ⟨_, rfl, ?_⟩; have n0_ := Aside0.mk (below_step (by repeat (first | (with_reducible first | exact HB.out | apply below_alloc | apply pw_below_drewN | apply below_drew1) | exact HB.out)) hb); clear HB; have HB := n0_; clear n0_; (try clear hb))
        go_ret
        exact ⟨rfl, by repeat (first | (with_reducible first | exact HB.out | apply below_alloc | apply pw_below_drewN | apply below_drew1) | exact HB.out)⟩
      rw [if_neg n0] at h
      have N0 : decide (a0 < 0) = false := decide_eq_false n0
      clear n0
      by_cases n1 : a0 > 4611686018427387903
      · rw [if_pos n1] at h
        obtain rfl := Option.some.inj h
        have N1 : decide (a0 > 4611686018427387903) = true := decide_eq_true n1
        have N1' : decide (4611686018427387903 < a0) = true := decide_eq_true n1
        clear n1 h
        go_enter Tryd.func6, Tryd.ntmps6
        go_wp2_with ((with_reducible refine gate_callee (f := 17) rfl ?_); refine goesL_ (some 10) rfl rfl Tryd.func17 (by kernel_rfl) rfl #[] rfl (by (try simp only [List.map_toArray, List.map_cons, List.map_nil]); first | done | rfl | (simp only [List.length_drop, List.length_take]; rfl)) ?_; (with_reducible refine (vizardlaw01_works.calls k true _ ?side0 HW.out).mono ?_); (case side0 => repeat (first | exact (Kd.C_below HRG0.out HB.out) | (with_reducible refine Kd.C_alloc ?_ _) | (with_reducible refine Kd.C_drewN ?_ _) | (with_reducible refine Kd.C_drew ?_))); rintro e w' ⟨rfl, hb⟩; refine ⟨_, rfl, ?_⟩; have n0_ := Aside0.mk (below_step (by repeat (first | (with_reducible first | exact HB.out | apply below_alloc | apply pw_below_drewN | apply below_drew1) | exact HB.out)) hb); clear HB; have HB := n0_; clear n0_; (try clear hb))
        go_ret
        exact ⟨rfl, by repeat (first | (with_reducible first | exact HB.out | apply below_alloc | apply pw_below_drewN | apply below_drew1) | exact HB.out)⟩
      rw [if_neg n1] at h
      have N1 : decide (a0 > 4611686018427387903) = false := decide_eq_false n1
      have N1' : decide (4611686018427387903 < a0) = false := decide_eq_false n1
      clear n1
      obtain ⟨z, hz, h⟩ := Option.bind_eq_some_iff.1 h
      have HZ := Aside0.mk hz
      clear hz
      by_cases n2 : z > 8
      · rw [if_pos n2] at h
        obtain rfl := Option.some.inj h
        have N2 : decide (z > 8) = true := decide_eq_true n2
        have N2' : decide (8 < z) = true := decide_eq_true n2
        clear n2 h
        go_enter Tryd.func6, Tryd.ntmps6
        go_wp2_with (first | ((with_reducible refine gate_callee (f := 17) rfl ?_); refine goesL_ (some 10) rfl rfl Tryd.func17 (by kernel_rfl) rfl #[] rfl (by (try simp only [List.map_toArray, List.map_cons, List.map_nil]); first | done | rfl | (simp only [List.length_drop, List.length_take]; rfl)) ?_; (with_reducible refine (vizardlaw01_works.calls k true _ ?side0 HW.out).mono ?_); (case side0 => repeat (first | exact (Kd.C_below HRG0.out HB.out) | (with_reducible refine Kd.C_alloc ?_ _) | (with_reducible refine Kd.C_drewN ?_ _) | (with_reducible refine Kd.C_drew ?_))); rintro e w' ⟨rfl, hb⟩; refine ⟨_, rfl, ?_⟩; have n0_ := Aside0.mk (below_step (by repeat (first | (with_reducible first | exact HB.out | apply below_alloc | apply pw_below_drewN | apply below_drew1) | exact HB.out)) hb); clear HB; have HB := n0_; clear n0_; (try clear hb)) | (go_at_call 13; (with_reducible refine (varint_Size.calls a0 z _ ?side0 HZ.out).mono ?_); (case side0 => repeat (first | exact (Kd.C_below HRG0.out HB.out) | (with_reducible refine Kd.C_alloc ?_ _) | (with_reducible refine Kd.C_drewN ?_ _) | (with_reducible refine Kd.C_drew ?_))); rintro e w' ⟨rfl, ⟨nd, rfl⟩⟩))
        go_ret
        exact ⟨rfl, by repeat (first | (with_reducible first | exact HB.out | apply below_alloc | apply pw_below_drewN | apply below_drew1) | exact HB.out)⟩
      rw [if_neg n2] at h
      have N2 : decide (z > 8) = false := decide_eq_false n2
      have N2' : decide (8 < z) = false := decide_eq_false n2
      clear n2
      obtain ⟨s, hs, h⟩ := Option.bind_eq_some_iff.1 h
      have HS := Aside0.mk hs
      clear hs
      by_cases hpos : 0 < s.size
      · rw [if_pos hpos] at h
        by_cases hle : s.size ≤ 9223372036854775807
        · rw [if_pos hle] at h
          have hlen : (bytesOf s).length = s.size := bytesOf_length s
          have L := Aside0.mk hlen
          clear hlen
          generalize hx : (bytesOf s).getD 0 0 = x0 at h
          have HX := Aside0.mk hx
          clear hx
          obtain ⟨⟨g1, g2, g3⟩, hg, h⟩ := Option.bind_eq_some_iff.1 h
          have HGT : Aside0 (varint_Get.f k (strOfNums ((bytesOf s).set 0 ((x0 + 192) % 256))) = some (g1, g2, g3)) := ⟨by simpa using hg⟩
          clear hg
          have h := Option.some.inj h
          dsimp only at h
          have Q : ((g1 == a0) = true ∧ (g2 == 8) = true ∧ r = (g3 == 0)) ∨ ((g1 == a0) = true ∧ (g2 == 8) = false ∧ r = false) ∨ ((g1 == a0) = false ∧ r = false) := by
            by_cases q1 : g1 = a0
            · by_cases q2 : g2 = 8
              · rw [if_pos q1, if_pos q2] at h
                exact Or.inl ⟨beq_iff_eq.mpr q1, beq_iff_eq.mpr q2, h.symm⟩
              · rw [if_pos q1, if_neg q2] at h
                exact Or.inr (Or.inl ⟨beq_iff_eq.mpr q1, beq_eq_false_iff_ne.mpr q2, h.symm⟩)
            · rw [if_neg q1] at h
              exact Or.inr (Or.inr ⟨beq_eq_false_iff_ne.mpr q1, h.symm⟩)
          clear h
          rcases Q with ⟨Q1, Q2, rfl⟩ | ⟨Q1, Q2, rfl⟩ | ⟨Q1, rfl⟩
          all_goals
            go_enter Tryd.func6, Tryd.ntmps6
            go_wp2_with (first | ((with_reducible refine gate_callee (f := 17) rfl ?_); refine goesL_ (some 10) rfl rfl Tryd.func17 (by kernel_rfl) rfl #[] rfl (by (try simp only [List.map_toArray, List.map_cons, List.map_nil]); first | done | rfl | (simp only [List.length_drop, List.length_take]; rfl)) ?_; (with_reducible refine (vizardlaw01_works.calls k true _ ?side0 HW.out).mono ?_); (case side0 => repeat (first | exact (Kd.C_below HRG0.out HB.out) | (with_reducible refine Kd.C_alloc ?_ _) | (with_reducible refine Kd.C_drewN ?_ _) | (with_reducible refine Kd.C_drew ?_))); rintro e w' ⟨rfl, hb⟩; refine ⟨_, rfl, ?_⟩; have n0_ := Aside0.mk (below_step (by repeat (first | (with_reducible first | exact HB.out | apply below_alloc | apply pw_below_drewN | apply below_drew1) | exact HB.out)) hb); clear HB; have HB := n0_; clear n0_; (try clear hb)) | (go_at_call 13; (with_reducible refine (varint_Size.calls a0 z _ ?side0 HZ.out).mono ?_); (case side0 => repeat (first | exact (Kd.C_below HRG0.out HB.out) | (with_reducible refine Kd.C_alloc ?_ _) | (with_reducible refine Kd.C_drewN ?_ _) | (with_reducible refine Kd.C_drew ?_))); rintro e w' ⟨rfl, ⟨nd, rfl⟩⟩) | ((with_reducible refine gate_callee (f := 18) rfl ?_); refine goesL_ (some 33) rfl rfl Tryd.func18 (by kernel_rfl) rfl #[.int .i64 a0, .int .i64 8] rfl (by (try simp only [List.map_toArray, List.map_cons, List.map_nil]); first | done | rfl | (simp only [List.length_drop, List.length_take]; rfl)) ?_; (with_reducible refine (vizardref01_Bytes.calls k a0 8 s _ HS.out).mono ?_);  rintro e w' ⟨rfl, hb⟩; refine ⟨_, rfl, ?_⟩; have n0_ := Aside0.mk (below_step (by repeat (first | (with_reducible first | exact HB.out | apply below_alloc | apply pw_below_drewN | apply below_drew1) | exact HB.out)) hb); clear HB; have HB := n0_; clear n0_; (try clear hb)) | ((with_reducible refine gate_dst (N := 34) rfl ?_); refine Conv.conv_arm rfl (N := 34) rfl 9 35 5 _ rfl s rfl Tryd.underlying9 Tryd.underlying35 Tryd.underlying5 ?_; intro g c w3 hrow hge hb3; have HR := Aside0.mk hrow; have HG := Aside0.mk (show w.heap.size ≤ g from Nat.le_trans HB.out.size hge); have n0_ := Aside0.mk (below_step (by repeat (first | (with_reducible first | exact HB.out | apply below_alloc | apply pw_below_drewN | apply below_drew1) | exact HB.out)) hb3); clear HB; have HB := n0_; clear n0_ hrow hge hb3; have hc0 := HR.out.cell 0 (by rw [L.out]; exact hpos); rw [HX.out] at hc0; have hf0 := HR.out.free 0 (by rw [L.out]; exact hpos); have hst := Conv.back_set (P := Tryd.prog) (c := c) (src := 35) (dst := 9) HR.out L.out hle 0 hpos Tryd.underlying35 Tryd.underlying5 Tryd.underlying9) | (go_at_call 9; refine (varint_Get.calls k _ g1 g2 g3 _ ?side0 ?hgt).mono ?_; (case side0 => exact Kd.C_below HRG0.out (below_set HB.out HG.out)); (case hgt => exact HGT.out); rintro e w' ⟨rfl, ⟨nd, rfl⟩⟩))
            go_ret
            exact ⟨by first | rfl | (simp; done) | (simp [*]; done), below_step (below_set HB.out HG.out) (pw_below_drewN (Below.refl _ _) _)⟩
        · rw [if_neg hle] at h
          exact absurd h (by simp)
      · rw [if_neg hpos] at h
        exact absurd h (by simp)

end Go.Proofs.YtbbjeifbcijkcaaDoor.PVarintLonger
