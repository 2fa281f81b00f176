/- The walk of AcksDrops. gen/mk_drops.py writes this text. -/
import Derived.Test.YtanebifiafghnaaRight08
import Derived.Test.YtanebifiafghnaaWalkWhole
namespace Go.Proofs.Ytanebifiafghnaa.Walk
open Go.RowKit Go.Deep Go.Proofs.YtanebifiafghnaaW.PrintWords Go.Proofs.YtanebifiafghnaaW.PrintLast Go.Proofs.YtanebifiafghnaaW.PrintMore Go.Proofs.Ytanebifiafghnaa.PAcksRight Go.Proofs.Ytanebifiafghnaa Go.Proofs.Ytanebifiafghnaa.Ack
set_option linter.unusedVariables false
set_option linter.unusedSimpArgs false
theorem lastF {n : Nat} (h : 0 < n) (hn : n ≤ 100000) : wrap64 ((n : Int) - 1) = ((n - 1 : Nat) : Int) ∧ IntKind.i64.wrap ((n : Int) - 1) = ((n - 1 : Nat) : Int) ∧ True ∧ ((n : Int) == 0) = false ∧ (n == 0) = false ∧ ((0 : Int) ≤ ((n - 1 : Nat) : Int)) = True ∧ (((n - 1 : Nat) : Int) < (n : Int)) = True := by
  have hw : wrap64 ((n : Int) - 1) = ((n - 1 : Nat) : Int) := by unfold wrap64; omega
  exact ⟨hw, (i64_w _).trans hw, trivial, beq_eq_false_iff_ne.2 (by omega), beq_eq_false_iff_ne.2 (by omega), eq_true (by omega), eq_true (by omega)⟩
set_option maxHeartbeats 8000000 in
set_option maxRecDepth 100000 in
theorem acksDrops_walk {P Q R : Prop} (A : Option Addr) (cap : Nat) (xs : List Int) (n q : Int) (w : World) (hr : (Kd.int .i64).C w A xs.length xs) (hc : xs.length ≤ cap) (G0 : P) (G1 : Q) (G2 : R) :
    Calls Try.prog 7 #[.slice A xs.length cap, .int .i64 n, .int .i64 q] w fun e w' => e = .returned (.bool true) ∧ Below w.heap.size w w' := by
  have HR := Aside0.mk hr
  clear hr hc G0 G1 G2
  go_enter Try.func7, Try.ntmps7
  go_wp2_with (first | (go_at_call 11; (with_reducible refine (works_c _).mono ?_); rintro e_ w0 ⟨rfl, hb⟩; have HB0 := Aside0.mk hb; clear hb) | (go_at_call 12; (with_reducible refine (new_c _).mono ?_); rintro e_ w1 ⟨g, rfl, hg, hblk, hb⟩; have HG := Aside0.mk (show w.heap.size ≤ g from Nat.le_trans HB0.out.size hg); have H1 := Aside0.mk (SP.start (show SG w.heap.size w1 g [] (.slice none 0 0) from ⟨hblk, Kd.R_nil _ _ _ _ _⟩) (below_step HB0.out hb)); clear hg hblk hb))
  go_loopw [8] (fun v8 wr => ∃ i : Nat, v8 = .int .i64 (i : Int) ∧ Aside0 (i ≤ 60) ∧ ∃ v l, Aside0 (SP w wr wr g v v l) ∧ Aside0 (NF l) ∧ Aside0 (l.length ≤ 16)) (fun v8 _ => (60 - intOf v8).toNat)
  case atStart => exact ⟨0, rfl, ⟨by omega⟩, _, [], H1, ⟨NF.nil⟩, ⟨by decide⟩⟩
  case round =>
    clear H1 HB0
    obtain ⟨i, rfl, HI, v, l, HD, HNF, HLN⟩ := hrel
    by_cases d1 : (i : Int) < (xs.length : Int) ∧ (i : Int) < 60
    · obtain ⟨d1, d2⟩ := d1
      obtain ⟨ad, hA, rows⟩ := el_int HR.out (i : Int) (by omega) d1
      subst hA
      have x0 := rows wr (below_step HD.out.bel (Below.refl _ _))
      rw [Int.toNat_natCast] at x0
      generalize xs.getD i 0 = y at x0
      have HJ := Aside0.mk (And.intro d1 d2)
      have hif := i_facts (show i < xs.length by omega) (show i < 60 by omega)
      have hpd := HD.out.below (below_drew1 (Below.refl _ _))
      have HAD := Aside0.mk (add_any w wr.drew wr.drew g _ v l y y (SP.start hpd.lg hpd.bel) HG.out HNF.out HLN.out)
      clear d1 d2 rows hpd
      obtain ⟨i1, i2, i3, i4, i5, i6, i7, i8, i9⟩ := hif
      go_wp2_with (fail)
      refine Calm.wp_region_phC [(4, fun w_ => w_.cell? (ad.add i) = some (.int .i64 y)), (8, fun w_ => w_.cell? (ad.add i) = some (.int .i64 y))] [([0, 1, 2, 3, 4, 5, 6, 7, 8], [9])] (by kernel_rfl) (by kernel_rfl) ?_
      refine Calm.ph_next ?_ ?_
      · repeat (first | exact Calm.okI_nil | (refine Calm.okI_cons (Or.inl (by decide)) ?_) | (refine Calm.okI_cons (Or.inr (by exact x0)) ?_))
      repeat (first
        | (refine Calm.g_value (v := ?_) (a' := ?_) rfl rfl (by rfl) ?_ ?_ ?_; rotate_left; (· rintro w' hS'; (try simp only [Calm.SC_cons, Calm.SC_nil, Nat.reduceEqDiff, forall_const, false_implies, and_true, true_and] at hS'); (try obtain ⟨hS1, hS2⟩ := hS'); go_simp; with_reducible rfl); rotate_left; (· simp only [Act.put, List.setIfInBounds_toArray, List.set_cons_zero, List.set_cons_succ, i64_w, i32_w]; rfl)))
      refine Calm.g_nil ?_
      refine Calm.c_call rfl rfl Try.func13 (by kernel_rfl) rfl #[.pointer (some ⟨g, 0, none⟩), .int .i64 y, .int .i64 y] (by rfl) rfl (by (try simp only [List.map_toArray, List.map_cons, List.map_nil]); rfl) ?_
      (with_reducible refine (HAD.out).mono ?_)
      rintro e_ w3 ⟨v3, l3, rfl, h3, ha3⟩; have H3 := Aside0.mk h3; have HA3 := Aside0.mk ha3; clear h3 ha3
      refine ⟨_, rfl, ?_, ?_⟩
      · repeat (first | exact Calm.okC_nil | (refine Calm.okC_cons (Or.inl (by decide +kernel)) ?_) | (refine Calm.okC_cons (Or.inr (by fail)) ?_))
      refine Calm.put_to (a' := ?_) ?_ ?_
      rotate_left
      · simp only [Act.put, List.setIfInBounds_toArray, List.set_cons_zero, List.set_cons_succ, i64_w, i32_w]; rfl
      refine Calm.h_nil ?_
      refine Calm.ph_end ?_
      simp only [Exit.inBlock, Exit.then]
      go_wp2_with (fail)
      go_roundw
      case rel => exact ⟨i + 1, by first | rfl | simp, ⟨by clear i1 i2; have := HJ.out; omega⟩, v3, l3, ⟨SP.start H3.out.lg H3.out.bel⟩, ⟨HA3.out.nf⟩, ⟨HA3.out.len⟩⟩
      case measure => clear i1 i2; have := HJ.out; simp [intOf]; omega
    · obtain ⟨r, HT⟩ := HNF.out.turn3 n
      have HT := Aside0.mk HT
      have hnf := drop_nf HNF.out HT.out
      have hle := drop_len (l := l) (n := n) (r := r)
      have HL4 := Aside0.mk (show (dropL n r l).length ≤ 100000 by have := HLN.out; omega)
      obtain ⟨kc, hkc⟩ := check_nf hnf (by have := HLN.out; omega)
      have HKC := Aside0.mk hkc
      have hda := drop_any HNF.out HT.out q
      have hlow := drop_low (l := l) (n := n) (r := r)
      have hq1 : ∀ W, Below wr.heap.size wr W → Calls Try.prog 15 #[.pointer (some ⟨g, 0, none⟩), .int .i64 q] W fun e w' => e = .returned (.bool (anyR q l)) ∧ Below W.heap.size W w' := fun W hb => has_c g q v l _ W (HD.out.lg.below hb)
      have hq2 : ∀ W v2, SG w.heap.size W g (dropL n r l) v2 → Calls Try.prog 15 #[.pointer (some ⟨g, 0, none⟩), .int .i64 q] W fun e w' => e = .returned (.bool (anyR q l && decide (q ≥ n))) ∧ Below W.heap.size W w' := fun W v2 h => by rw [← hda]; exact has_c g q v2 _ _ W h
      obtain ⟨b1, e1⟩ : ∃ b, anyR q l = b := ⟨_, rfl⟩
      obtain ⟨b2, e2⟩ : ∃ b, decide (q ≥ n) = b := ⟨_, rfl⟩
      have e2' : decide (n ≤ q) = b2 := e2
      rw [e1] at hq1 hq2
      rw [e2] at hq2
      obtain ⟨l2, hl2⟩ : ∃ x, dropL n r l = x := ⟨_, rfl⟩
      rw [hl2] at HL4 HKC hlow hq2
      have HNE := Aside0.mk hl2
      have HE := Aside0.mk (And.intro e2 e2')
      clear hl2 hnf hle hkc hda e1
      clear e2 e2'
      obtain ⟨e2, e2'⟩ := HE.out
      by_cases dd : (i : Int) < (xs.length : Int)
      · have M1 : decide ((i : Int) < (xs.length : Int)) = true := decide_eq_true dd
        have M1' : decide (i < xs.length) = true := decide_eq_true (by omega)
        have M2 : decide ((i : Int) < 60) = false := decide_eq_false (by omega)
        have M2' : decide (i < 60) = false := decide_eq_false (by omega)
        clear d1 dd
        by_cases hpos : 0 < l2.length
        · obtain ⟨zw1, zw2, zd, z1, z2, z3, z4⟩ := lastF hpos HL4.out
          have zl := hlow _ (getD_mem (show l2.length - 1 < l2.length by omega))
          obtain ⟨y, hy⟩ : ∃ y, l2.getD (l2.length - 1) z35 = y := ⟨_, rfl⟩
          rw [hy] at zl
          obtain ⟨y0, y1⟩ := y
          dsimp only at zl
          have zg : decide (y0 ≥ n) = true := decide_eq_true zl
          have zg' : decide (n ≤ y0) = true := decide_eq_true zl
          obtain ⟨m, hm⟩ : ∃ m, l2.length - 1 = m := ⟨_, rfl⟩
          rw [hm] at hy zw1 zw2 z3 z4
          have HY := Aside0.mk hy
          have HM := Aside0.mk (show m < l2.length by omega)
          clear zl hpos hm hy hlow
          cases b1 <;> cases b2 <;>
          · have HH1 := Aside0.mk hq1
            have HK1 := Aside0.mk hq2
            clear hq1 hq2
            go_wp2_with (first | (go_at_call 15; (with_reducible refine (HH1.out wr (Below.refl _ _)).mono ?_); rintro e_ w4 ⟨rfl, hb⟩; have H4 := Aside0.mk (HD.out.below hb); clear hb) | (go_at_call 16; (with_reducible refine (drop_c w wr w4 g r v v l n H4.out HG.out HLN.out HT.out).mono ?_); rintro e_ w5 ⟨v2, rfl, h5⟩; have H5 := Aside0.mk (show SP w wr w5 g v v2 l2 by rw [← HNE.out]; exact h5); clear h5) | (go_at_call 15; (with_reducible refine (HK1.out w5 v2 H5.out.lg).mono ?_); rintro e_ w6 ⟨rfl, hb⟩; have H6 := Aside0.mk (H5.out.below hb); clear hb) | (go_at_call 14; (with_reducible refine (ranges_c g w.heap.size _ _ w.heap.size w6 H6.out.lg HL4.out H6.out.bel.size).mono ?_); rintro e_ w7 ⟨v7, rfl, hr, hb⟩; obtain ⟨A7, c7, rfl⟩ := Kd.R_slice hr; have HR7 := Aside0.mk (Kd.R_reads' hr); have H7 := Aside0.mk (H6.out.below hb); clear hr hb) | (go_at_call 8; (with_reducible refine (acks_Check.calls kc A7 c7 l2 0 w7 HR7.out.2.2 HR7.out.2.1 HKC.out).mono ?_); rintro e_ w8 ⟨rfl, hb⟩; have H8 := Aside0.mk (H7.out.below hb); clear hb) | (go_at_call 14; (with_reducible refine (ranges_c g w.heap.size _ _ w.heap.size w8 H8.out.lg HL4.out H8.out.bel.size).mono ?_); rintro e_ w9 ⟨v9, rfl, hr, hb⟩; obtain ⟨A9, c9, rfl⟩ := Kd.R_slice hr; have HR9 := Aside0.mk (Kd.R_reads' hr); have H9 := Aside0.mk (H8.out.below hb); clear hr hb; obtain ⟨ad, hA, rows⟩ := row35 HR9.out.2.2 m HM.out; obtain ⟨e0, -⟩ := rows w9 (Below.refl _ _); subst hA; rw [HY.out] at e0; dsimp only at e0; clear rows))
            go_ret
            exact ⟨rfl, H9.out.bel⟩
        · have z3 : l2.length = 0 := by omega
          have z1 : ((l2.length : Int) == 0) = true := by rw [z3]; rfl
          have z2 : (l2.length == 0) = true := by rw [z3]; rfl
          clear hpos hlow z3
          cases b1 <;> cases b2 <;>
          · have HH1 := Aside0.mk hq1
            have HK1 := Aside0.mk hq2
            clear hq1 hq2
            go_wp2_with (first | (go_at_call 15; (with_reducible refine (HH1.out wr (Below.refl _ _)).mono ?_); rintro e_ w4 ⟨rfl, hb⟩; have H4 := Aside0.mk (HD.out.below hb); clear hb) | (go_at_call 16; (with_reducible refine (drop_c w wr w4 g r v v l n H4.out HG.out HLN.out HT.out).mono ?_); rintro e_ w5 ⟨v2, rfl, h5⟩; have H5 := Aside0.mk (show SP w wr w5 g v v2 l2 by rw [← HNE.out]; exact h5); clear h5) | (go_at_call 15; (with_reducible refine (HK1.out w5 v2 H5.out.lg).mono ?_); rintro e_ w6 ⟨rfl, hb⟩; have H6 := Aside0.mk (H5.out.below hb); clear hb) | (go_at_call 14; (with_reducible refine (ranges_c g w.heap.size _ _ w.heap.size w6 H6.out.lg HL4.out H6.out.bel.size).mono ?_); rintro e_ w7 ⟨v7, rfl, hr, hb⟩; obtain ⟨A7, c7, rfl⟩ := Kd.R_slice hr; have HR7 := Aside0.mk (Kd.R_reads' hr); have H7 := Aside0.mk (H6.out.below hb); clear hr hb) | (go_at_call 8; (with_reducible refine (acks_Check.calls kc A7 c7 l2 0 w7 HR7.out.2.2 HR7.out.2.1 HKC.out).mono ?_); rintro e_ w8 ⟨rfl, hb⟩; have H8 := Aside0.mk (H7.out.below hb); clear hb) | (go_at_call 14; (with_reducible refine (ranges_c g w.heap.size _ _ w.heap.size w8 H8.out.lg HL4.out H8.out.bel.size).mono ?_); rintro e_ w9 ⟨v9, rfl, hr, hb⟩; obtain ⟨A9, c9, rfl⟩ := Kd.R_slice hr; have HR9 := Aside0.mk (Kd.R_reads' hr); have H9 := Aside0.mk (H8.out.below hb); clear hr hb))
            go_ret
            exact ⟨rfl, H9.out.bel⟩
      · have M1 : decide ((i : Int) < (xs.length : Int)) = false := decide_eq_false dd
        have M1' : decide (i < xs.length) = false := decide_eq_false (by omega)
        clear d1 dd
        by_cases hpos : 0 < l2.length
        · obtain ⟨zw1, zw2, zd, z1, z2, z3, z4⟩ := lastF hpos HL4.out
          have zl := hlow _ (getD_mem (show l2.length - 1 < l2.length by omega))
          obtain ⟨y, hy⟩ : ∃ y, l2.getD (l2.length - 1) z35 = y := ⟨_, rfl⟩
          rw [hy] at zl
          obtain ⟨y0, y1⟩ := y
          dsimp only at zl
          have zg : decide (y0 ≥ n) = true := decide_eq_true zl
          have zg' : decide (n ≤ y0) = true := decide_eq_true zl
          obtain ⟨m, hm⟩ : ∃ m, l2.length - 1 = m := ⟨_, rfl⟩
          rw [hm] at hy zw1 zw2 z3 z4
          have HY := Aside0.mk hy
          have HM := Aside0.mk (show m < l2.length by omega)
          clear zl hpos hm hy hlow
          cases b1 <;> cases b2 <;>
          · have HH1 := Aside0.mk hq1
            have HK1 := Aside0.mk hq2
            clear hq1 hq2
            go_wp2_with (first | (go_at_call 15; (with_reducible refine (HH1.out wr (Below.refl _ _)).mono ?_); rintro e_ w4 ⟨rfl, hb⟩; have H4 := Aside0.mk (HD.out.below hb); clear hb) | (go_at_call 16; (with_reducible refine (drop_c w wr w4 g r v v l n H4.out HG.out HLN.out HT.out).mono ?_); rintro e_ w5 ⟨v2, rfl, h5⟩; have H5 := Aside0.mk (show SP w wr w5 g v v2 l2 by rw [← HNE.out]; exact h5); clear h5) | (go_at_call 15; (with_reducible refine (HK1.out w5 v2 H5.out.lg).mono ?_); rintro e_ w6 ⟨rfl, hb⟩; have H6 := Aside0.mk (H5.out.below hb); clear hb) | (go_at_call 14; (with_reducible refine (ranges_c g w.heap.size _ _ w.heap.size w6 H6.out.lg HL4.out H6.out.bel.size).mono ?_); rintro e_ w7 ⟨v7, rfl, hr, hb⟩; obtain ⟨A7, c7, rfl⟩ := Kd.R_slice hr; have HR7 := Aside0.mk (Kd.R_reads' hr); have H7 := Aside0.mk (H6.out.below hb); clear hr hb) | (go_at_call 8; (with_reducible refine (acks_Check.calls kc A7 c7 l2 0 w7 HR7.out.2.2 HR7.out.2.1 HKC.out).mono ?_); rintro e_ w8 ⟨rfl, hb⟩; have H8 := Aside0.mk (H7.out.below hb); clear hb) | (go_at_call 14; (with_reducible refine (ranges_c g w.heap.size _ _ w.heap.size w8 H8.out.lg HL4.out H8.out.bel.size).mono ?_); rintro e_ w9 ⟨v9, rfl, hr, hb⟩; obtain ⟨A9, c9, rfl⟩ := Kd.R_slice hr; have HR9 := Aside0.mk (Kd.R_reads' hr); have H9 := Aside0.mk (H8.out.below hb); clear hr hb; obtain ⟨ad, hA, rows⟩ := row35 HR9.out.2.2 m HM.out; obtain ⟨e0, -⟩ := rows w9 (Below.refl _ _); subst hA; rw [HY.out] at e0; dsimp only at e0; clear rows))
            go_ret
            exact ⟨rfl, H9.out.bel⟩
        · have z3 : l2.length = 0 := by omega
          have z1 : ((l2.length : Int) == 0) = true := by rw [z3]; rfl
          have z2 : (l2.length == 0) = true := by rw [z3]; rfl
          clear hpos hlow z3
          cases b1 <;> cases b2 <;>
          · have HH1 := Aside0.mk hq1
            have HK1 := Aside0.mk hq2
            clear hq1 hq2
            go_wp2_with (first | (go_at_call 15; (with_reducible refine (HH1.out wr (Below.refl _ _)).mono ?_); rintro e_ w4 ⟨rfl, hb⟩; have H4 := Aside0.mk (HD.out.below hb); clear hb) | (go_at_call 16; (with_reducible refine (drop_c w wr w4 g r v v l n H4.out HG.out HLN.out HT.out).mono ?_); rintro e_ w5 ⟨v2, rfl, h5⟩; have H5 := Aside0.mk (show SP w wr w5 g v v2 l2 by rw [← HNE.out]; exact h5); clear h5) | (go_at_call 15; (with_reducible refine (HK1.out w5 v2 H5.out.lg).mono ?_); rintro e_ w6 ⟨rfl, hb⟩; have H6 := Aside0.mk (H5.out.below hb); clear hb) | (go_at_call 14; (with_reducible refine (ranges_c g w.heap.size _ _ w.heap.size w6 H6.out.lg HL4.out H6.out.bel.size).mono ?_); rintro e_ w7 ⟨v7, rfl, hr, hb⟩; obtain ⟨A7, c7, rfl⟩ := Kd.R_slice hr; have HR7 := Aside0.mk (Kd.R_reads' hr); have H7 := Aside0.mk (H6.out.below hb); clear hr hb) | (go_at_call 8; (with_reducible refine (acks_Check.calls kc A7 c7 l2 0 w7 HR7.out.2.2 HR7.out.2.1 HKC.out).mono ?_); rintro e_ w8 ⟨rfl, hb⟩; have H8 := Aside0.mk (H7.out.below hb); clear hb) | (go_at_call 14; (with_reducible refine (ranges_c g w.heap.size _ _ w.heap.size w8 H8.out.lg HL4.out H8.out.bel.size).mono ?_); rintro e_ w9 ⟨v9, rfl, hr, hb⟩; obtain ⟨A9, c9, rfl⟩ := Kd.R_slice hr; have HR9 := Aside0.mk (Kd.R_reads' hr); have H9 := Aside0.mk (H8.out.below hb); clear hr hb))
            go_ret
            exact ⟨rfl, H9.out.bel⟩
end Go.Proofs.Ytanebifiafghnaa.Walk
