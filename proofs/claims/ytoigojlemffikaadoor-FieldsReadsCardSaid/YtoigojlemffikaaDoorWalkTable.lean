/- The walk of FieldsTable. gen/mk_tb14b.py writes this text. -/
import Derived.Test.YtoigojlemffikaaDoorWk14
import Derived.Test.YtoigojlemffikaaDoorTab14
namespace Go.Proofs.YtoigojlemffikaaDoor.Walk
open Go.RowKit Go.Deep Go.Proofs.YtoigojlemffikaaDoor.PFields Go.Proofs.YtoigojlemffikaaDoorW.PrintWords Go.Proofs.YtoigojlemffikaaDoorW.PrintLast Go.Proofs.YtoigojlemffikaaDoorW.PrintMore Go.Proofs.YtoigojlemffikaaDoor.Hand Go.Proofs.YtoigojlemffikaaDoor.Pure Go.Proofs.YtoigojlemffikaaDoor.Fld
set_option linter.unusedVariables false
set_option linter.unusedSimpArgs false
theorem tbl_write : ∀ i, i < 20 → writeV [tbl.getD i z27] = (strOfNums [128 + (i : Int)], 0) := by decide +kernel
theorem tbl_check : ∀ i, i < 20 → checkV (tbl.getD i z27) = 0 := by decide +kernel
theorem one_bt1 (x : Int) (h0 : 0 ≤ x) (h1 : x ≤ 255) : bt (strOfNums [x]) 0 = x := Pure.one_bt x h0 h1
theorem tbl_read (i : Nat) (hi : i < 20) : readV (strOfNums [128 + (i : Int)]) = ([tbl.getD i z27], 0) := by
  have hb := one_bt1 (128 + (i : Int)) (by omega) (by omega)
  have ht : takeV (strOfNums [128 + (i : Int)]) = (0, tbl.getD i z27, restV (strOfNums [128 + (i : Int)]) 1) := by
    unfold takeV
    rw [hb, if_pos (by omega), if_pos (by omega), show (128 + (i : Int) - 128).toNat = i by omega]
  show readN 1 [] _ = _
  rw [readN_succ, if_neg (by rw [one_size1]; decide), ht]
  dsimp only
  rw [if_neg (by simp), if_neg (by simp), tbl_check i hi, if_neg (by simp)]
  rfl
theorem addr_zero (ad : Addr) : ad.add 0 = ad := by unfold Addr.add; cases ad; simp
set_option maxHeartbeats 8000000 in
set_option maxRecDepth 100000 in
theorem fieldsTable_walk {P : Prop} (i : Int) (w : World) (hT : TB w) (hV : TV w) (G0 : P) : Calls Tryd.prog 7 #[.int .i64 i] w fun e w' => e = .returned (.bool true) ∧ Below w.heap.size w w' := by
  have HT := Aside0.mk hT
  have HV := Aside0.mk hV
  clear hT hV G0
  by_cases h0 : 0 ≤ i ∧ i < 20
  · obtain ⟨n, rfl⟩ := Int.eq_ofNat_of_zero_le h0.1
    have hn : n < 20 := by omega
    have hsm := tbl_small n hn
    have hwr := tbl_write n hn
    have hrd := tbl_read n hn
    have hev : entryV (n : Int) = (tbl.getD n z27, true) := by unfold entryV; rw [if_pos h0, Int.toNat_natCast]
    generalize tbl.getD n z27 = x at hsm hwr hrd hev
    obtain ⟨x0, x1⟩ := x
    obtain ⟨u, hu⟩ : ∃ q, strOfNums [128 + (n : Int)] = q := ⟨_, rfl⟩
    have us : u.size = 1 := by rw [← hu]; exact one_size1 _
    rw [hu] at hwr hrd
    have HU := Aside0.mk hu
    have HWR := Aside0.mk hwr
    have HRD := Aside0.mk hrd
    have HEV := Aside0.mk hev
    have HSX := Aside0.mk (show (⟨x0, x1⟩ : S27).f0.size ≤ 140737488351232 ∧ (⟨x0, x1⟩ : S27).f1.size ≤ 140737488351232 from ⟨by omega, by omega⟩)
    have HUS := Aside0.mk (show u.size ≤ 1000000000 by omega)
    have W1 : wrap64 (128 + (n : Int)) = 128 + (n : Int) := wrap_in _ (by omega) (by omega)
    have W2 : IntKind.i64.wrap (128 + (n : Int)) = 128 + (n : Int) := (i64_w _).trans W1
    have o2 := u8_small (show 128 + (n : Int) < 256 by omega) (by omega)
    have m1 : ((u.size : Int) == 1) = true := by rw [us]; rfl
    have m2 : decide ((u.size : Int) = 1) = true := decide_eq_true (by omega)
    have m3 : (u.size == 1) = true := by rw [us]; rfl
    have m4 : decide (u.size = 1) = true := decide_eq_true us
    clear h0 hn hsm hwr hrd hev hu us
    go_enter Tryd.func7, Tryd.ntmps7
    go_wp2_with (first | (go_at_call 19; (with_reducible refine (works_c _ HT.out HV.out).mono ?_); rintro e_ w1 ⟨rfl, hb⟩; have HB1 := Aside0.mk hb; clear hb) | (go_at_call 10; (with_reducible refine (entry_c (n : Int) _ (Kd.C_below HT.out HB1.out)).mono ?_); rintro e_ w2 ⟨rfl, hb⟩; rw [HEV.out]; dsimp only; have HB2 := Aside0.mk (below_step HB1.out hb); clear hb; have hbz : Below w2.heap.size w2 (w2.alloc (.cells #[.string x0, .string x1] 27)) := below_alloc (Below.refl _ _) _; have hnw := blk_new w2 (.cells #[.string x0, .string x1] 27); have hw4e : ∃ x, w2.alloc (.cells #[.string x0, .string x1] 27) = x := ⟨_, rfl⟩; obtain ⟨w4, hw4⟩ := hw4e; rw [hw4] at hbz hnw; have HNW := Aside0.mk hnw; have HB4 := Aside0.mk (below_step HB2.out hbz); have d0 := (show _ = some (Value.string x0) from (blk_cell hnw 0).trans rfl); have d1 := (show _ = some (Value.string x1) from (blk_cell hnw 1).trans rfl); have hb5 : Below w4.heap.size w4 (w4.alloc (.cells #[.string x0, .string x1] 27)) := below_alloc (Below.refl _ _) _; have HB5 := Aside0.mk (below_step HB4.out hb5); have HC5 := Aside0.mk (C27_blk [⟨x0, x1⟩] (W := w4.alloc (.cells #[.string x0, .string x1] 27)) (g := w4.heap.size) (blk_new w4 _) (by show 1 ≤ _; decide)); have HNW5 := Aside0.mk (blk_below hnw hb5); clear hbz hnw hb5) | (go_at_call 13; (with_reducible refine (write_one _ ⟨x0, x1⟩ u _ HC5.out HSX.out (Kd.C_below HT.out HB5.out) (Kd.C_below HV.out HB5.out) HWR.out).mono ?_); rintro e_ w6 ⟨rfl, hb⟩; have HB6 := Aside0.mk (below_step HB5.out hb); have HNW6 := Aside0.mk (blk_below HNW5.out hb); have hcv := conv_one w6 (b := w6.heap.size) (128 + (n : Int)) rfl; rw [HU.out] at hcv; have HB7 := Aside0.mk (below_step HB6.out (below_alloc (Below.refl w6.heap.size w6) (.cells #[.int .u8 (128 + (n : Int))] 5))); have HNW7 := Aside0.mk (blk_alloc HNW6.out (.cells #[.int .u8 (128 + (n : Int))] 5)); clear hb) | (go_at_call 8; (with_reducible refine (read_c u _ HUS.out (Kd.C_below HT.out HB7.out) (Kd.C_below HV.out HB7.out)).mono ?_); rintro e_ w8 ⟨v, rfl, hr, hb⟩; rw [HRD.out] at hr ⊢; dsimp only at hr ⊢; obtain ⟨A8, c8, rfl⟩ := Kd.R_slice hr; obtain ⟨ad, hA, rows⟩ := el27 (Kd.R_reads' hr).2.2 0 (show 0 < 1 from by decide); subst hA; have hrr := rows w8 (Below.refl _ _); obtain ⟨y0, y1⟩ := hrr; rw [Nat.zero_mul, addr_zero] at y0 y1; have HY := Aside0.mk (And.intro y0 y1); have n8 := blk_below HNW7.out hb; have e0 := (show _ = some (Value.string x0) from (blk_cell n8 0).trans rfl); have e1 := (show _ = some (Value.string x1) from (blk_cell n8 1).trans rfl); have HB8 := Aside0.mk (below_step HB7.out hb); clear hr hb rows n8))
    refine Calm.wp_region_phC [(19, fun w_ => w_.cell? ad = some (.string x0) ∧ w_.cell? ⟨ad.block, ad.off + 1, none⟩ = some (.string x1)), (20, fun w_ => w_.cell? ⟨w2.heap.size, 0, none⟩ = some (.string x0) ∧ w_.cell? ⟨w2.heap.size, 1, none⟩ = some (.string x1))] [([0, 1, 2, 3, 4, 5, 6, 7, 8, 9, 10, 11, 12, 13, 14, 15, 16, 17, 18, 19, 20, 21, 22, 23], [])] (by kernel_rfl) (by kernel_rfl) ?_
    refine Calm.ph_next ?_ ?_
    · repeat (first | exact Calm.okI_nil | (refine Calm.okI_cons (Or.inl (by decide)) ?_) | (refine Calm.okI_cons (Or.inr (by first | exact ⟨y0, y1⟩ | exact ⟨e0, e1⟩)) ?_))
    repeat (first
      | (refine Calm.g_value (v := ?_) (a' := ?_) rfl rfl (by rfl) ?_ ?_ ?_; rotate_left; (· rintro w' hS'; (try simp only [Calm.SC_cons, Calm.SC_nil, Nat.reduceEqDiff, forall_const, false_implies, and_true, true_and] at hS'); (try obtain ⟨hS1, hS2⟩ := hS'); go_simp; with_reducible rfl); rotate_left; (· simp only [Act.put, List.setIfInBounds_toArray, List.set_cons_zero, List.set_cons_succ, i64_w, i32_w]; rfl))
      | (refine Calm.g_off (a' := ?_) rfl rfl (by rfl) ?_ ?_; rotate_left; (· simp only [Act.put, List.setIfInBounds_toArray, List.set_cons_zero, List.set_cons_succ, i64_w, i32_w]; rfl)))
    refine Calm.g_nil ?_
    refine Calm.h_nil ?_
    refine Calm.ph_end ?_
    simp only [Exit.inBlock, Exit.then]
    go_wp2_with (fail)
    go_ret
    exact ⟨rfl, by repeat (first | exact HB8.out | apply below_drew1)⟩
  · have HEV := Aside0.mk (show entryV i = (⟨⟨#[]⟩, ⟨#[]⟩⟩, false) by unfold entryV; rw [if_neg h0]; rfl)
    by_cases h1 : i < 0
    · have D1 : decide (i < 0) = true := decide_eq_true h1
      clear h0 h1
      go_enter Tryd.func7, Tryd.ntmps7
      go_wp2_with (first | (go_at_call 19; (with_reducible refine (works_c _ HT.out HV.out).mono ?_); rintro e_ w1 ⟨rfl, hb⟩; have HB1 := Aside0.mk hb; clear hb) | (go_at_call 10; (with_reducible refine (entry_c i _ (Kd.C_below HT.out HB1.out)).mono ?_); rintro e_ w2 ⟨rfl, hb⟩; rw [HEV.out]; dsimp only; have HB2 := Aside0.mk (below_step HB1.out hb); clear hb))
      go_ret
      exact ⟨rfl, below_step HB2.out (below_alloc (Below.refl _ _) _)⟩
    · have D1 : decide (i < 0) = false := decide_eq_false h1
      have D2 : decide (i ≥ 20) = true := decide_eq_true (by omega)
      have D3 : decide (20 ≤ i) = true := D2
      clear h0 h1
      go_enter Tryd.func7, Tryd.ntmps7
      go_wp2_with (first | (go_at_call 19; (with_reducible refine (works_c _ HT.out HV.out).mono ?_); rintro e_ w1 ⟨rfl, hb⟩; have HB1 := Aside0.mk hb; clear hb) | (go_at_call 10; (with_reducible refine (entry_c i _ (Kd.C_below HT.out HB1.out)).mono ?_); rintro e_ w2 ⟨rfl, hb⟩; rw [HEV.out]; dsimp only; have HB2 := Aside0.mk (below_step HB1.out hb); clear hb))
      go_ret
      exact ⟨rfl, below_step HB2.out (below_alloc (Below.refl _ _) _)⟩
end Go.Proofs.YtoigojlemffikaaDoor.Walk
