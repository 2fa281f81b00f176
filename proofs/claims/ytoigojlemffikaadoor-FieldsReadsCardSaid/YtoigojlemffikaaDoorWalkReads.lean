/- The walk of FieldsReads. gen/mk_rr14.py writes this text. -/
import Derived.Test.YtoigojlemffikaaDoorRref14
import Derived.Test.YtoigojlemffikaaDoorBk14
import Derived.Test.YtoigojlemffikaaDoorWalkWrites
import Derived.Test.YtoigojlemffikaaDoorWalkTable
namespace Go.Proofs.YtoigojlemffikaaDoor.Walk
open Go.RowKit Go.Deep Go.Proofs.YtoigojlemffikaaDoor.PFields Go.Proofs.YtoigojlemffikaaDoorW.PrintWords Go.Proofs.YtoigojlemffikaaDoorW.PrintLast Go.Proofs.YtoigojlemffikaaDoorW.PrintMore Go.Proofs.YtoigojlemffikaaDoor.Hand Go.Proofs.YtoigojlemffikaaDoor.Pure Go.Proofs.YtoigojlemffikaaDoor.Fld
set_option linter.unusedVariables false
set_option linter.unusedSimpArgs false
theorem read_len {s : ByteArray} {x : List S27} {e : Int} (h : readV s = (x, e)) : x.length ≤ 100000 := by
  by_cases f0 : e = 0
  · subst f0
    have := (checks_all (read_ok h).1).1
    omega
  · obtain rfl : x = [] := read_bad _ _ _ _ _ h f0
    decide
set_option maxHeartbeats 8000000 in
set_option maxRecDepth 100000 in
theorem fieldsReads_walk {P Q : Prop} (s : ByteArray) (i : Int) (w : World) (hT : TB w) (hV : TV w) (G0 : P) (G1 : Q) : Calls Tryd.prog 3 #[.string s, .int .i64 i] w fun e w' => e = .returned (.bool true) ∧ Below w.heap.size w w' := by
  have HT := Aside0.mk hT
  have HV := Aside0.mk hV
  clear hT hV G0 G1
  by_cases hs : 20000 < s.size
  · have S1 : decide ((s.size : Int) > 20000) = true := decide_eq_true (by omega)
    have S2 : decide ((20000 : Int) < (s.size : Int)) = true := S1
    have S3 : decide (20000 < s.size) = true := decide_eq_true hs
    clear hs
    go_enter Tryd.func3, Tryd.ntmps3
    go_wp2_with (fail)
    go_ret
    exact ⟨rfl, Below.refl _ _⟩
  have S1 : decide ((s.size : Int) > 20000) = false := decide_eq_false (by omega)
  have S2 : decide ((20000 : Int) < (s.size : Int)) = false := S1
  have S3 : decide (20000 < s.size) = false := decide_eq_false hs
  have HSS := Aside0.mk (show s.size ≤ 1000000000 by omega)
  obtain ⟨k1, hk1⟩ := (read_ev s HSS.out).rounds
  obtain ⟨x, xe, hx⟩ : ∃ x e, readV s = (x, e) := ⟨_, _, rfl⟩
  rw [hx] at hk1
  obtain ⟨k2, hk2⟩ := same_self x (read_len hx)
  have HRD := Aside0.mk hx
  have HK1 := Aside0.mk hk1
  have HK2 := Aside0.mk hk2
  clear hs hx hk1 hk2
  obtain ⟨tl, htl⟩ : ∃ q, tbl = q := ⟨_, rfl⟩
  have htf := table_f
  have htn := tbl_len
  rw [htl] at htf htn
  have HTF := Aside0.mk htf
  have HTL := Aside0.mk htn
  clear htf htn
  by_cases h0 : 0 ≤ i ∧ i < 20
  · obtain ⟨n, rfl⟩ := Int.eq_ofNat_of_zero_le h0.1
    have hn : n < 20 := by omega
    have hev : entryV (n : Int) = (tl.getD n z27, true) := by unfold entryV; rw [if_pos h0, Int.toNat_natCast, htl]
    obtain ⟨x0, x1, hxx⟩ : ∃ a b, tl.getD n z27 = ⟨a, b⟩ := ⟨_, _, rfl⟩
    rw [hxx] at hev
    have HEV := Aside0.mk hev
    have HTN := Aside0.mk hxx
    have HN := Aside0.mk hn
    have D1 : decide ((n : Int) ≥ 0) = true := decide_eq_true h0.1
    have D2 : decide ((0 : Int) ≤ (n : Int)) = true := D1
    have D3 : decide ((n : Int) < 20) = true := decide_eq_true h0.2
    have D4 : decide (n < 20) = true := decide_eq_true hn
    have D5 : ((n : Int) < 20) = True := eq_true h0.2
    have D6 : ((0 : Int) ≤ (n : Int)) = True := eq_true h0.1
    have D7 : (n < 20) = True := eq_true hn
    clear h0 hn hev hxx htl
    go_enter Tryd.func3, Tryd.ntmps3
    go_wp2_with (first | (go_at_call 8; (with_reducible refine (read_c s _ HSS.out HT.out HV.out).mono ?_); rintro e_ w3 ⟨v3, rfl, hr3, hb⟩; rw [HRD.out] at hr3 ⊢; dsimp only at hr3 ⊢; obtain ⟨A3, c3, rfl⟩ := Kd.R_slice hr3; have HR3 := Aside0.mk (Kd.R_reads' hr3).2; have HB3 := Aside0.mk hb; clear hb hr3) | (go_at_call 9; (with_reducible refine (vizardref14_Read.calls k1 s x xe _ HK1.out).mono ?_); rintro e_ w4 ⟨v4, rfl, hr4, hb⟩; obtain ⟨A4, c4, rfl⟩ := Kd.R_slice hr4; have HR4 := Aside0.mk (Kd.R_reads' hr4).2; have HX4 := Aside0.mk hb; have HB4 := Aside0.mk (below_step HB3.out hb); clear hb hr4) | (go_at_call 10; (with_reducible refine (entry_c (n : Int) _ (Kd.C_below HT.out HB4.out)).mono ?_); rintro e_ w5 ⟨rfl, hb⟩; rw [HEV.out]; dsimp only; have HY5 := Aside0.mk hb; have HX5 := Aside0.mk (below_step HX4.out hb); have HB5 := Aside0.mk (below_step HB4.out hb); have hbz : Below w5.heap.size w5 (w5.alloc (.cells #[.string x0, .string x1] 27)) := below_alloc (Below.refl _ _) _; have hnw := blk_new w5 (.cells #[.string x0, .string x1] 27); have hw6e : ∃ x, w5.alloc (.cells #[.string x0, .string x1] 27) = x := ⟨_, rfl⟩; obtain ⟨w6, hw6⟩ := hw6e; rw [hw6] at hbz hnw; have HNW := Aside0.mk hnw; have HY6 := Aside0.mk (below_step HY5.out hbz); have HX6 := Aside0.mk (below_step HX5.out hbz); have HB6 := Aside0.mk (below_step HB5.out hbz); clear hbz hnw hb) | (go_at_call 11; (with_reducible refine (vizardref14_Table.calls tl _ HTF.out).mono ?_); rintro e_ w7 ⟨v7, rfl, hr7, hb⟩; obtain ⟨A7, c7, rfl⟩ := Kd.R_slice hr7; rw [HTL.out]; have HY7 := Aside0.mk (below_step HY6.out hb); have HX7 := Aside0.mk (below_step HX6.out hb); have HB7 := Aside0.mk (below_step HB6.out hb); have hn7 := blk_below HNW.out hb; have e0 := (show _ = some (Value.string x0) from (blk_cell hn7 0).trans rfl); have e1 := (show _ = some (Value.string x1) from (blk_cell hn7 1).trans rfl); obtain ⟨ad, hA, rows⟩ := el27 (Kd.R_reads' hr7).2.2 n (by rw [HTL.out]; exact HN.out); subst hA; have hrr := rows w7 (Below.refl _ _); rw [HTN.out] at hrr; obtain ⟨y0, y1⟩ := hrr; clear hb hr7))
    refine Calm.wp_region_phC [(3, fun w_ => w_.cell? ⟨w5.heap.size, 0, none⟩ = some (.string x0) ∧ w_.cell? ⟨w5.heap.size, 1, none⟩ = some (.string x1)), (7, fun w_ => w_.cell? (ad.add (n * 2)) = some (.string x0) ∧ w_.cell? ⟨(ad.add (n * 2)).block, (ad.add (n * 2)).off + 1, none⟩ = some (.string x1))] [([0, 1, 2, 3, 4, 5, 6, 7, 8, 9], [])] (by kernel_rfl) (by kernel_rfl) ?_
    refine Calm.ph_next ?_ ?_
    · repeat (first | exact Calm.okI_nil | (refine Calm.okI_cons (Or.inl (by decide)) ?_) | (refine Calm.okI_cons (Or.inr (by first | exact ⟨e0, e1⟩ | exact ⟨y0, y1⟩)) ?_))
    repeat (first
      | (refine Calm.g_value (v := ?_) (a' := ?_) rfl rfl (by rfl) ?_ ?_ ?_; rotate_left; (· rintro w' hS'; (try simp only [Calm.SC_cons, Calm.SC_nil, Nat.reduceEqDiff, forall_const, false_implies, and_true, true_and] at hS'); (try obtain ⟨hS1, hS2⟩ := hS'); go_simp; with_reducible rfl); rotate_left; (· simp only [Act.put, List.setIfInBounds_toArray, List.set_cons_zero, List.set_cons_succ, i64_w, i32_w]; rfl))
      | (refine Calm.g_off (a' := ?_) rfl rfl (by rfl) ?_ ?_; rotate_left; (· simp only [Act.put, List.setIfInBounds_toArray, List.set_cons_zero, List.set_cons_succ, i64_w, i32_w]; rfl)))
    refine Calm.g_nil ?_
    refine Calm.h_nil ?_
    refine Calm.ph_end ?_
    simp only [Exit.inBlock, Exit.then]
    go_wp2_with (go_at_call 12; (with_reducible refine (vizardref14_Same.calls k2 A3 c3 x A4 c4 x true _ (Kd.C_below HR3.out.2 (by repeat (first | exact HX7.out | apply below_drew1))) HR3.out.1 (Kd.C_below HR4.out.2 (by repeat (first | exact HY7.out | apply below_drew1))) HR4.out.1 HK2.out).mono ?_); rintro e_ w8 ⟨rfl, hd⟩; have HB8 := Aside0.mk (below_drawn0 (by repeat (first | exact HB7.out | apply below_drew1)) hd); clear hd)
    go_ret
    exact ⟨rfl, HB8.out⟩
  · have HEV := Aside0.mk (show entryV i = (⟨⟨#[]⟩, ⟨#[]⟩⟩, false) by unfold entryV; rw [if_neg h0]; rfl)
    obtain ⟨x0, x1, q1, q2, HEV⟩ : ∃ a b, a = (⟨#[]⟩ : ByteArray) ∧ b = (⟨#[]⟩ : ByteArray) ∧ Aside0 (entryV i = (⟨a, b⟩, false)) := ⟨_, _, rfl, rfl, HEV⟩
    have q3 : x0.toList = [] := by rw [q1]; exact (toList_nil _).2 rfl
    have q4 : x1.toList = [] := by rw [q2]; exact (toList_nil _).2 rfl
    clear q1 q2
    by_cases h1 : i < 0
    · have D1 : decide (i ≥ 0) = false := decide_eq_false (by omega)
      have D2 : decide (0 ≤ i) = false := D1
      clear h0 h1 htl
      go_enter Tryd.func3, Tryd.ntmps3
      go_wp2_with (first | (go_at_call 8; (with_reducible refine (read_c s _ HSS.out HT.out HV.out).mono ?_); rintro e_ w3 ⟨v3, rfl, hr3, hb⟩; rw [HRD.out] at hr3 ⊢; dsimp only at hr3 ⊢; obtain ⟨A3, c3, rfl⟩ := Kd.R_slice hr3; have HR3 := Aside0.mk (Kd.R_reads' hr3).2; have HB3 := Aside0.mk hb; clear hb hr3) | (go_at_call 9; (with_reducible refine (vizardref14_Read.calls k1 s x xe _ HK1.out).mono ?_); rintro e_ w4 ⟨v4, rfl, hr4, hb⟩; obtain ⟨A4, c4, rfl⟩ := Kd.R_slice hr4; have HR4 := Aside0.mk (Kd.R_reads' hr4).2; have HX4 := Aside0.mk hb; have HB4 := Aside0.mk (below_step HB3.out hb); clear hb hr4) | (go_at_call 10; (with_reducible refine (entry_c i _ (Kd.C_below HT.out HB4.out)).mono ?_); rintro e_ w5 ⟨rfl, hb⟩; rw [HEV.out]; dsimp only; have HY5 := Aside0.mk hb; have HX5 := Aside0.mk (below_step HX4.out hb); have HB5 := Aside0.mk (below_step HB4.out hb); have hbz : Below w5.heap.size w5 (w5.alloc (.cells #[.string x0, .string x1] 27)) := below_alloc (Below.refl _ _) _; have hnw := blk_new w5 (.cells #[.string x0, .string x1] 27); have hw6e : ∃ x, w5.alloc (.cells #[.string x0, .string x1] 27) = x := ⟨_, rfl⟩; obtain ⟨w6, hw6⟩ := hw6e; rw [hw6] at hbz hnw; have HNW := Aside0.mk hnw; have HY6 := Aside0.mk (below_step HY5.out hbz); have HX6 := Aside0.mk (below_step HX5.out hbz); have HB6 := Aside0.mk (below_step HB5.out hbz); clear hbz hnw hb) | (go_at_call 11; (with_reducible refine (vizardref14_Table.calls tl _ HTF.out).mono ?_); rintro e_ w7 ⟨v7, rfl, hr7, hb⟩; obtain ⟨A7, c7, rfl⟩ := Kd.R_slice hr7; rw [HTL.out]; have HY7 := Aside0.mk (below_step HY6.out hb); have HX7 := Aside0.mk (below_step HX6.out hb); have HB7 := Aside0.mk (below_step HB6.out hb); have hn7 := blk_below HNW.out hb; have e0 := (show _ = some (Value.string x0) from (blk_cell hn7 0).trans rfl); have e1 := (show _ = some (Value.string x1) from (blk_cell hn7 1).trans rfl);  clear hb hr7) | (go_at_call 12; (with_reducible refine (vizardref14_Same.calls k2 A3 c3 x A4 c4 x true _ (Kd.C_below HR3.out.2 HX7.out) HR3.out.1 (Kd.C_below HR4.out.2 HY7.out) HR4.out.1 HK2.out).mono ?_); rintro e_ w8 ⟨rfl, hd⟩; have HB8 := Aside0.mk (below_drawn0 HB7.out hd); clear hd))
      go_ret
      exact ⟨rfl, HB8.out⟩
    · have D1 : decide (i ≥ 0) = true := decide_eq_true (by omega)
      have D2 : decide (0 ≤ i) = true := D1
      have D3 : decide (i < 20) = false := decide_eq_false (by omega)
      clear h0 h1 htl
      go_enter Tryd.func3, Tryd.ntmps3
      go_wp2_with (first | (go_at_call 8; (with_reducible refine (read_c s _ HSS.out HT.out HV.out).mono ?_); rintro e_ w3 ⟨v3, rfl, hr3, hb⟩; rw [HRD.out] at hr3 ⊢; dsimp only at hr3 ⊢; obtain ⟨A3, c3, rfl⟩ := Kd.R_slice hr3; have HR3 := Aside0.mk (Kd.R_reads' hr3).2; have HB3 := Aside0.mk hb; clear hb hr3) | (go_at_call 9; (with_reducible refine (vizardref14_Read.calls k1 s x xe _ HK1.out).mono ?_); rintro e_ w4 ⟨v4, rfl, hr4, hb⟩; obtain ⟨A4, c4, rfl⟩ := Kd.R_slice hr4; have HR4 := Aside0.mk (Kd.R_reads' hr4).2; have HX4 := Aside0.mk hb; have HB4 := Aside0.mk (below_step HB3.out hb); clear hb hr4) | (go_at_call 10; (with_reducible refine (entry_c i _ (Kd.C_below HT.out HB4.out)).mono ?_); rintro e_ w5 ⟨rfl, hb⟩; rw [HEV.out]; dsimp only; have HY5 := Aside0.mk hb; have HX5 := Aside0.mk (below_step HX4.out hb); have HB5 := Aside0.mk (below_step HB4.out hb); have hbz : Below w5.heap.size w5 (w5.alloc (.cells #[.string x0, .string x1] 27)) := below_alloc (Below.refl _ _) _; have hnw := blk_new w5 (.cells #[.string x0, .string x1] 27); have hw6e : ∃ x, w5.alloc (.cells #[.string x0, .string x1] 27) = x := ⟨_, rfl⟩; obtain ⟨w6, hw6⟩ := hw6e; rw [hw6] at hbz hnw; have HNW := Aside0.mk hnw; have HY6 := Aside0.mk (below_step HY5.out hbz); have HX6 := Aside0.mk (below_step HX5.out hbz); have HB6 := Aside0.mk (below_step HB5.out hbz); clear hbz hnw hb) | (go_at_call 11; (with_reducible refine (vizardref14_Table.calls tl _ HTF.out).mono ?_); rintro e_ w7 ⟨v7, rfl, hr7, hb⟩; obtain ⟨A7, c7, rfl⟩ := Kd.R_slice hr7; rw [HTL.out]; have HY7 := Aside0.mk (below_step HY6.out hb); have HX7 := Aside0.mk (below_step HX6.out hb); have HB7 := Aside0.mk (below_step HB6.out hb); have hn7 := blk_below HNW.out hb; have e0 := (show _ = some (Value.string x0) from (blk_cell hn7 0).trans rfl); have e1 := (show _ = some (Value.string x1) from (blk_cell hn7 1).trans rfl);  clear hb hr7) | (go_at_call 12; (with_reducible refine (vizardref14_Same.calls k2 A3 c3 x A4 c4 x true _ (Kd.C_below HR3.out.2 HX7.out) HR3.out.1 (Kd.C_below HR4.out.2 HY7.out) HR4.out.1 HK2.out).mono ?_); rintro e_ w8 ⟨rfl, hd⟩; have HB8 := Aside0.mk (below_drawn0 HB7.out hd); clear hd))
      go_ret
      exact ⟨rfl, HB8.out⟩
end Go.Proofs.YtoigojlemffikaaDoor.Walk
