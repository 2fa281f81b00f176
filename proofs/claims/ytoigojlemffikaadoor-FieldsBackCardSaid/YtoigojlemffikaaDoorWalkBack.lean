/- The walk of FieldsBack. gen/mk_bk14.py writes this text. -/
import Derived.Test.YtoigojlemffikaaDoorWk14
import Derived.Test.YtoigojlemffikaaDoorBk14
namespace Go.Proofs.YtoigojlemffikaaDoor.Walk
open Go.RowKit Go.Deep Go.Proofs.YtoigojlemffikaaDoor.PFields Go.Proofs.YtoigojlemffikaaDoorW.PrintWords Go.Proofs.YtoigojlemffikaaDoorW.PrintLast Go.Proofs.YtoigojlemffikaaDoorW.PrintMore Go.Proofs.YtoigojlemffikaaDoor.Hand Go.Proofs.YtoigojlemffikaaDoor.Pure Go.Proofs.YtoigojlemffikaaDoor.Fld
set_option linter.unusedVariables false
set_option linter.unusedSimpArgs false
theorem cat_size (l : List S27) (h : ∀ f ∈ l, checkV f = 0) : (catV l).size ≤ l.length * 600 := by
  induction l with
  | nil => exact Nat.zero_le _
  | cons f t ih =>
    have h1 := small_of_check (h f (List.mem_cons_self ..))
    have h2 := line_size f h1.1 h1.2
    have h3 := ih (fun g hg => h g (List.mem_cons_of_mem _ hg))
    rw [cat_cons, ByteArray.size_append, List.length_cons]
    omega
set_option maxHeartbeats 8000000 in
set_option maxRecDepth 100000 in
theorem fieldsBack_walk {P : Prop} (A : Option Addr) (cap : Nat) (l : List S27) (s : ByteArray) (w : World) (hr : k27.C w A l.length l) (hc : l.length ≤ cap) (hT : TB w) (hV : TV w) (G0 : l.length * 32 ≤ 140737488351232 ∧ Sized l) (G1 : P) : Calls Tryd.prog 5 #[.slice A l.length cap, .string s] w fun e w' => e = .returned (.bool true) ∧ Below w.heap.size w w' := by
  have HR := Aside0.mk hr
  have HC := Aside0.mk hc
  have HT := Aside0.mk hT
  have HV := Aside0.mk hV
  have HS := Aside0.mk G0.2
  clear hr hc hT hV G0 G1
  by_cases hs : 20000 < s.size
  · have S1 : decide ((s.size : Int) > 20000) = true := decide_eq_true (by omega)
    have S2 : decide ((20000 : Int) < (s.size : Int)) = true := S1
    have S3 : decide (20000 < s.size) = true := decide_eq_true hs
    clear hs
    go_enter Tryd.func5, Tryd.ntmps5
    go_wp2_with (go_at_call 19; (with_reducible refine (works_c _ HT.out HV.out).mono ?_); rintro e_ w1 ⟨rfl, hb⟩; have HB1 := Aside0.mk hb; clear hb)
    go_ret
    exact ⟨rfl, HB1.out⟩
  have S1 : decide ((s.size : Int) > 20000) = false := decide_eq_false (by omega)
  have S2 : decide ((20000 : Int) < (s.size : Int)) = false := S1
  have S3 : decide (20000 < s.size) = false := decide_eq_false hs
  have HSS := Aside0.mk (show s.size ≤ 1000000000 by omega)
  clear hs
  by_cases e0 : checksV l = 0
  · have hall := checks_all e0
    have HW0 := show writeV l = (catV l, 0) by unfold writeV; rw [if_pos e0]
    have HR0 := read_write e0
    have hts := cat_size l hall.2
    obtain ⟨t, ht⟩ : ∃ q, catV l = q := ⟨_, rfl⟩
    rw [ht] at HW0 HR0 hts
    have HW := Aside0.mk HW0
    have HRD := Aside0.mk HR0
    have HTS := Aside0.mk (show t.size ≤ 1000000000 by have := hall.1; omega)
    obtain ⟨ks, hks⟩ := same_self l (by have := hall.1; omega)
    have HKS := Aside0.mk hks
    clear e0 hall HW0 HR0 hts ht hks
    obtain ⟨x, xe, hx⟩ : ∃ x e, readV s = (x, e) := ⟨_, _, rfl⟩
    have HRS := Aside0.mk hx
    by_cases f0 : xe = 0
    · subst f0
      obtain ⟨ck, hz⟩ := read_ok hx
      have HXS := Aside0.mk (show Sized x from fun f hf => by have := small_of_check ((checks_all ck).2 f hf); exact ⟨by omega, by omega⟩)
      have HWX := Aside0.mk (show writeV x = (catV x, 0) by unfold writeV; rw [if_pos ck])
      obtain ⟨u, hu⟩ : ∃ q, catV x = q := ⟨_, rfl⟩
      rw [hu] at HWX hz
      have z1 : decide ((u.size : Int) ≤ (s.size : Int)) = true := decide_eq_true (by omega)
      have z2 : decide (u.size ≤ s.size) = true := decide_eq_true hz
      clear hx ck hz hu
      go_enter Tryd.func5, Tryd.ntmps5
      go_wp2_with (first | (go_at_call 19; (with_reducible refine (works_c _ HT.out HV.out).mono ?_); rintro e_ w1 ⟨rfl, hb⟩; have HB1 := Aside0.mk hb; clear hb) | (go_at_call 13; (with_reducible refine (write_l A cap l _ (Kd.C_below HR.out HB1.out) HC.out HS.out (Kd.C_below HT.out HB1.out) (Kd.C_below HV.out HB1.out)).mono ?_); rintro e_ w2 ⟨rfl, hb⟩; rw [HW.out]; dsimp only; have HB2 := Aside0.mk (below_step HB1.out hb); clear hb) | (go_at_call 8; (with_reducible refine (read_c t _ HTS.out (Kd.C_below HT.out HB2.out) (Kd.C_below HV.out HB2.out)).mono ?_); rintro e_ w3 ⟨v3, rfl, hr3, hb⟩; rw [HRD.out] at hr3 ⊢; dsimp only at hr3 ⊢; obtain ⟨A3, c3, rfl⟩ := Kd.R_slice hr3; have HR3 := Aside0.mk (Kd.R_reads' hr3).2; have HB3 := Aside0.mk (below_step HB2.out hb); clear hb hr3) | (go_at_call 12; (with_reducible refine (vizardref14_Same.calls ks A3 c3 l A cap l true w3 HR3.out.2 HR3.out.1 (Kd.C_below HR.out HB3.out) HC.out HKS.out).mono ?_); rintro e_ w4 ⟨rfl, hd⟩; have HB4 := Aside0.mk (below_drawn0 HB3.out hd); clear hd) | (go_at_call 8; (with_reducible refine (read_c s _ HSS.out (Kd.C_below HT.out HB4.out) (Kd.C_below HV.out HB4.out)).mono ?_); rintro e_ w5 ⟨v5, rfl, hr5, hb⟩; rw [HRS.out] at hr5 ⊢; dsimp only at hr5 ⊢; obtain ⟨A5, c5, rfl⟩ := Kd.R_slice hr5; have HR5 := Aside0.mk (Kd.R_reads' hr5).2; have HB5 := Aside0.mk (below_step HB4.out hb); clear hb hr5) | (go_at_call 13; (with_reducible refine (write_l A5 c5 x _ HR5.out.2 HR5.out.1 HXS.out (Kd.C_below HT.out HB5.out) (Kd.C_below HV.out HB5.out)).mono ?_); rintro e_ w6 ⟨rfl, hb⟩; rw [HWX.out]; dsimp only; have HB6 := Aside0.mk (below_step HB5.out hb); clear hb))
      go_ret
      exact ⟨rfl, HB6.out⟩
    · obtain rfl : x = [] := read_bad _ _ _ _ _ hx f0
      obtain ⟨k1, k2, k3, k4, k5⟩ := ne0 f0
      clear hx f0
      go_enter Tryd.func5, Tryd.ntmps5
      go_wp2_with (first | (go_at_call 19; (with_reducible refine (works_c _ HT.out HV.out).mono ?_); rintro e_ w1 ⟨rfl, hb⟩; have HB1 := Aside0.mk hb; clear hb) | (go_at_call 13; (with_reducible refine (write_l A cap l _ (Kd.C_below HR.out HB1.out) HC.out HS.out (Kd.C_below HT.out HB1.out) (Kd.C_below HV.out HB1.out)).mono ?_); rintro e_ w2 ⟨rfl, hb⟩; rw [HW.out]; dsimp only; have HB2 := Aside0.mk (below_step HB1.out hb); clear hb) | (go_at_call 8; (with_reducible refine (read_c t _ HTS.out (Kd.C_below HT.out HB2.out) (Kd.C_below HV.out HB2.out)).mono ?_); rintro e_ w3 ⟨v3, rfl, hr3, hb⟩; rw [HRD.out] at hr3 ⊢; dsimp only at hr3 ⊢; obtain ⟨A3, c3, rfl⟩ := Kd.R_slice hr3; have HR3 := Aside0.mk (Kd.R_reads' hr3).2; have HB3 := Aside0.mk (below_step HB2.out hb); clear hb hr3) | (go_at_call 12; (with_reducible refine (vizardref14_Same.calls ks A3 c3 l A cap l true w3 HR3.out.2 HR3.out.1 (Kd.C_below HR.out HB3.out) HC.out HKS.out).mono ?_); rintro e_ w4 ⟨rfl, hd⟩; have HB4 := Aside0.mk (below_drawn0 HB3.out hd); clear hd) | (go_at_call 8; (with_reducible refine (read_c s _ HSS.out (Kd.C_below HT.out HB4.out) (Kd.C_below HV.out HB4.out)).mono ?_); rintro e_ w5 ⟨v5, rfl, hr5, hb⟩; rw [HRS.out] at hr5 ⊢; dsimp only at hr5 ⊢; obtain ⟨A5, c5, rfl⟩ := Kd.R_slice hr5; have HR5 := Aside0.mk (Kd.R_reads' hr5).2; have HB5 := Aside0.mk (below_step HB4.out hb); clear hb hr5))
      go_ret
      exact ⟨rfl, HB5.out⟩
  · have HW := Aside0.mk (show writeV l = (⟨#[]⟩, checksV l) by unfold writeV; rw [if_neg e0])
    obtain ⟨ee, hee⟩ : ∃ q, checksV l = q := ⟨_, rfl⟩
    rw [hee] at HW e0
    obtain ⟨n1, n2, n3, n4, n5⟩ := ne0 e0
    clear e0 hee
    obtain ⟨x, xe, hx⟩ : ∃ x e, readV s = (x, e) := ⟨_, _, rfl⟩
    have HRS := Aside0.mk hx
    by_cases f0 : xe = 0
    · subst f0
      obtain ⟨ck, hz⟩ := read_ok hx
      have HXS := Aside0.mk (show Sized x from fun f hf => by have := small_of_check ((checks_all ck).2 f hf); exact ⟨by omega, by omega⟩)
      have HWX := Aside0.mk (show writeV x = (catV x, 0) by unfold writeV; rw [if_pos ck])
      obtain ⟨u, hu⟩ : ∃ q, catV x = q := ⟨_, rfl⟩
      rw [hu] at HWX hz
      have z1 : decide ((u.size : Int) ≤ (s.size : Int)) = true := decide_eq_true (by omega)
      have z2 : decide (u.size ≤ s.size) = true := decide_eq_true hz
      clear hx ck hz hu
      go_enter Tryd.func5, Tryd.ntmps5
      go_wp2_with (first | (go_at_call 19; (with_reducible refine (works_c _ HT.out HV.out).mono ?_); rintro e_ w1 ⟨rfl, hb⟩; have HB1 := Aside0.mk hb; clear hb) | (go_at_call 13; (with_reducible refine (write_l A cap l _ (Kd.C_below HR.out HB1.out) HC.out HS.out (Kd.C_below HT.out HB1.out) (Kd.C_below HV.out HB1.out)).mono ?_); rintro e_ w2 ⟨rfl, hb⟩; rw [HW.out]; dsimp only; have HB2 := Aside0.mk (below_step HB1.out hb); clear hb) | (go_at_call 8; (with_reducible refine (read_c s _ HSS.out (Kd.C_below HT.out HB2.out) (Kd.C_below HV.out HB2.out)).mono ?_); rintro e_ w5 ⟨v5, rfl, hr5, hb⟩; rw [HRS.out] at hr5 ⊢; dsimp only at hr5 ⊢; obtain ⟨A5, c5, rfl⟩ := Kd.R_slice hr5; have HR5 := Aside0.mk (Kd.R_reads' hr5).2; have HB5 := Aside0.mk (below_step HB2.out hb); clear hb hr5) | (go_at_call 13; (with_reducible refine (write_l A5 c5 x _ HR5.out.2 HR5.out.1 HXS.out (Kd.C_below HT.out HB5.out) (Kd.C_below HV.out HB5.out)).mono ?_); rintro e_ w6 ⟨rfl, hb⟩; rw [HWX.out]; dsimp only; have HB6 := Aside0.mk (below_step HB5.out hb); clear hb))
      go_ret
      exact ⟨rfl, HB6.out⟩
    · obtain rfl : x = [] := read_bad _ _ _ _ _ hx f0
      obtain ⟨k1, k2, k3, k4, k5⟩ := ne0 f0
      clear hx f0
      go_enter Tryd.func5, Tryd.ntmps5
      go_wp2_with (first | (go_at_call 19; (with_reducible refine (works_c _ HT.out HV.out).mono ?_); rintro e_ w1 ⟨rfl, hb⟩; have HB1 := Aside0.mk hb; clear hb) | (go_at_call 13; (with_reducible refine (write_l A cap l _ (Kd.C_below HR.out HB1.out) HC.out HS.out (Kd.C_below HT.out HB1.out) (Kd.C_below HV.out HB1.out)).mono ?_); rintro e_ w2 ⟨rfl, hb⟩; rw [HW.out]; dsimp only; have HB2 := Aside0.mk (below_step HB1.out hb); clear hb) | (go_at_call 8; (with_reducible refine (read_c s _ HSS.out (Kd.C_below HT.out HB2.out) (Kd.C_below HV.out HB2.out)).mono ?_); rintro e_ w5 ⟨v5, rfl, hr5, hb⟩; rw [HRS.out] at hr5 ⊢; dsimp only at hr5 ⊢; obtain ⟨A5, c5, rfl⟩ := Kd.R_slice hr5; have HR5 := Aside0.mk (Kd.R_reads' hr5).2; have HB5 := Aside0.mk (below_step HB2.out hb); clear hb hr5))
      go_ret
      exact ⟨rfl, HB5.out⟩
end Go.Proofs.YtoigojlemffikaaDoor.Walk
