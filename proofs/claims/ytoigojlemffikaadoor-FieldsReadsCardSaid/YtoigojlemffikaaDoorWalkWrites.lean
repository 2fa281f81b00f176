/- The walk of FieldsWrites. gen/mk_wt14.py writes this text. -/
import Derived.Test.YtoigojlemffikaaDoorRef14
namespace Go.Proofs.YtoigojlemffikaaDoor.Walk
open Go.RowKit Go.Deep Go.Proofs.YtoigojlemffikaaDoor.PFields Go.Proofs.YtoigojlemffikaaDoorW.PrintWords Go.Proofs.YtoigojlemffikaaDoorW.PrintLast Go.Proofs.YtoigojlemffikaaDoorW.PrintMore Go.Proofs.YtoigojlemffikaaDoor.Hand Go.Proofs.YtoigojlemffikaaDoor.Pure Go.Proofs.YtoigojlemffikaaDoor.Fld
set_option linter.unusedVariables false
set_option linter.unusedSimpArgs false
theorem R_empty (w : World) {base : Nat} (hb : base ≤ w.heap.size) : Kd.R k27 27 (w.alloc (.cells #[] 27)) base (fun _ => True) (.slice (some ⟨w.heap.size, 0, none⟩) 0 0) [] :=
  ⟨fun _ _ => trivial, [], World.ownsRow_lit w #[] 0 hb (by decide) rfl, rfl, fun j p hj => by simp at hj⟩
theorem rinfo27b : (Tryd.prog.info? 27).map (fun i => (i.zero, i.size, i.bytes)) = some (some (.agg #[.string (⟨#[]⟩ : ByteArray), .string (⟨#[]⟩ : ByteArray)]), 2, 32) := by kernel_rfl
theorem same_ev2 (l : List S27) (hl : l.length ≤ 4398046511104) (d : Nat) : ∀ i : Nat, l.length - i = d → i ≤ l.length → Ev (fun k => vizardref14_Same.l0 k l l i) true := by
  induction d with
  | zero =>
    intro i hd hi
    refine Ev.step (f := fun _ => some true) (fun k => ?_) (Ev.now _)
    simp only [vizardref14_Same.l0]; rw [if_neg (by omega)]
  | succ d ih =>
    intro i hd hi
    refine Ev.step (fun k => ?_) (ih (i + 1) (by omega) (by omega))
    simp only [vizardref14_Same.l0]
    rw [if_pos (by omega), if_pos (by omega), if_pos (by omega), if_neg (by simp), wrap_in _ (by omega) (by omega)]
    rfl
theorem same_long (l : List S27) (hl : l.length ≤ 4398046511104) : ∃ k, vizardref14_Same.f k l l = some true := by
  refine (Ev.congr (fun k => ?_) (same_ev2 l hl l.length 0 (by omega) (by omega))).rounds
  simp only [vizardref14_Same.f]
  rw [if_pos trivial]
  rfl
set_option maxHeartbeats 8000000 in
set_option maxRecDepth 100000 in
theorem fieldsWrites_walk {P : Prop} (A : Option Addr) (cap : Nat) (l : List S27) (s : ByteArray) (w : World) (hr : k27.C w A l.length l) (hc : l.length ≤ cap) (hT : TB w) (hV : TV w) (G0 : l.length * 32 ≤ 140737488351232 ∧ Sized l) (G1 : P) : Calls Tryd.prog 4 #[.slice A l.length cap, .string s] w fun e w' => e = .returned (.bool true) ∧ Below w.heap.size w w' := by
  have HR := Aside0.mk hr
  have HC := Aside0.mk hc
  have HT := Aside0.mk hT
  have HV := Aside0.mk hV
  have HS := Aside0.mk G0.2
  have HLN := Aside0.mk G0.1
  have hl := G0.1
  clear hr hc hT hV G0 G1
  obtain ⟨k1, hk1⟩ := (rwrite_ev l HS.out).rounds
  obtain ⟨k2, hk2⟩ := (getA_ev l s (by omega)).rounds
  obtain ⟨k3, hk3⟩ := (getR_ev l s (by omega)).rounds
  obtain ⟨k4, hk4⟩ := (check_ev l HS.out).rounds
  obtain ⟨k5, hk5⟩ := same_long l (by omega)
  obtain ⟨u, ee, hw⟩ : ∃ a b, writeV l = (a, b) := ⟨_, _, rfl⟩
  obtain ⟨gv, gb, hg⟩ : ∃ a b, getV l s = (a, b) := ⟨_, _, rfl⟩
  obtain ⟨ck, hck⟩ : ∃ a, checksV l = a := ⟨_, rfl⟩
  rw [hw] at hk1
  rw [hg] at hk2 hk3
  rw [hck] at hk4
  have HW := Aside0.mk hw
  have HCK := Aside0.mk hck
  have HK1 := Aside0.mk hk1
  have HK2 := Aside0.mk hk2
  have HK3 := Aside0.mk hk3
  have HK4 := Aside0.mk hk4
  have HK5 := Aside0.mk hk5
  clear hl hk1 hk2 hk3 hk4 hk5 hw hg hck
  go_enter Tryd.func4, Tryd.ntmps4
  go_wp2_with (first | ((with_reducible refine gate_builtin (b := .append) (xs := #[.tmp 14, .tmp 15]) rfl ?_); at_builtin; refine Kd.R_append_rows k27 (w0 := w) w.heap.size rfl (.tmp 14) (.tmp 15) 22 27 (.agg #[.string (⟨#[]⟩ : ByteArray), .string (⟨#[]⟩ : ByteArray)]) 32 rfl Tryd.underlying22 rinfo27b rfl (by decide) (by omega) (.slice (some ⟨w.heap.size, 0, none⟩) 0 0) [] l _ _ _ (fun _ => True) (fun _ => False) rfl rfl (R_empty w (Nat.le_refl _)) (Kd.C_below HR.out (below_alloc (Below.refl _ _) _)) (fun _ _ h => h) (fun _ h => h.elim) (fun _ _ => trivial) (below_alloc (Below.refl _ _) _) ?aS ?aL ?_; (case aS => exact (below_alloc (Below.refl w.heap.size w) (.cells #[] 27)).size); (case aL => have := HLN.out; simp only [List.length_nil]; omega); intro v1 w1 hR hB_ hg_ hat; rw [List.nil_append] at hR; obtain ⟨A1, c1, rfl⟩ := Kd.R_slice hR; have HO := Aside0.mk (Kd.R_reads' hR).2; have HB1 := Aside0.mk hB_; clear hR hB_ hg_ hat) | (go_at_call 13; (with_reducible refine (write_l A1 c1 l _ HO.out.2 HO.out.1 HS.out (Kd.C_below HT.out HB1.out) (Kd.C_below HV.out HB1.out)).mono ?_); rintro e_ w2 ⟨rfl, hb⟩; rw [HW.out]; dsimp only; have HX2 := Aside0.mk hb; have HB2 := Aside0.mk (below_step HB1.out hb); clear hb) | (go_at_call 14; (with_reducible refine (vizardref14_Write.calls k1 A cap l u ee _ (Kd.C_below HR.out HB2.out) HC.out HK1.out).mono ?_); rintro e_ w3 ⟨rfl, hb⟩; have HX3 := Aside0.mk (below_step HX2.out hb); have HB3 := Aside0.mk (below_step HB2.out hb); clear hb) | (go_at_call 15; (with_reducible refine (fields_Get.calls k2 A1 c1 l s gv gb _ (Kd.C_below HO.out.2 HX3.out) HO.out.1 HK2.out).mono ?_); rintro e_ w4 ⟨rfl, hb⟩; have HX4 := Aside0.mk (below_step HX3.out hb); have HB4 := Aside0.mk (below_step HB3.out hb); clear hb) | (go_at_call 16; (with_reducible refine (vizardref14_Get.calls k3 A cap l s gv gb _ (Kd.C_below HR.out HB4.out) HC.out HK3.out).mono ?_); rintro e_ w5 ⟨rfl, hd⟩; have HX5 := Aside0.mk (below_drawn0 HX4.out hd); have HB5 := Aside0.mk (below_drawn0 HB4.out hd); clear hd) | (go_at_call 17; (with_reducible refine (checks_c A1 c1 l _ (Kd.C_below HO.out.2 HX5.out) HO.out.1 HS.out).mono ?_); rintro e_ w6 ⟨rfl, hb⟩; rw [HCK.out]; have HX6 := Aside0.mk (below_step HX5.out hb); have HB6 := Aside0.mk (below_step HB5.out hb); clear hb) | (go_at_call 18; (with_reducible refine (vizardref14_Check.calls k4 A cap l ck _ (Kd.C_below HR.out HB6.out) HC.out HK4.out).mono ?_); rintro e_ w7 ⟨rfl, hb⟩; have HX7 := Aside0.mk (below_step HX6.out hb); have HB7 := Aside0.mk (below_step HB6.out hb); clear hb) | (go_at_call 12; (with_reducible refine (vizardref14_Same.calls k5 A1 c1 l A cap l true _ (Kd.C_below HO.out.2 HX7.out) HO.out.1 (Kd.C_below HR.out HB7.out) HC.out HK5.out).mono ?_); rintro e_ w8 ⟨rfl, hd⟩; have HB8 := Aside0.mk (below_drawn0 HB7.out hd); clear hd))
  go_ret
  exact ⟨rfl, HB8.out⟩
end Go.Proofs.YtoigojlemffikaaDoor.Walk
