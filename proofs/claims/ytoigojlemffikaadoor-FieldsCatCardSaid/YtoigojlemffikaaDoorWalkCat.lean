/- The walk of FieldsCat. gen/mk_ct14.py writes this text. -/
import Derived.Test.YtoigojlemffikaaDoorWk14
import Derived.Test.YtoigojlemffikaaDoorBk14
namespace Go.Proofs.YtoigojlemffikaaDoor.Walk
open Go.RowKit Go.Deep Go.Proofs.YtoigojlemffikaaDoor.PFields Go.Proofs.YtoigojlemffikaaDoorW.PrintWords Go.Proofs.YtoigojlemffikaaDoorW.PrintLast Go.Proofs.YtoigojlemffikaaDoorW.PrintMore Go.Proofs.YtoigojlemffikaaDoor.Hand Go.Proofs.YtoigojlemffikaaDoor.Pure Go.Proofs.YtoigojlemffikaaDoor.Fld
set_option linter.unusedVariables false
set_option linter.unusedSimpArgs false
theorem R_empty (w : World) {base : Nat} (hb : base ≤ w.heap.size) : Kd.R k27 27 (w.alloc (.cells #[] 27)) base (fun _ => True) (.slice (some ⟨w.heap.size, 0, none⟩) 0 0) [] :=
  ⟨fun _ _ => trivial, [], World.ownsRow_lit w #[] 0 hb (by decide) rfl, rfl, fun j p hj => by simp at hj⟩
theorem rinfo27b : (Tryd.prog.info? 27).map (fun i => (i.zero, i.size, i.bytes)) = some (some (.agg #[.string (⟨#[]⟩ : ByteArray), .string (⟨#[]⟩ : ByteArray)]), 2, 32) := by kernel_rfl
theorem wp_of_step {P : Program} {ops : Array Oper} {rest : List Oper} {o : Oper} {a : Act} {Q : Exit → Act → World → Prop} {W : World} (hw : Region.wanted o (yielded ops a.tmps) = true) (h : if Region.wanted o (yielded ops a.tmps) = true then Oper.wp P o a W (wpList P ops Q rest) Q else wpList P ops Q rest (a.put o.dst undef) W) : wpList P ops Q (o :: rest) a W := by
  rw [if_pos hw] at h
  unfold wpList
  rw [if_pos hw]
  exact .inl h
theorem first_append (a b : List S27) : firstBad (a ++ b) = if firstBad a = 0 then firstBad b else firstBad a := by
  induction a with
  | nil => rfl
  | cons x t ih =>
    rw [List.cons_append, firstBad_cons, firstBad_cons, ih]
    by_cases c : checkV x = 0
    · rw [if_pos c, if_pos c]
    · rw [if_neg c, if_neg c, if_neg c]
theorem cat_size (l : List S27) (h : ∀ f ∈ l, checkV f = 0) : (catV l).size ≤ l.length * 600 := by
  induction l with
  | nil => exact Nat.zero_le _
  | cons f t ih =>
    have h1 := small_of_check (h f (List.mem_cons_self ..))
    have h2 := line_size f h1.1 h1.2
    have h3 := ih (fun g hg => h g (List.mem_cons_of_mem _ hg))
    rw [cat_cons, ByteArray.size_append, List.length_cons]
    omega
theorem checks_short {l : List S27} (h : l.length ≤ 16) : checksV l = firstBad l := by unfold checksV; rw [if_neg (by omega)]
set_option maxHeartbeats 8000000 in
set_option maxRecDepth 100000 in
theorem fieldsCat_walk (A : Option Addr) (cap : Nat) (a : List S27) (B : Option Addr) (cap2 : Nat) (b : List S27) (w : World) (hr : k27.C w A a.length a) (hc : a.length ≤ cap) (hr2 : k27.C w B b.length b) (hc2 : b.length ≤ cap2) (hT : TB w) (hV : TV w) (G0 : a.length * 32 ≤ 140737488351232 ∧ Sized a) (G1 : b.length * 32 ≤ 140737488351232 ∧ Sized b) : Calls Tryd.prog 6 #[.slice A a.length cap, .slice B b.length cap2] w fun e w' => e = .returned (.bool true) ∧ Below w.heap.size w w' := by
  have HA := Aside0.mk hr
  have HCA := Aside0.mk hc
  have HB := Aside0.mk hr2
  have HCB := Aside0.mk hc2
  have HT := Aside0.mk hT
  have HV := Aside0.mk hV
  have HSA := Aside0.mk G0.2
  have HSB := Aside0.mk G1.2
  have g0 := G0.1
  have g1 := G1.1
  have w1_ : wrap64 ((a.length : Int) + (b.length : Int)) = (a.length : Int) + (b.length : Int) := wrap_in _ (by omega) (by omega)
  have w2_ : IntKind.i64.wrap ((a.length : Int) + (b.length : Int)) = (a.length : Int) + (b.length : Int) := (i64_w _).trans w1_
  clear hr hc hr2 hc2 hT hV G0 G1
  by_cases hl : 16 < a.length + b.length
  · have S1 : decide ((a.length : Int) + (b.length : Int) > 16) = true := decide_eq_true (by omega)
    have S2 : decide ((16 : Int) < (a.length : Int) + (b.length : Int)) = true := S1
    have S3 : decide (16 < a.length + b.length) = true := decide_eq_true hl
    clear hl g0 g1
    go_enter Tryd.func6, Tryd.ntmps6
    go_wp2_with (go_at_call 19; (with_reducible refine (works_c _ HT.out HV.out).mono ?_); rintro e_ w1 ⟨rfl, hb⟩; have HB1 := Aside0.mk hb; clear hb)
    go_ret
    exact ⟨rfl, HB1.out⟩
  have S1 : decide ((a.length : Int) + (b.length : Int) > 16) = false := decide_eq_false (by omega)
  have S2 : decide ((16 : Int) < (a.length : Int) + (b.length : Int)) = false := S1
  have S3 : decide (16 < a.length + b.length) = false := decide_eq_false hl
  have HLN := Aside0.mk (show a.length ≤ 16 ∧ b.length ≤ 16 by omega)
  have ca := checks_short (l := a) (by omega)
  have cb := checks_short (l := b) (by omega)
  have cab := checks_short (l := a ++ b) (by rw [List.length_append]; omega)
  rw [first_append, ← ca, ← cb] at cab
  have HSC0 : Sized (a ++ b) := fun x hx => (List.mem_append.1 hx).elim (HSA.out x) (HSB.out x)
  obtain ⟨ab, hab⟩ : ∃ q, a ++ b = q := ⟨_, rfl⟩
  have HAB := Aside0.mk hab
  have hlab : ab.length ≤ 16 := by rw [← hab, List.length_append]; omega
  have hcat : catV ab = catV a ++ catV b := by rw [← hab]; exact cat_append a b
  rw [hab] at cab HSC0
  have HSC := Aside0.mk HSC0
  clear hl g0 g1 ca cb hab HSC0
  by_cases ea : checksV a = 0
  · have HWA0 := show writeV a = (catV a, 0) by unfold writeV; rw [if_pos ea]
    rw [if_pos ea] at cab
    by_cases eb : checksV b = 0
    · have HWB0 := show writeV b = (catV b, 0) by unfold writeV; rw [if_pos eb]
      rw [eb] at cab
      have HWC0 := show writeV ab = (catV ab, 0) by unfold writeV; rw [if_pos cab]
      have HRD0 := read_write cab
      have hza := cat_size a (checks_all ea).2
      have hzb := cat_size b (checks_all eb).2
      rw [hcat] at HWC0 HRD0
      obtain ⟨ta, hta⟩ : ∃ q, catV a = q := ⟨_, rfl⟩
      obtain ⟨tb, htb⟩ : ∃ q, catV b = q := ⟨_, rfl⟩
      rw [hta] at HWA0 HWC0 HRD0 hza
      rw [htb] at HWB0 HWC0 HRD0 hzb
      obtain ⟨tt, htt⟩ : ∃ q, ta ++ tb = q := ⟨_, rfl⟩
      have HTS := Aside0.mk (show tt.size ≤ 1000000000 by rw [← htt, ByteArray.size_append]; have := HLN.out; omega)
      have z1 : (9223372036854775807 < ta.size + tb.size) = False := eq_false (by have := HLN.out; omega)
      rw [htt] at HWC0 HRD0
      obtain ⟨ks, hks⟩ := same_self ab (by omega)
      have HKS := Aside0.mk hks
      have HWA := Aside0.mk HWA0
      have HWB := Aside0.mk HWB0
      have HWC := Aside0.mk HWC0
      have HRD := Aside0.mk HRD0
      clear HWA0 HWB0 HWC0 HRD0 hza hzb hta htb hks ea eb cab hcat hlab
      go_enter Tryd.func6, Tryd.ntmps6
      go_wp2_with (first | (go_at_call 19; (with_reducible refine (works_c _ HT.out HV.out).mono ?_); rintro e_ w1 ⟨rfl, hb⟩; have HB1 := Aside0.mk hb; clear hb) | (go_at_call 13; (with_reducible refine (write_l A cap a _ (Kd.C_below HA.out HB1.out) HCA.out HSA.out (Kd.C_below HT.out HB1.out) (Kd.C_below HV.out HB1.out)).mono ?_); rintro e_ w2 ⟨rfl, hb⟩; rw [HWA.out]; dsimp only; have HB2 := Aside0.mk (below_step HB1.out hb); clear hb) | (go_at_call 13; (with_reducible refine (write_l B cap2 b _ (Kd.C_below HB.out HB2.out) HCB.out HSB.out (Kd.C_below HT.out HB2.out) (Kd.C_below HV.out HB2.out)).mono ?_); rintro e_ w3 ⟨rfl, hb⟩; rw [HWB.out]; dsimp only; have HB3 := Aside0.mk (below_step HB2.out hb); clear hb) | ((with_reducible refine gate_builtin (b := .append) (xs := #[.tmp 32, .tmp 33]) rfl ?_); at_builtin; refine Kd.R_append_rows k27 (w0 := w3) w3.heap.size rfl (.tmp 32) (.tmp 33) 22 27 (.agg #[.string (⟨#[]⟩ : ByteArray), .string (⟨#[]⟩ : ByteArray)]) 32 rfl Tryd.underlying22 rinfo27b rfl (by decide) (by omega) (.slice (some ⟨w3.heap.size, 0, none⟩) 0 0) [] a _ _ _ (fun _ => True) (fun _ => False) rfl rfl (R_empty w3 (Nat.le_refl _)) (Kd.C_below HA.out (below_step HB3.out (below_alloc (Below.refl _ _) _))) (fun _ _ h => h) (fun _ h => h.elim) (fun _ _ => trivial) (below_alloc (Below.refl _ _) _) ?aS4 ?aL4 ?_; (case aS4 => exact (below_alloc (Below.refl w3.heap.size w3) (.cells #[] 27)).size); (case aL4 => have := HLN.out; simp only [List.length_nil]; omega); intro v4 w4 hR hB_ hg_ hat; rw [List.nil_append] at hR; have HR4 := Aside0.mk hR; have HX4 := Aside0.mk hB_; have HB4 := Aside0.mk (below_step HB3.out hB_); clear hR hB_ hg_ hat) | ((with_reducible refine gate_builtin (b := .append) (xs := #[.tmp 34, .tmp 35]) rfl ?_); at_builtin; refine Kd.R_append_rows k27 (w0 := w3) w3.heap.size rfl (.tmp 34) (.tmp 35) 22 27 (.agg #[.string (⟨#[]⟩ : ByteArray), .string (⟨#[]⟩ : ByteArray)]) 32 rfl Tryd.underlying22 rinfo27b rfl (by decide) (by omega) v4 a b _ _ _ (fun _ => True) (fun _ => False) rfl rfl HR4.out (Kd.C_below HB.out HB4.out) (fun _ _ h => h) (fun _ h => h.elim) (fun _ _ => trivial) HX4.out ?aS5 ?aL5 ?_; (case aS5 => exact HX4.out.size); (case aL5 => have := HLN.out; omega); intro v5 w5 hR hB_ hg_ hat; rw [HAB.out] at hR; obtain ⟨A5, c5, rfl⟩ := Kd.R_slice hR; have HR5 := Aside0.mk (Kd.R_reads' hR).2; have HB5 := Aside0.mk (below_step HB3.out hB_); clear hR hB_ hg_ hat) | (go_at_call 13; (with_reducible refine (write_l A5 c5 ab _ HR5.out.2 HR5.out.1 HSC.out (Kd.C_below HT.out HB5.out) (Kd.C_below HV.out HB5.out)).mono ?_); rintro e_ w6 ⟨rfl, hb⟩; rw [HWC.out]; dsimp only; have HB6 := Aside0.mk (below_step HB5.out hb); clear hb) | (go_at_call 8; (with_reducible refine (read_c tt _ HTS.out (Kd.C_below HT.out HB6.out) (Kd.C_below HV.out HB6.out)).mono ?_); rintro e_ w7 ⟨v7, rfl, hr7, hb⟩; rw [HRD.out] at hr7 ⊢; dsimp only at hr7 ⊢; obtain ⟨A7, c7, rfl⟩ := Kd.R_slice hr7; have HR7 := Aside0.mk (Kd.R_reads' hr7).2; have HB7 := Aside0.mk (below_step HB6.out hb); clear hb hr7) | ((with_reducible refine gate_builtin (b := .append) (xs := #[.tmp 70, .tmp 71]) rfl ?_); at_builtin; refine wp_of_step rfl ?_; refine Kd.R_append_rows_step k27 (w0 := w7) w7.heap.size rfl (.tmp 70) (.tmp 71) 22 27 (.agg #[.string (⟨#[]⟩ : ByteArray), .string (⟨#[]⟩ : ByteArray)]) 32 rfl Tryd.underlying22 rinfo27b rfl (by decide) (by omega) (.slice (some ⟨w7.heap.size, 0, none⟩) 0 0) [] a _ _ _ (fun _ => True) (fun _ => False) rfl rfl (R_empty w7 (Nat.le_refl _)) (Kd.C_below HA.out (below_step HB7.out (below_alloc (Below.refl _ _) _))) (fun _ _ h => h) (fun _ h => h.elim) (fun _ _ => trivial) (below_alloc (Below.refl _ _) _) ?aS8 ?aL8 ?_; (case aS8 => exact (below_alloc (Below.refl w7.heap.size w7) (.cells #[] 27)).size); (case aL8 => have := HLN.out; simp only [List.length_nil]; omega); intro v8 w8 hR hB_ hg_ hat; rw [List.nil_append] at hR; have HR8 := Aside0.mk hR; have HX8 := Aside0.mk hB_; have HB8 := Aside0.mk (below_step HB7.out hB_); clear hR hB_ hg_ hat) | ((with_reducible refine gate_builtin (b := .append) (xs := #[.tmp 72, .tmp 73]) rfl ?_); at_builtin; refine wp_of_step rfl ?_; refine Kd.R_append_rows_step k27 (w0 := w7) w7.heap.size rfl (.tmp 72) (.tmp 73) 22 27 (.agg #[.string (⟨#[]⟩ : ByteArray), .string (⟨#[]⟩ : ByteArray)]) 32 rfl Tryd.underlying22 rinfo27b rfl (by decide) (by omega) v8 a b _ _ _ (fun _ => True) (fun _ => False) rfl rfl HR8.out (Kd.C_below HB.out HB8.out) (fun _ _ h => h) (fun _ h => h.elim) (fun _ _ => trivial) HX8.out ?aS9 ?aL9 ?_; (case aS9 => exact HX8.out.size); (case aL9 => have := HLN.out; omega); intro v9 w9 hR hB_ hg_ hat; rw [HAB.out] at hR; obtain ⟨A9, c9, rfl⟩ := Kd.R_slice hR; have HR9 := Aside0.mk (Kd.R_reads' hR).2; have HX9 := Aside0.mk hB_; have HB9 := Aside0.mk (below_step HB7.out hB_); clear hR hB_ hg_ hat) | (go_at_call 12; (with_reducible refine (vizardref14_Same.calls ks A7 c7 ab A9 c9 ab true w9 (Kd.C_below HR7.out.2 HX9.out) HR7.out.1 HR9.out.2 HR9.out.1 HKS.out).mono ?_); rintro e_ w10 ⟨rfl, hd⟩; have HB10 := Aside0.mk (below_drawn0 HB9.out hd); clear hd))
      go_ret
      exact ⟨rfl, HB10.out⟩
    · have HWB := Aside0.mk (show writeV b = (⟨#[]⟩, checksV b) by unfold writeV; rw [if_neg eb])
      have HWC := Aside0.mk (show writeV ab = (⟨#[]⟩, checksV b) by unfold writeV; rw [cab, if_neg eb])
      have HWA := Aside0.mk HWA0
      obtain ⟨ee, hee⟩ : ∃ q, checksV b = q := ⟨_, rfl⟩
      rw [hee] at HWB HWC eb
      obtain ⟨n1, n2, n3, n4, n5⟩ := ne0 eb
      clear HWA0 ea eb cab hcat hlab hee
      go_enter Tryd.func6, Tryd.ntmps6
      go_wp2_with (first | (go_at_call 19; (with_reducible refine (works_c _ HT.out HV.out).mono ?_); rintro e_ w1 ⟨rfl, hb⟩; have HB1 := Aside0.mk hb; clear hb) | (go_at_call 13; (with_reducible refine (write_l A cap a _ (Kd.C_below HA.out HB1.out) HCA.out HSA.out (Kd.C_below HT.out HB1.out) (Kd.C_below HV.out HB1.out)).mono ?_); rintro e_ w2 ⟨rfl, hb⟩; rw [HWA.out]; dsimp only; have HB2 := Aside0.mk (below_step HB1.out hb); clear hb) | (go_at_call 13; (with_reducible refine (write_l B cap2 b _ (Kd.C_below HB.out HB2.out) HCB.out HSB.out (Kd.C_below HT.out HB2.out) (Kd.C_below HV.out HB2.out)).mono ?_); rintro e_ w3 ⟨rfl, hb⟩; rw [HWB.out]; dsimp only; have HB3 := Aside0.mk (below_step HB2.out hb); clear hb) | ((with_reducible refine gate_builtin (b := .append) (xs := #[.tmp 32, .tmp 33]) rfl ?_); at_builtin; refine Kd.R_append_rows k27 (w0 := w3) w3.heap.size rfl (.tmp 32) (.tmp 33) 22 27 (.agg #[.string (⟨#[]⟩ : ByteArray), .string (⟨#[]⟩ : ByteArray)]) 32 rfl Tryd.underlying22 rinfo27b rfl (by decide) (by omega) (.slice (some ⟨w3.heap.size, 0, none⟩) 0 0) [] a _ _ _ (fun _ => True) (fun _ => False) rfl rfl (R_empty w3 (Nat.le_refl _)) (Kd.C_below HA.out (below_step HB3.out (below_alloc (Below.refl _ _) _))) (fun _ _ h => h) (fun _ h => h.elim) (fun _ _ => trivial) (below_alloc (Below.refl _ _) _) ?aS4 ?aL4 ?_; (case aS4 => exact (below_alloc (Below.refl w3.heap.size w3) (.cells #[] 27)).size); (case aL4 => have := HLN.out; simp only [List.length_nil]; omega); intro v4 w4 hR hB_ hg_ hat; rw [List.nil_append] at hR; have HR4 := Aside0.mk hR; have HX4 := Aside0.mk hB_; have HB4 := Aside0.mk (below_step HB3.out hB_); clear hR hB_ hg_ hat) | ((with_reducible refine gate_builtin (b := .append) (xs := #[.tmp 34, .tmp 35]) rfl ?_); at_builtin; refine Kd.R_append_rows k27 (w0 := w3) w3.heap.size rfl (.tmp 34) (.tmp 35) 22 27 (.agg #[.string (⟨#[]⟩ : ByteArray), .string (⟨#[]⟩ : ByteArray)]) 32 rfl Tryd.underlying22 rinfo27b rfl (by decide) (by omega) v4 a b _ _ _ (fun _ => True) (fun _ => False) rfl rfl HR4.out (Kd.C_below HB.out HB4.out) (fun _ _ h => h) (fun _ h => h.elim) (fun _ _ => trivial) HX4.out ?aS5 ?aL5 ?_; (case aS5 => exact HX4.out.size); (case aL5 => have := HLN.out; omega); intro v5 w5 hR hB_ hg_ hat; rw [HAB.out] at hR; obtain ⟨A5, c5, rfl⟩ := Kd.R_slice hR; have HR5 := Aside0.mk (Kd.R_reads' hR).2; have HB5 := Aside0.mk (below_step HB3.out hB_); clear hR hB_ hg_ hat) | (go_at_call 13; (with_reducible refine (write_l A5 c5 ab _ HR5.out.2 HR5.out.1 HSC.out (Kd.C_below HT.out HB5.out) (Kd.C_below HV.out HB5.out)).mono ?_); rintro e_ w6 ⟨rfl, hb⟩; rw [HWC.out]; dsimp only; have HB6 := Aside0.mk (below_step HB5.out hb); clear hb))
      go_ret
      exact ⟨rfl, HB6.out⟩
  · rw [if_neg ea] at cab
    have HWA := Aside0.mk (show writeV a = (⟨#[]⟩, checksV a) by unfold writeV; rw [if_neg ea])
    have HWC := Aside0.mk (show writeV ab = (⟨#[]⟩, checksV a) by unfold writeV; rw [cab, if_neg ea])
    obtain ⟨bt_, be_, hwb⟩ : ∃ x e, writeV b = (x, e) := ⟨_, _, rfl⟩
    have HWB := Aside0.mk hwb
    obtain ⟨ee, hee⟩ : ∃ q, checksV a = q := ⟨_, rfl⟩
    rw [hee] at HWA HWC ea
    obtain ⟨n1, n2, n3, n4, n5⟩ := ne0 ea
    clear ea cab hcat hlab hee hwb
    go_enter Tryd.func6, Tryd.ntmps6
    go_wp2_with (first | (go_at_call 19; (with_reducible refine (works_c _ HT.out HV.out).mono ?_); rintro e_ w1 ⟨rfl, hb⟩; have HB1 := Aside0.mk hb; clear hb) | (go_at_call 13; (with_reducible refine (write_l A cap a _ (Kd.C_below HA.out HB1.out) HCA.out HSA.out (Kd.C_below HT.out HB1.out) (Kd.C_below HV.out HB1.out)).mono ?_); rintro e_ w2 ⟨rfl, hb⟩; rw [HWA.out]; dsimp only; have HB2 := Aside0.mk (below_step HB1.out hb); clear hb) | (go_at_call 13; (with_reducible refine (write_l B cap2 b _ (Kd.C_below HB.out HB2.out) HCB.out HSB.out (Kd.C_below HT.out HB2.out) (Kd.C_below HV.out HB2.out)).mono ?_); rintro e_ w3 ⟨rfl, hb⟩; rw [HWB.out]; dsimp only; have HB3 := Aside0.mk (below_step HB2.out hb); clear hb) | ((with_reducible refine gate_builtin (b := .append) (xs := #[.tmp 32, .tmp 33]) rfl ?_); at_builtin; refine Kd.R_append_rows k27 (w0 := w3) w3.heap.size rfl (.tmp 32) (.tmp 33) 22 27 (.agg #[.string (⟨#[]⟩ : ByteArray), .string (⟨#[]⟩ : ByteArray)]) 32 rfl Tryd.underlying22 rinfo27b rfl (by decide) (by omega) (.slice (some ⟨w3.heap.size, 0, none⟩) 0 0) [] a _ _ _ (fun _ => True) (fun _ => False) rfl rfl (R_empty w3 (Nat.le_refl _)) (Kd.C_below HA.out (below_step HB3.out (below_alloc (Below.refl _ _) _))) (fun _ _ h => h) (fun _ h => h.elim) (fun _ _ => trivial) (below_alloc (Below.refl _ _) _) ?aS4 ?aL4 ?_; (case aS4 => exact (below_alloc (Below.refl w3.heap.size w3) (.cells #[] 27)).size); (case aL4 => have := HLN.out; simp only [List.length_nil]; omega); intro v4 w4 hR hB_ hg_ hat; rw [List.nil_append] at hR; have HR4 := Aside0.mk hR; have HX4 := Aside0.mk hB_; have HB4 := Aside0.mk (below_step HB3.out hB_); clear hR hB_ hg_ hat) | ((with_reducible refine gate_builtin (b := .append) (xs := #[.tmp 34, .tmp 35]) rfl ?_); at_builtin; refine Kd.R_append_rows k27 (w0 := w3) w3.heap.size rfl (.tmp 34) (.tmp 35) 22 27 (.agg #[.string (⟨#[]⟩ : ByteArray), .string (⟨#[]⟩ : ByteArray)]) 32 rfl Tryd.underlying22 rinfo27b rfl (by decide) (by omega) v4 a b _ _ _ (fun _ => True) (fun _ => False) rfl rfl HR4.out (Kd.C_below HB.out HB4.out) (fun _ _ h => h) (fun _ h => h.elim) (fun _ _ => trivial) HX4.out ?aS5 ?aL5 ?_; (case aS5 => exact HX4.out.size); (case aL5 => have := HLN.out; omega); intro v5 w5 hR hB_ hg_ hat; rw [HAB.out] at hR; obtain ⟨A5, c5, rfl⟩ := Kd.R_slice hR; have HR5 := Aside0.mk (Kd.R_reads' hR).2; have HB5 := Aside0.mk (below_step HB3.out hB_); clear hR hB_ hg_ hat) | (go_at_call 13; (with_reducible refine (write_l A5 c5 ab _ HR5.out.2 HR5.out.1 HSC.out (Kd.C_below HT.out HB5.out) (Kd.C_below HV.out HB5.out)).mono ?_); rintro e_ w6 ⟨rfl, hb⟩; rw [HWC.out]; dsimp only; have HB6 := Aside0.mk (below_step HB5.out hb); clear hb))
    go_ret
    exact ⟨rfl, HB6.out⟩
end Go.Proofs.YtoigojlemffikaaDoor.Walk
