/- Layer 14: the table, fields.Entry, check, Check, by their contracts. gen/mk_fld14.py writes this text. -/
import Derived.Test.YtoigojlemffikaaDoorV14
import Derived.Test.YtoigojlemffikaaDoorConv
namespace Go.Proofs.YtoigojlemffikaaDoor.Fld
open Go.RowKit Go.Deep Go.Proofs.YtoigojlemffikaaDoor.PFields Go.Proofs.YtoigojlemffikaaDoorW.PrintWords Go.Proofs.YtoigojlemffikaaDoorW.PrintLast Go.Proofs.YtoigojlemffikaaDoorW.PrintMore Go.Proofs.YtoigojlemffikaaDoor.Hand Go.Proofs.YtoigojlemffikaaDoor.Pure
set_option linter.unusedVariables false
set_option linter.unusedSimpArgs false
/-- The table. -/
def tbl : List S27 := (vizardref14_Table.f).getD []
theorem table_f : vizardref14_Table.f = some tbl := rfl
theorem tbl_len : tbl.length = 20 := rfl
abbrev TB (w : World) : Prop := Kd.C k27 w (some ⟨0, 0, none⟩) 20 tbl
abbrev TV (w : World) : Prop := Kd.C (Kd.int .i64) w (some ⟨1, 0, none⟩) 4 ([1, 2, 4, 8] : List Int)
theorem add0 (g k : Nat) : (⟨g, 0, none⟩ : Addr).add k = ⟨g, k, none⟩ := by unfold Addr.add; split <;> simp_all
theorem tb_at {w : World} (h : TB w) (i : Nat) (hi : i < 20) : w.cell? ⟨0, i * 2, none⟩ = some (.string (tbl.getD i z27).f0) ∧ w.cell? ⟨0, i * 2 + 1, none⟩ = some (.string (tbl.getD i z27).f1) := by
  obtain ⟨ad, c, e, _, hK, hc0⟩ := Kd.C_get h z27 (i : Int) (by omega) (by omega)
  injection e with e
  subst e
  rw [Int.toNat_natCast] at hK hc0
  obtain rfl := k27_open hK
  have hc : ∀ j u, ([.string (tbl.getD i z27).f0, .string (tbl.getD i z27).f1] : List Value)[j]? = some u → w.cell? ((⟨0, 0, none⟩ : Addr).add (i * 2 + j)) = some u := hc0
  have a := hc 0 _ rfl
  have b := hc 1 _ rfl
  rw [add0] at a b
  exact ⟨a, b⟩
theorem below_drawn0 {base : Nat} {w W W2 : World} (h : Below base w W) (hd : Drawn0 W W2) : Below base w W2 := by
  obtain ⟨n, rfl⟩ := hd
  exact pw_below_drewN h n
def entryV (i : Int) : S27 × Bool := if 0 ≤ i ∧ i < 20 then (tbl.getD i.toNat z27, true) else (z27, false)
def letterB (c : Int) : Bool := (decide (97 ≤ c) && decide (c ≤ 122)) || (decide (48 ≤ c) && decide (c ≤ 57)) || decide (c = 45) || decide (c = 58)
def charB (c : Int) : Bool := decide (32 ≤ c) && decide (c ≤ 126)
def allTo (p : Int → Bool) (s : ByteArray) (n : Nat) : Bool := (List.range n).all (fun i => p (bt s (i : Int)))
theorem all_step (p : Int → Bool) (s : ByteArray) (n : Nat) : allTo p s (n + 1) = (allTo p s n && p (bt s (n : Int))) := by
  unfold allTo
  rw [List.range_succ, List.all_append]
  simp
theorem all_bad {p : Int → Bool} {s : ByteArray} {i n : Nat} (hi : i < n) (h : p (bt s (i : Int)) = false) : allTo p s n = false := by
  unfold allTo
  rw [List.all_eq_false]
  exact ⟨i, List.mem_range.2 hi, by rw [h]; simp⟩
def checkV (f : S27) : Int := if 256 < f.f0.size ∨ 256 < f.f1.size then 8 else if f.f0.size = 0 then 3 else if allTo letterB f.f0 f.f0.size && allTo charB f.f1 f.f1.size then 0 else 3
theorem letter_f (c : Int) : fields_letter.f c = some (letterB c) := by
  unfold fields_letter.f letterB
  repeat' split
  all_goals (refine congrArg some ?_; rw [Bool.eq_iff_iff]; simp only [Bool.or_eq_true, Bool.and_eq_true, decide_eq_true_eq, beq_iff_eq, true_iff]; omega)
theorem ifb {i n : Nat} (h : i < n) (hn : n ≤ 1000000) : wrap64 ((i : Int) + 1) = ((i + 1 : Nat) : Int) ∧ IntKind.i64.wrap ((i : Int) + 1) = ((i + 1 : Nat) : Int) ∧ decide ((i : Int) < (n : Int)) = true ∧ decide (i < n) = true ∧ ((i : Int) < (n : Int)) = True ∧ (i < n) = True ∧ ((0 : Int) ≤ (i : Int)) = True := by
  have hw : wrap64 ((i : Int) + 1) = ((i + 1 : Nat) : Int) := by unfold wrap64; omega
  exact ⟨hw, (i64_w _).trans hw, decide_eq_true (by omega), decide_eq_true h, eq_true (by omega), eq_true h, eq_true (by omega)⟩
set_option maxHeartbeats 8000000 in
set_option maxRecDepth 100000 in
theorem entry_c (i : Int) (w : World) (hT : TB w) : Calls Tryd.prog 10 #[.int .i64 i] w fun e w' => e = .returned (.tuple #[.agg #[.string (entryV i).1.f0, .string (entryV i).1.f1], .bool (entryV i).2]) ∧ Below w.heap.size w w' := by
  by_cases h0 : 0 ≤ i
  · obtain ⟨n, rfl⟩ := Int.eq_ofNat_of_zero_le h0
    by_cases h1 : n < 20
    · have e : entryV (n : Int) = (tbl.getD n z27, true) := by unfold entryV; rw [if_pos (by omega), Int.toNat_natCast]
      rw [e]
      obtain ⟨x0, x1⟩ := tb_at hT n h1
      dsimp only
      generalize tbl.getD n z27 = x at x0 x1
      have D1 : decide ((n : Int) < 0) = false := decide_eq_false (by omega)
      have D2 : decide ((n : Int) ≥ 20) = false := decide_eq_false (by omega)
      have D3 : decide ((20 : Int) ≤ (n : Int)) = false := D2
      have D4 : decide (20 ≤ n) = false := decide_eq_false (by omega)
      have q1 : ((n : Int) < 20) = True := eq_true (by omega)
      have q2 : (n < 20) = True := eq_true h1
      have q3 : ((0 : Int) ≤ (n : Int)) = True := eq_true (by omega)
      have hbz : Below w.heap.size w (w.alloc (.cells #[.string (⟨#[]⟩ : ByteArray), .string (⟨#[]⟩ : ByteArray)] 27)) := below_alloc (Below.refl _ _) _
      have y0 := (hbz.cell (World.block_lt_of_cell? _ _ x0)).trans x0
      have y1 := (hbz.cell (World.block_lt_of_cell? _ _ x1)).trans x1
      clear h0 h1 e hT x0 x1 hbz
      go_enter Tryd.func10, Tryd.ntmps10
      go_wp2_with (fail)
      refine bodyPost_ret (results_ct rfl _ _ w.heap.size 27 #[.string x.f0, .string x.f1] (0, 0) _ rfl (blk_new _ _) Tryd.underlying27 rfl (by kernel_rfl)) rfl ?_
      exact ⟨rfl, below_alloc (Below.refl _ _) _⟩
    · have e : entryV (n : Int) = (z27, false) := by unfold entryV; rw [if_neg (by omega)]
      rw [e]
      have D1 : decide ((n : Int) < 0) = false := decide_eq_false (by omega)
      have D2 : decide ((n : Int) ≥ 20) = true := decide_eq_true (by omega)
      have D3 : decide ((20 : Int) ≤ (n : Int)) = true := D2
      have D4 : decide (20 ≤ n) = true := decide_eq_true (by omega)
      clear h0 h1 e hT
      go_enter Tryd.func10, Tryd.ntmps10
      go_wp2_with (fail)
      refine bodyPost_ret (results_ct rfl _ _ w.heap.size 27 #[.string (⟨#[]⟩ : ByteArray), .string (⟨#[]⟩ : ByteArray)] (0, 0) _ rfl (blk_new _ _) Tryd.underlying27 rfl (by kernel_rfl)) rfl ?_
      exact ⟨rfl, below_alloc (Below.refl _ _) _⟩
  · have e : entryV i = (z27, false) := by unfold entryV; rw [if_neg (by omega)]
    rw [e]
    have D1 : decide (i < 0) = true := decide_eq_true (by omega)
    clear h0 e hT
    go_enter Tryd.func10, Tryd.ntmps10
    go_wp2_with (fail)
    refine bodyPost_ret (results_ct rfl _ _ w.heap.size 27 #[.string (⟨#[]⟩ : ByteArray), .string (⟨#[]⟩ : ByteArray)] (0, 0) _ rfl (blk_new _ _) Tryd.underlying27 rfl (by kernel_rfl)) rfl ?_
    exact ⟨rfl, below_alloc (Below.refl _ _) _⟩
set_option maxHeartbeats 8000000 in
set_option maxRecDepth 100000 in
theorem check_c (f0 f1 : ByteArray) (w : World) (h0 : f0.size ≤ 140737488351232) (h1 : f1.size ≤ 140737488351232) : Calls Tryd.prog 21 #[.agg #[.string f0, .string f1]] w fun e w' => e = .returned (.int .i64 (checkV ⟨f0, f1⟩)) ∧ Below w.heap.size w w' := by
  by_cases a1 : 256 < f0.size
  · have e : checkV ⟨f0, f1⟩ = 8 := by unfold checkV; rw [if_pos (.inl a1)]
    rw [e]
    have D1 : decide ((f0.size : Int) > 256) = true := decide_eq_true (by omega)
    have D2 : decide ((256 : Int) < (f0.size : Int)) = true := D1
    have D3 : decide (256 < f0.size) = true := decide_eq_true a1
    clear a1 e h0 h1
    go_enter Tryd.func21, Tryd.ntmps21
    go_wp2_with ((with_reducible refine gate_dst (N := 1) rfl ?_); refine box_event ?hg (N := 1) ?hd (cs := #[.string f0, .string f1]) (t := 27) ?hr ?_; (case hd => rfl); (case hg => rfl); (case hr => first | (go_simp; done) | (go_simp; rfl)); intro gb hgb w1 hbox hb; have HBX := Aside0.mk hbox; have HB1 := Aside0.mk hb; have c0 := (show _ = some (Value.string f0) from (blk_cell hbox 0).trans rfl); have c1 := (show _ = some (Value.string f1) from (blk_cell hbox 1).trans rfl); clear hgb hbox hb)
    go_ret
    exact ⟨rfl, HB1.out⟩
  have D1 : decide ((f0.size : Int) > 256) = false := decide_eq_false (by omega)
  have D2 : decide ((256 : Int) < (f0.size : Int)) = false := D1
  have D3 : decide (256 < f0.size) = false := decide_eq_false a1
  by_cases a2 : 256 < f1.size
  · have e : checkV ⟨f0, f1⟩ = 8 := by unfold checkV; rw [if_pos (.inr a2)]
    rw [e]
    have E1 : decide ((f1.size : Int) > 256) = true := decide_eq_true (by omega)
    have E2 : decide ((256 : Int) < (f1.size : Int)) = true := E1
    have E3 : decide (256 < f1.size) = true := decide_eq_true a2
    clear a1 a2 e h0 h1
    go_enter Tryd.func21, Tryd.ntmps21
    go_wp2_with ((with_reducible refine gate_dst (N := 1) rfl ?_); refine box_event ?hg (N := 1) ?hd (cs := #[.string f0, .string f1]) (t := 27) ?hr ?_; (case hd => rfl); (case hg => rfl); (case hr => first | (go_simp; done) | (go_simp; rfl)); intro gb hgb w1 hbox hb; have HBX := Aside0.mk hbox; have HB1 := Aside0.mk hb; have c0 := (show _ = some (Value.string f0) from (blk_cell hbox 0).trans rfl); have c1 := (show _ = some (Value.string f1) from (blk_cell hbox 1).trans rfl); clear hgb hbox hb)
    go_ret
    exact ⟨rfl, HB1.out⟩
  have E1 : decide ((f1.size : Int) > 256) = false := decide_eq_false (by omega)
  have E2 : decide ((256 : Int) < (f1.size : Int)) = false := E1
  have E3 : decide (256 < f1.size) = false := decide_eq_false a2
  by_cases a3 : f0.size = 0
  · have e : checkV ⟨f0, f1⟩ = 3 := by unfold checkV; rw [if_neg (show ¬(256 < f0.size ∨ 256 < f1.size) by omega), if_pos a3]
    rw [e]
    obtain rfl : f0 = ⟨#[]⟩ := by
      apply ByteArray.ext
      exact Array.eq_empty_of_size_eq_zero a3
    clear a1 a2 a3 e h0 h1
    go_enter Tryd.func21, Tryd.ntmps21
    go_wp2_with ((with_reducible refine gate_dst (N := 1) rfl ?_); refine box_event ?hg (N := 1) ?hd (cs := #[.string (⟨#[]⟩ : ByteArray), .string f1]) (t := 27) ?hr ?_; (case hd => rfl); (case hg => rfl); (case hr => first | (go_simp; done) | (go_simp; rfl)); intro gb hgb w1 hbox hb; have HBX := Aside0.mk hbox; have HB1 := Aside0.mk hb; have c0 := (show _ = some (Value.string (⟨#[]⟩ : ByteArray)) from (blk_cell hbox 0).trans rfl); have c1 := (show _ = some (Value.string f1) from (blk_cell hbox 1).trans rfl); clear hgb hbox hb)
    go_ret
    exact ⟨rfl, HB1.out⟩
  have N1 : f0.toList.isEmpty = false := by cases hq : f0.toList.isEmpty with | false => rfl | true => exact absurd ((toList_nil f0).1 (List.isEmpty_iff.1 hq)) a3
  have N0 : (f0 = (⟨#[]⟩ : ByteArray)) = False := eq_false (fun he => a3 (by rw [he]; rfl))
  have HCV := Aside0.mk (show checkV ⟨f0, f1⟩ = if allTo letterB f0 f0.size && allTo charB f1 f1.size then 0 else 3 by unfold checkV; rw [if_neg (show ¬(256 < f0.size ∨ 256 < f1.size) by omega), if_neg a3])
  have HS := Aside0.mk (And.intro a1 a2)
  clear a1 a2 a3 h0 h1
  go_enter Tryd.func21, Tryd.ntmps21
  go_wp2_with (first | ((with_reducible refine gate_dst (N := 1) rfl ?_); refine box_event ?hg (N := 1) ?hd (cs := #[.string f0, .string f1]) (t := 27) ?hr ?_; (case hd => rfl); (case hg => rfl); (case hr => first | (go_simp; done) | (go_simp; rfl)); intro gb hgb w1 hbox hb; have HBX := Aside0.mk hbox; have HB1 := Aside0.mk hb; have c0 := (show _ = some (Value.string f0) from (blk_cell hbox 0).trans rfl); have c1 := (show _ = some (Value.string f1) from (blk_cell hbox 1).trans rfl); clear hgb hbox hb) | ((with_reducible refine gate_dst (N := 24) rfl ?_); refine Conv.conv_arm rfl rfl 9 40 5 (.tmp 23) rfl f0 rfl Tryd.underlying9 Tryd.underlying40 Tryd.underlying5 ?_; intro g2 cp2 w2 hrow hge hb; have HROW2 := Aside0.mk hrow; have HB2 := Aside0.mk hb; clear hrow hge hb))
  obtain ⟨wl, hwl⟩ : ∃ x, x = w2 := ⟨_, rfl⟩
  subst hwl
  go_loopw [4, 26] (fun v4 v26 wr => ∃ i : Nat, v26 = .int .i64 (i : Int) ∧ Aside0 (i ≤ f0.size) ∧ Aside0 (allTo letterB f0 i = true) ∧ Aside0 (Below wl.heap.size wl wr)) (fun _ v26 _ => ((f0.size : Int) - intOf v26).toNat)
  case atStart => exact ⟨0, rfl, ⟨Nat.zero_le _⟩, ⟨rfl⟩, ⟨Below.refl _ _⟩⟩
  case round =>
    obtain ⟨i, rfl, HI, HA, HB⟩ := hrel
    by_cases d1 : i < f0.size
    · have x0 := (HROW2.out.below HB.out).cell i (by rw [bytesOf_length]; exact d1)
      rw [show (bytesOf f0).getD i 0 = bt f0 (i : Int) from by rw [← rd_bytesOf]; unfold rd; rw [Int.toNat_natCast]] at x0
      have hst := all_step letterB f0 i
      have hbd := fun h => all_bad (p := letterB) (s := f0) d1 h
      generalize bt f0 (i : Int) = c at x0 hst hbd
      have hif := ifb d1 (show f0.size ≤ 1000000 by have := HS.out; omega)
      have HST := Aside0.mk hst
      have HBD := Aside0.mk hbd
      have HJ := Aside0.mk d1
      clear d1 hst hbd
      obtain ⟨i1, i2, i3, i4, i5, i6, i7⟩ := hif
      cases hl : letterB c with
      | true =>
        have HLC := Aside0.mk (show fields_letter.f c = some true by rw [letter_f, hl])
        have HQ := Aside0.mk (show allTo letterB f0 (i + 1) = true by rw [HST.out, HA.out, hl]; rfl)
        clear hl
        go_wp2_with (go_at_call 29; (with_reducible refine (fields_letter.calls c _ _ HLC.out).mono ?_); rintro e_ w3 ⟨rfl, hd⟩; have HB3 := Aside0.mk (below_drawn0 HB.out hd); clear hd)
        go_roundw
        case rel => exact ⟨i + 1, by first | rfl | simp, ⟨by have := HJ.out; omega⟩, HQ, HB3⟩
        case measure => clear i1 i2; have := HJ.out; simp [intOf]; omega
      | false =>
        have HLC := Aside0.mk (show fields_letter.f c = some false by rw [letter_f, hl])
        have HCV2 := Aside0.mk (show checkV ⟨f0, f1⟩ = 3 by rw [HCV.out, HBD.out hl]; rfl)
        clear hl
        go_wp2_with (go_at_call 29; (with_reducible refine (fields_letter.calls c _ _ HLC.out).mono ?_); rintro e_ w3 ⟨rfl, hd⟩; have HB3 := Aside0.mk (below_drawn0 HB.out hd); clear hd)
        go_ret
        exact ⟨by rw [HCV2.out]; rfl, below_step (below_step HB1.out HB2.out) HB3.out⟩
    · have hi : i = f0.size := by have := HI.out; omega
      clear d1 HI
      subst hi
      have HBX2 := Aside0.mk (blk_below (blk_below HBX.out HB2.out) HB.out)
      have d1 := (show _ = some (Value.string f1) from (blk_cell HBX2.out 1).trans rfl)
      obtain ⟨wo, hwo⟩ : ∃ x, x = wr := ⟨_, rfl⟩
      subst hwo
      go_wp2_with ((with_reducible refine gate_dst (N := 36) rfl ?_); refine Conv.conv_arm rfl rfl 9 40 5 (.tmp 35) rfl f1 rfl Tryd.underlying9 Tryd.underlying40 Tryd.underlying5 ?_; intro g3 cp3 w3 hrow hge hb; have HROW3 := Aside0.mk hrow; have HB3 := Aside0.mk hb; clear hrow hge hb)
      clear d1 c0 c1
      go_loopw [6, 38] (fun v6 v38 wr => ∃ i : Nat, v38 = .int .i64 (i : Int) ∧ Aside0 (i ≤ f1.size) ∧ Aside0 (allTo charB f1 i = true) ∧ Aside0 (Below w3.heap.size w3 wr)) (fun _ v38 _ => ((f1.size : Int) - intOf v38).toNat)
      case atStart => exact ⟨0, rfl, ⟨Nat.zero_le _⟩, ⟨rfl⟩, ⟨Below.refl _ _⟩⟩
      case round =>
        obtain ⟨i, rfl, HI, HA2, HBR⟩ := hrel
        have HBF := Aside0.mk (below_step (below_step (below_step (below_step HB1.out HB2.out) HB.out) HB3.out) HBR.out)
        by_cases d1 : i < f1.size
        · have x0 := (HROW3.out.below HBR.out).cell i (by rw [bytesOf_length]; exact d1)
          rw [show (bytesOf f1).getD i 0 = bt f1 (i : Int) from by rw [← rd_bytesOf]; unfold rd; rw [Int.toNat_natCast]] at x0
          have hst := all_step charB f1 i
          have hbd := fun h => all_bad (p := charB) (s := f1) d1 h
          generalize bt f1 (i : Int) = c at x0 hst hbd
          have hif := ifb d1 (show f1.size ≤ 1000000 by have := HS.out; omega)
          have HST := Aside0.mk hst
          have HBD := Aside0.mk hbd
          have HJ := Aside0.mk d1
          clear d1 hst hbd
          obtain ⟨i1, i2, i3, i4, i5, i6, i7⟩ := hif
          by_cases k1 : c < 32
          · have K1 : decide (c < 32) = true := decide_eq_true k1
            have HCV2 := Aside0.mk (show checkV ⟨f0, f1⟩ = 3 by rw [HCV.out, HBD.out (by unfold charB; rw [decide_eq_false (by omega)]; rfl), Bool.and_false]; rfl)
            clear k1
            go_wp2_with (fail)
            go_ret
            exact ⟨by rw [HCV2.out]; rfl, HBF.out⟩
          · have K1 : decide (c < 32) = false := decide_eq_false k1
            by_cases k2 : c > 126
            · have K2 : decide (c > 126) = true := decide_eq_true k2
              have K2' : decide (126 < c) = true := K2
              have HCV2 := Aside0.mk (show checkV ⟨f0, f1⟩ = 3 by rw [HCV.out, HBD.out (by unfold charB; rw [decide_eq_false (show ¬c ≤ 126 by omega), Bool.and_false]), Bool.and_false]; rfl)
              clear k1 k2
              go_wp2_with (fail)
              go_ret
              exact ⟨by rw [HCV2.out]; rfl, HBF.out⟩
            · have K2 : decide (c > 126) = false := decide_eq_false k2
              have K2' : decide (126 < c) = false := K2
              have HQ := Aside0.mk (show allTo charB f1 (i + 1) = true by rw [HST.out, HA2.out]; unfold charB; rw [decide_eq_true (show 32 ≤ c by omega), decide_eq_true (show c ≤ 126 by omega)]; rfl)
              clear k1 k2
              go_wp2_with (fail)
              go_roundw
              case rel => exact ⟨i + 1, by first | rfl | simp, ⟨by have := HJ.out; omega⟩, HQ, HBR⟩
              case measure => clear i1 i2; have := HJ.out; simp [intOf]; omega
        · have hi : i = f1.size := by have := HI.out; omega
          clear d1 HI
          subst hi
          have HCV2 := Aside0.mk (show checkV ⟨f0, f1⟩ = 0 by rw [HCV.out, HA.out, HA2.out]; rfl)
          go_wp2_with (fail)
          go_ret
          exact ⟨by rw [HCV2.out]; rfl, HBF.out⟩
end Go.Proofs.YtoigojlemffikaaDoor.Fld
