/- h3.Reader: frame. -/
import Derived.Test.YtnnmdocdiedgiaaDoorPass
namespace Go.Proofs.YtnnmdocdiedgiaaDoor.Reader
open Go.RowKit Go.Proofs.YtnnmdocdiedgiaaDoorW.PrintWords Go.Proofs.YtnnmdocdiedgiaaDoorW.PrintLast Go.Proofs.YtnnmdocdiedgiaaDoorW.PrintMore Go.Proofs.YtnnmdocdiedgiaaDoor.PH3Writes Go.Proofs.YtnnmdocdiedgiaaDoor Go.Proofs.YtnnmdocdiedgiaaDoor.Pure Go.Proofs.YtnnmdocdiedgiaaDoor.Pairs
set_option linter.unusedVariables false
set_option linter.unusedSimpArgs false
attribute [local go_sem] max2_int min2_int max_two min_two
/-- Behind a head that was read. -/
noncomputable def frmT (r : RS) (kind size : Int) (r2 : ByteArray) : RS × List S39 × Bool :=
  if plc r.ctl r.first kind ≠ 0 then ({ r with code := plc r.ctl r.first kind }, [], false) else
  if kind ≠ 1 ∧ kind ≠ 4 ∧ kind ≠ 7 then ({ r with rest := r2, left := size, strange := kind != 0, md := .pas }, [], true) else
  if size > 4096 then ({ r with code := 262 }, [], false) else
  if (r2.size : Int) < size then (r, [], false) else
  if cont kind (r2.extract 0 size.toNat) ≠ 0 then ({ r with code := cont kind (r2.extract 0 size.toNat) }, [], false) else
  ({ r with rest := r2.extract size.toNat r2.size, first := true }, [⟨kind, r2.extract 0 size.toNat⟩], true)
noncomputable def frmS (r : RS) : RS × List S39 × Bool :=
  if (vget r.rest).2.2 ≠ 0 then (r, [], false) else
  if (vget (r.rest.extract (vget r.rest).2.1.toNat r.rest.size)).2.2 ≠ 0 then (r, [], false) else
  frmT r (vget r.rest).1 (vget (r.rest.extract (vget r.rest).2.1.toNat r.rest.size)).1 (r.rest.extract ((vget r.rest).2.1 + (vget (r.rest.extract (vget r.rest).2.1.toNat r.rest.size)).2.1).toNat r.rest.size)
set_option maxHeartbeats 16000000 in
set_option maxRecDepth 100000 in
theorem frame_c (g gl : Nat) (r : RS) (v : Value) (l : List S39) (w0 W0 W : World) (h : Lp w0 W0 W g gl r v l) (hT : Kd.C (Kd.int .i64) w0 (some ⟨0, 0, none⟩) 4 ([1, 2, 4, 8] : List Int)) (hg : w0.heap.size ≤ g) (hgl : W0.heap.size ≤ gl) (hne : g ≠ gl) (hw0 : w0.heap.size ≤ W0.heap.size) (hmd : r.md = .frm) (hs : l.length + r.rest.size ≤ 100000) :
    Calls Tryd.prog 27 #[.pointer (some ⟨g, 0, none⟩), .pointer (some ⟨gl, 0, none⟩)] W fun e w' => ∃ v', e = .returned (.bool (frmS r).2.2) ∧ Lp w0 W0 w' g gl (frmS r).1 v' (l ++ (frmS r).2.1) := by
  have HL := Aside0.mk h
  have HT := Aside0.mk hT
  have HG := Aside0.mk hg
  have HGL := Aside0.mk hgl
  have HN := Aside0.mk hne
  have HW0 := Aside0.mk hw0
  obtain ⟨c0, c1, c2, c3, c4, c5, c6, c7, fr⟩ := rb_cells h.rb
  obtain ⟨ctl, rest, first, left, strange, code, md, begun⟩ := r
  dsimp only at c0 c1 c2 c3 c4 c5 c6 c7 hmd hs
  subst hmd
  clear h hT hg hgl hne hw0 c0 c2 c3 c4 c5 c6 c7 fr
  unfold frmS
  dsimp only
  have hg1 := vget_range rest
  have hg2 := vget_range (rest.extract (vget rest).2.1.toNat rest.size)
  obtain ⟨k1, hk1⟩ := (get_ev rest).rounds
  obtain ⟨k2, hk2⟩ := (get_ev (rest.extract (vget rest).2.1.toNat rest.size)).rounds
  obtain ⟨⟨kind, n, e⟩, hp⟩ : ∃ p, vget rest = p := ⟨_, rfl⟩
  rw [hp] at hk1 hk2 hg1 hg2
  rw [hp]
  dsimp only at hg1 hg2 hk2 ⊢
  obtain ⟨⟨size, m, f⟩, hq⟩ : ∃ p, vget (rest.extract n.toNat rest.size) = p := ⟨_, rfl⟩
  rw [hq] at hk2 hg2
  rw [hq]
  dsimp only at hg2 ⊢
  have hx : (rest.extract n.toNat rest.size).size = rest.size - n.toNat := by rw [ByteArray.size_extract]; omega
  rw [hx] at hg2
  have Hk1 := Aside0.mk hk1
  have Hk2 := Aside0.mk hk2
  clear hk1 hk2 hp hq hx
  have q1 := eq_true hg1.1
  have q2 := eq_true hg1.2.2.1
  by_cases h1 : e = 0
  rotate_left
  · have D1 : (e != 0) = true := bne_iff_ne.mpr h1
    have D1b : (e == 0) = false := beq_eq_false_iff_ne.mpr h1
    rw [if_pos h1]
    clear h1 hg1 hg2
    go_enter Tryd.func27, Tryd.ntmps27
    go_wp2_with (first | (go_at_call 18; (with_reducible refine (varint_Get.calls k1 rest kind n e _ (Kd.C_below HT.out HL.out.bel) Hk1.out).mono ?_); rintro e_ w1 ⟨rfl, hd⟩; have HLw1 := Aside0.mk (HL.out.drewN hd); obtain ⟨-, x1w1, -, -, -, -, -, -, -⟩ := rb_cells HLw1.out.rb; dsimp only at x1w1; clear hd))
    go_ret
    refine ⟨v, rfl, ?_⟩
    show Lp w0 W0 _ g gl _ v (l ++ [])
    rw [List.append_nil]
    exact HLw1.out
  subst h1
  rw [if_neg (by simp)]
  by_cases h2 : f = 0
  rotate_left
  · have D1 : (f != 0) = true := bne_iff_ne.mpr h2
    have D1b : (f == 0) = false := beq_eq_false_iff_ne.mpr h2
    rw [if_pos h2]
    clear h2 hg1 hg2
    go_enter Tryd.func27, Tryd.ntmps27
    go_wp2_with (first | (go_at_call 18; (with_reducible refine (varint_Get.calls k1 rest kind n 0 _ (Kd.C_below HT.out HL.out.bel) Hk1.out).mono ?_); rintro e_ w1 ⟨rfl, hd⟩; have HLw1 := Aside0.mk (HL.out.drewN hd); obtain ⟨-, x1w1, -, -, -, -, -, -, -⟩ := rb_cells HLw1.out.rb; dsimp only at x1w1; clear hd) | (go_at_call 18; (with_reducible refine (varint_Get.calls k2 (rest.extract n.toNat rest.size) size m f _ (Kd.C_below HT.out HLw1.out.bel) Hk2.out).mono ?_); rintro e_ w2 ⟨rfl, hd⟩; have HLw2 := Aside0.mk (HLw1.out.drewN hd); obtain ⟨-, x1w2, -, -, -, -, -, -, -⟩ := rb_cells HLw2.out.rb; dsimp only at x1w2; clear hd))
    go_ret
    refine ⟨v, rfl, ?_⟩
    show Lp w0 W0 _ g gl _ v (l ++ [])
    rw [List.append_nil]
    exact HLw2.out
  subst h2
  rw [if_neg (by simp)]
  unfold frmT
  dsimp only
  have hw : wrap64 (n + m) = n + m := by unfold wrap64; omega
  have hw2 : IntKind.i64.wrap (n + m) = n + m := (i64_w _).trans hw
  have q3 := eq_true (show 0 ≤ n + m by omega)
  have q4 := eq_true (show n + m ≤ (rest.size : Int) by omega)
  have HRG := Aside0.mk (And.intro hg1 (And.intro hg2 hs))
  have hr2z : (rest.extract (n + m).toNat rest.size).size + (n + m).toNat = rest.size := by rw [ByteArray.size_extract]; omega
  obtain ⟨r2, hr2⟩ : ∃ x, rest.extract (n + m).toNat rest.size = x := ⟨_, rfl⟩
  rw [hr2]
  rw [hr2] at hr2z
  have HR2 := Aside0.mk hr2z
  clear hg1 hg2 hs hr2z
  obtain ⟨pc, hpc⟩ : ∃ x, plc ctl first kind = x := ⟨_, rfl⟩
  rw [hpc]
  have HPC := Aside0.mk hpc
  by_cases h3 : pc = 0
  rotate_left
  · have D1 : (pc != 0) = true := bne_iff_ne.mpr h3
    have D1b : (pc == 0) = false := beq_eq_false_iff_ne.mpr h3
    rw [if_pos h3]
    clear h3 hpc
    go_enter Tryd.func27, Tryd.ntmps27
    go_wp2_with (first | (go_at_call 18; (with_reducible refine (varint_Get.calls k1 rest kind n 0 _ (Kd.C_below HT.out HL.out.bel) Hk1.out).mono ?_); rintro e_ w1 ⟨rfl, hd⟩; have HLw1 := Aside0.mk (HL.out.drewN hd); obtain ⟨-, x1w1, -, -, -, -, -, -, -⟩ := rb_cells HLw1.out.rb; dsimp only at x1w1; clear hd) | (go_at_call 18; (with_reducible refine (varint_Get.calls k2 (rest.extract n.toNat rest.size) size m 0 _ (Kd.C_below HT.out HLw1.out.bel) Hk2.out).mono ?_); rintro e_ w2 ⟨rfl, hd⟩; have HLw2 := Aside0.mk (HLw1.out.drewN hd); obtain ⟨-, x1w2, -, -, -, -, -, -, -⟩ := rb_cells HLw2.out.rb; dsimp only at x1w2; clear hd) | (go_at_call 34; (with_reducible refine (place_c g ⟨ctl, rest, first, left, strange, code, .frm, begun⟩ kind _ HLw2.out.rb).mono ?_); dsimp only; rw [HPC.out]; rintro e_ w3 ⟨rfl, rfl⟩) | (go_at_call 35; (with_reducible refine (fail_c g _ pc _ HLw2.out.rb).mono ?_); rintro e_ w5 ⟨rfl, hw⟩; have HW := Aside0.mk hw; clear hw))
    go_ret
    refine ⟨v, rfl, ?_⟩
    rw [← HW.out]
    have h1 := HLw2.out.set HG.out HN.out 5 (.int .i64 pc) ⟨ctl, rest, first, left, strange, pc, .frm, begun⟩ rfl
    show Lp w0 W0 _ g gl _ v (l ++ [])
    rw [List.append_nil]
    exact h1
  subst h3
  rw [if_neg (by simp)]
  clear hpc
  by_cases h4 : kind ≠ 1 ∧ kind ≠ 4 ∧ kind ≠ 7
  · rw [if_pos h4]
    have T1 : (kind != 1) = true := bne_iff_ne.mpr h4.1
    have T2 : (kind != 4) = true := bne_iff_ne.mpr h4.2.1
    have T3 : (kind != 7) = true := bne_iff_ne.mpr h4.2.2
    have T1b : (kind == 1) = false := beq_eq_false_iff_ne.mpr h4.1
    have T2b : (kind == 4) = false := beq_eq_false_iff_ne.mpr h4.2.1
    have T3b : (kind == 7) = false := beq_eq_false_iff_ne.mpr h4.2.2
    clear h4
    obtain ⟨sb, hsb⟩ : ∃ x : Bool, (kind != 0) = x := ⟨_, rfl⟩
    rw [hsb]
    go_enter Tryd.func27, Tryd.ntmps27
    go_wp2_with (first | (go_at_call 18; (with_reducible refine (varint_Get.calls k1 rest kind n 0 _ (Kd.C_below HT.out HL.out.bel) Hk1.out).mono ?_); rintro e_ w1 ⟨rfl, hd⟩; have HLw1 := Aside0.mk (HL.out.drewN hd); obtain ⟨-, x1w1, -, -, -, -, -, -, -⟩ := rb_cells HLw1.out.rb; dsimp only at x1w1; clear hd) | (go_at_call 18; (with_reducible refine (varint_Get.calls k2 (rest.extract n.toNat rest.size) size m 0 _ (Kd.C_below HT.out HLw1.out.bel) Hk2.out).mono ?_); rintro e_ w2 ⟨rfl, hd⟩; have HLw2 := Aside0.mk (HLw1.out.drewN hd); obtain ⟨-, x1w2, -, -, -, -, -, -, -⟩ := rb_cells HLw2.out.rb; dsimp only at x1w2; clear hd) | ((go_at_call 34; (with_reducible refine (place_c g ⟨ctl, rest, first, left, strange, code, .frm, begun⟩ kind _ HLw2.out.rb).mono ?_); dsimp only; rw [HPC.out]; rintro e_ w3 ⟨rfl, rfl⟩); obtain ⟨y0, y1, y2, y3, y4, y5, y6, y7, yf⟩ := rb_cells HLw2.out.rb; have z1 := yf 1; have z3 := yf 3; have z4 := yf 4; have z6 := yf 6; dsimp only at y0 y1 y2 y3 y4 y5 y6 y7; clear yf y0 y2 y5 y7))
    go_ret
    refine ⟨v, rfl, ?_⟩
    have h1 := HLw2.out.set HG.out HN.out 1 (.string r2) ⟨ctl, r2, first, left, strange, code, .frm, begun⟩ rfl
    have h2 := h1.set HG.out HN.out 3 (.int .i64 size) ⟨ctl, r2, first, size, strange, code, .frm, begun⟩ rfl
    have h3 := h2.set HG.out HN.out 4 (.bool sb) ⟨ctl, r2, first, size, sb, code, .frm, begun⟩ rfl
    have h4 := h3.set HG.out HN.out 6 (nextV g .pas) ⟨ctl, r2, first, size, sb, code, .pas, begun⟩ rfl
    show Lp w0 W0 _ g gl _ v (l ++ [])
    rw [List.append_nil]
    exact h4
  rw [if_neg h4]
  have hk : kind = 1 ∨ kind = 4 ∨ kind = 7 := by omega
  clear h4
  rcases hk with rfl | rfl | rfl
  · by_cases h5 : size > 4096
    · have D5 : decide (size > 4096) = true := decide_eq_true h5
      have D5b : decide (4096 < size) = true := decide_eq_true h5
      rw [if_pos h5]
      clear h5
      go_enter Tryd.func27, Tryd.ntmps27
      go_wp2_with (first | (go_at_call 18; (with_reducible refine (varint_Get.calls k1 rest 1 n 0 _ (Kd.C_below HT.out HL.out.bel) Hk1.out).mono ?_); rintro e_ w1 ⟨rfl, hd⟩; have HLw1 := Aside0.mk (HL.out.drewN hd); obtain ⟨-, x1w1, -, -, -, -, -, -, -⟩ := rb_cells HLw1.out.rb; dsimp only at x1w1; clear hd) | (go_at_call 18; (with_reducible refine (varint_Get.calls k2 (rest.extract n.toNat rest.size) size m 0 _ (Kd.C_below HT.out HLw1.out.bel) Hk2.out).mono ?_); rintro e_ w2 ⟨rfl, hd⟩; have HLw2 := Aside0.mk (HLw1.out.drewN hd); obtain ⟨-, x1w2, -, -, -, -, -, -, -⟩ := rb_cells HLw2.out.rb; dsimp only at x1w2; clear hd) | (go_at_call 34; (with_reducible refine (place_c g ⟨ctl, rest, first, left, strange, code, .frm, begun⟩ 1 _ HLw2.out.rb).mono ?_); dsimp only; rw [HPC.out]; rintro e_ w3 ⟨rfl, rfl⟩) | (go_at_call 35; (with_reducible refine (fail_c g _ 262 _ HLw2.out.rb).mono ?_); rintro e_ w5 ⟨rfl, hw⟩; have HW := Aside0.mk hw; clear hw))
      go_ret
      refine ⟨v, rfl, ?_⟩
      rw [← HW.out]
      have h1 := HLw2.out.set HG.out HN.out 5 (.int .i64 262) ⟨ctl, rest, first, left, strange, 262, .frm, begun⟩ rfl
      show Lp w0 W0 _ g gl _ v (l ++ [])
      rw [List.append_nil]
      exact h1
    have D5 : decide (size > 4096) = false := decide_eq_false h5
    have D5b : decide (4096 < size) = false := decide_eq_false h5
    rw [if_neg h5]
    by_cases h6 : (r2.size : Int) < size
    · have D6 : decide ((r2.size : Int) < size) = true := decide_eq_true h6
      rw [if_pos h6]
      clear h5 h6
      go_enter Tryd.func27, Tryd.ntmps27
      go_wp2_with (first | (go_at_call 18; (with_reducible refine (varint_Get.calls k1 rest 1 n 0 _ (Kd.C_below HT.out HL.out.bel) Hk1.out).mono ?_); rintro e_ w1 ⟨rfl, hd⟩; have HLw1 := Aside0.mk (HL.out.drewN hd); obtain ⟨-, x1w1, -, -, -, -, -, -, -⟩ := rb_cells HLw1.out.rb; dsimp only at x1w1; clear hd) | (go_at_call 18; (with_reducible refine (varint_Get.calls k2 (rest.extract n.toNat rest.size) size m 0 _ (Kd.C_below HT.out HLw1.out.bel) Hk2.out).mono ?_); rintro e_ w2 ⟨rfl, hd⟩; have HLw2 := Aside0.mk (HLw1.out.drewN hd); obtain ⟨-, x1w2, -, -, -, -, -, -, -⟩ := rb_cells HLw2.out.rb; dsimp only at x1w2; clear hd) | (go_at_call 34; (with_reducible refine (place_c g ⟨ctl, rest, first, left, strange, code, .frm, begun⟩ 1 _ HLw2.out.rb).mono ?_); dsimp only; rw [HPC.out]; rintro e_ w3 ⟨rfl, rfl⟩))
      go_ret
      refine ⟨v, rfl, ?_⟩
      show Lp w0 W0 _ g gl _ v (l ++ [])
      rw [List.append_nil]
      exact HLw2.out
    have D6 : decide ((r2.size : Int) < size) = false := decide_eq_false h6
    rw [if_neg h6]
    have q5 := eq_true HRG.out.2.1.2.2.2.1
    have q6 := eq_true (show size ≤ (r2.size : Int) by omega)
    have hdz : (r2.extract 0 size.toNat).size ≤ 140737488351232 := by rw [ByteArray.size_extract]; omega
    have HDZ := Aside0.mk hdz
    have HSZ := Aside0.mk (And.intro h5 h6)
    clear h5 h6 hdz
    obtain ⟨d, hd⟩ : ∃ x, r2.extract 0 size.toNat = x := ⟨_, rfl⟩
    rw [hd]
    rw [hd] at HDZ
    obtain ⟨cc, hcc⟩ : ∃ x, cont 1 d = x := ⟨_, rfl⟩
    rw [hcc]
    have HCC := Aside0.mk hcc
    clear hcc
    by_cases h7 : cc = 0
    rotate_left
    · have D7 : (cc != 0) = true := bne_iff_ne.mpr h7
      have D7b : (cc == 0) = false := beq_eq_false_iff_ne.mpr h7
      rw [if_pos h7]
      clear h7
      go_enter Tryd.func27, Tryd.ntmps27
      go_wp2_with (first | (go_at_call 18; (with_reducible refine (varint_Get.calls k1 rest 1 n 0 _ (Kd.C_below HT.out HL.out.bel) Hk1.out).mono ?_); rintro e_ w1 ⟨rfl, hd⟩; have HLw1 := Aside0.mk (HL.out.drewN hd); obtain ⟨-, x1w1, -, -, -, -, -, -, -⟩ := rb_cells HLw1.out.rb; dsimp only at x1w1; clear hd) | (go_at_call 18; (with_reducible refine (varint_Get.calls k2 (rest.extract n.toNat rest.size) size m 0 _ (Kd.C_below HT.out HLw1.out.bel) Hk2.out).mono ?_); rintro e_ w2 ⟨rfl, hd⟩; have HLw2 := Aside0.mk (HLw1.out.drewN hd); obtain ⟨-, x1w2, -, -, -, -, -, -, -⟩ := rb_cells HLw2.out.rb; dsimp only at x1w2; clear hd) | (go_at_call 34; (with_reducible refine (place_c g ⟨ctl, rest, first, left, strange, code, .frm, begun⟩ 1 _ HLw2.out.rb).mono ?_); dsimp only; rw [HPC.out]; rintro e_ w3 ⟨rfl, rfl⟩) | (go_at_call 37; (with_reducible refine (content_c 1 d w0 _ (HLw2.out.below (below_alloc (Below.refl w2.heap.size w2) (.cells #[.int .i64 1, .string d] 39))).bel HT.out HDZ.out).mono ?_); rw [HCC.out]; rintro e_ w4 ⟨rfl, hb4⟩; have HL4 := Aside0.mk ((HLw2.out.below (below_alloc (Below.refl w2.heap.size w2) (.cells #[.int .i64 1, .string d] 39))).below hb4); have BX := Aside0.mk (blk_below (blk_new w2 (.cells #[.int .i64 1, .string d] 39)) hb4); clear hb4) | (go_at_call 35; (with_reducible refine (fail_c g _ cc _ HL4.out.rb).mono ?_); rintro e_ w5 ⟨rfl, hw⟩; have HW := Aside0.mk hw; clear hw))
      go_ret
      refine ⟨v, rfl, ?_⟩
      rw [← HW.out]
      have h1 := HL4.out.set HG.out HN.out 5 (.int .i64 cc) ⟨ctl, rest, first, left, strange, cc, .frm, begun⟩ rfl
      show Lp w0 W0 _ g gl _ v (l ++ [])
      rw [List.append_nil]
      exact h1
    subst h7
    rw [if_neg (by simp)]
    go_enter Tryd.func27, Tryd.ntmps27
    go_wp2_with (first | (go_at_call 18; (with_reducible refine (varint_Get.calls k1 rest 1 n 0 _ (Kd.C_below HT.out HL.out.bel) Hk1.out).mono ?_); rintro e_ w1 ⟨rfl, hd⟩; have HLw1 := Aside0.mk (HL.out.drewN hd); obtain ⟨-, x1w1, -, -, -, -, -, -, -⟩ := rb_cells HLw1.out.rb; dsimp only at x1w1; clear hd) | (go_at_call 18; (with_reducible refine (varint_Get.calls k2 (rest.extract n.toNat rest.size) size m 0 _ (Kd.C_below HT.out HLw1.out.bel) Hk2.out).mono ?_); rintro e_ w2 ⟨rfl, hd⟩; have HLw2 := Aside0.mk (HLw1.out.drewN hd); obtain ⟨-, x1w2, -, -, -, -, -, -, -⟩ := rb_cells HLw2.out.rb; dsimp only at x1w2; clear hd) | (go_at_call 34; (with_reducible refine (place_c g ⟨ctl, rest, first, left, strange, code, .frm, begun⟩ 1 _ HLw2.out.rb).mono ?_); dsimp only; rw [HPC.out]; rintro e_ w3 ⟨rfl, rfl⟩) | (go_at_call 37; (with_reducible refine (content_c 1 d w0 _ (HLw2.out.below (below_alloc (Below.refl w2.heap.size w2) (.cells #[.int .i64 1, .string d] 39))).bel HT.out HDZ.out).mono ?_); rw [HCC.out]; rintro e_ w4 ⟨rfl, hb4⟩; have HL4 := Aside0.mk ((HLw2.out.below (below_alloc (Below.refl w2.heap.size w2) (.cells #[.int .i64 1, .string d] 39))).below hb4); have BX := Aside0.mk (blk_below (blk_new w2 (.cells #[.int .i64 1, .string d] 39)) hb4); clear hb4))
    have HLd := Aside0.mk HL4.out.drew
    obtain ⟨A, c, rfl⟩ := Kd.R_slice HLd.out.rr
    refine Calm.wp_region_calmC [(3, fun w_ => w_.cell? ⟨gl, 0, none⟩ = some (.slice A l.length c)), (4, fun w_ => w_.cell? ⟨w2.heap.size, 0, none⟩ = some (.int .i64 1)), (4, fun w_ => w_.cell? ⟨w2.heap.size, 1, none⟩ = some (.string d))] [0, 1, 2, 3, 4] [5, 6, 7, 8] (by kernel_rfl) (by kernel_rfl) (Calm.allC_cons ((blk_cell HLd.out.lb 0).trans rfl) (Calm.allC_cons ((blk_cell BX.out 0).trans rfl) (Calm.allC_cons ((blk_cell BX.out 1).trans rfl) Calm.allC_nil))) ?_
    repeat (first
      | (refine Calm.g_value (v := ?_) (a' := ?_) rfl rfl (by rfl) ?_ ?_ ?_; rotate_left; (· rintro w' hS'; (try simp only [Calm.SC_cons, Calm.SC_nil, Nat.reduceEqDiff, forall_const, false_implies, and_true, true_and] at hS'); (try obtain ⟨hS1, hS2⟩ := hS'); go_simp; with_reducible rfl); rotate_left; (· simp only [Act.put, List.setIfInBounds_toArray, List.set_cons_zero, List.set_cons_succ, i64_w, i32_w]; rfl)))
    refine Calm.g_nil ?_
    refine Calm.c_value (v := ?_) (w1 := ?_) (a' := ?_) rfl rfl (by rfl) ?_ ?_ ?_ ?_
    rotate_left
    rotate_left
    · go_simp; first | (refine And.intro ?_ ?_ <;> rfl) | rfl
    · repeat (first | exact Calm.okC_nil | (refine Calm.okC_cons (Or.inl (by decide +kernel)) ?_) | (refine Calm.okC_cons (Or.inr (by (first | exact (blk_cell (blk_alloc HLd.out.lb _) 0).trans rfl | assumption | (go_simp; done)))) ?_))
    rotate_left
    · simp only [Act.put, List.setIfInBounds_toArray, List.set_cons_zero, List.set_cons_succ, i64_w, i32_w]; rfl
    refine Calm.c_law rfl ?_
    refine Kd.R_append_step k39 (w0 := w0) w0.heap.size (by rfl) (.tmp 107) (.tmp 109) 33 39 (.agg #[.int .i64 0, .string (⟨#[]⟩ : ByteArray)]) 24 rfl Tryd.underlying33 info39_ rfl (by decide) (by omega) (.slice A l.length c) l ⟨1, d⟩ [.int .i64 1, .string d] (fun k => k ≠ g ∧ k ≠ gl ∧ W0.heap.size ≤ k) (fun _ => False) rfl rfl ?aP (fun _ hk => hk.elim) ?aF HLd.out.rr HLd.out.bel ?aS ?aL ?_
    case aP => exact k39_mkM _ _ _ _
    case aF => exact fun k hk => ⟨by have := blk_lt HLd.out.rb; omega, by have := blk_lt HLd.out.lb; omega, Nat.le_trans HLd.out.keep.1 hk⟩
    case aS => exact HLd.out.bel.size
    case aL => have := HRG.out.2.2; omega
    intro v6 w6 hR6 hB6 hg6 hat
    have hcl := HLd.out.cellsl hg6
    obtain ⟨cl6, fl6⟩ := hcl
    obtain ⟨A6, cp6, rfl⟩ := Kd.R_slice hR6
    refine And.intro ?_ ?_
    · repeat (first | exact Calm.okC_nil | (refine Calm.okC_cons (Or.inl (by decide +kernel)) ?_) | (refine Calm.okC_cons (Or.inr (by (first | assumption | (go_simp; done)))) ?_))
    refine Calm.put_dst (a' := ?_) rfl ?_ ?_
    rotate_left
    · simp only [Act.put, List.setIfInBounds_toArray, List.set_cons_zero, List.set_cons_succ, i64_w, i32_w]; rfl
    refine Calm.c_value (v := ?_) (w1 := ?_) (a' := ?_) rfl rfl (by rfl) ?_ ?_ ?_ ?_
    rotate_left
    rotate_left
    · go_simp; first | (refine And.intro ?_ ?_ <;> rfl) | rfl
    · repeat (first | exact Calm.okC_nil | (refine Calm.okC_cons (Or.inl (by decide +kernel)) ?_) | (refine Calm.okC_cons (Or.inr (by (first | assumption | (go_simp; done)))) ?_))
    rotate_left
    · simp only [Act.put, List.setIfInBounds_toArray, List.set_cons_zero, List.set_cons_succ, i64_w, i32_w]; rfl
    refine Calm.c_store (w1 := ?_) rfl (by rfl) rfl ?_ ?_ ?_
    rotate_left
    · go_simp; rfl
    · repeat (first | exact Calm.okC_nil | (refine Calm.okC_cons (Or.inl (by decide +kernel)) ?_) | (refine Calm.okC_cons (Or.inr (by (first | assumption | (go_simp; done)))) ?_))
    refine Calm.h_nil ?_
    simp only [Exit.inBlock, Exit.then]
    have hle := HLd.out.appset HGL.out (Nat.le_trans HW0.out HGL.out) HN.out hR6 hB6 hg6
    rw [show (l ++ [(⟨1, d⟩ : S39)]).length = l.length + 1 by simp] at hle
    have HLe := Aside0.mk hle
    clear hle
    clear hR6 hB6 hg6 hat cl6 fl6 HLd
    generalize w6.setCell ⟨gl, 0, none⟩ _ = w7 at HLe ⊢
    obtain ⟨e0, e1, e2, e3, e4, e5, e6, e7, er⟩ := rb_cells HLe.out.rb
    dsimp only at e0 e1 e2 e3 e4 e5 e6 e7
    have er1 := er 1
    have er2 := er 2
    clear er e0 e3 e4 e5 e6 e7
    go_wp2_with (fail)
    go_ret
    refine ⟨(.slice A6 (l.length + 1) cp6), rfl, ?_⟩
    have h1 := HLe.out.set HG.out HN.out 1 (.string (r2.extract size.toNat r2.size)) ⟨ctl, r2.extract size.toNat r2.size, first, left, strange, code, .frm, begun⟩ rfl
    have h2 := h1.set HG.out HN.out 2 (.bool true) ⟨ctl, r2.extract size.toNat r2.size, true, left, strange, code, .frm, begun⟩ rfl
    show Lp w0 W0 _ g gl _ _ (l ++ [⟨1, d⟩])
    first | exact h2 | exact h2.drew | exact h2.drew.drew
  · by_cases h5 : size > 4096
    · have D5 : decide (size > 4096) = true := decide_eq_true h5
      have D5b : decide (4096 < size) = true := decide_eq_true h5
      rw [if_pos h5]
      clear h5
      go_enter Tryd.func27, Tryd.ntmps27
      go_wp2_with (first | (go_at_call 18; (with_reducible refine (varint_Get.calls k1 rest 4 n 0 _ (Kd.C_below HT.out HL.out.bel) Hk1.out).mono ?_); rintro e_ w1 ⟨rfl, hd⟩; have HLw1 := Aside0.mk (HL.out.drewN hd); obtain ⟨-, x1w1, -, -, -, -, -, -, -⟩ := rb_cells HLw1.out.rb; dsimp only at x1w1; clear hd) | (go_at_call 18; (with_reducible refine (varint_Get.calls k2 (rest.extract n.toNat rest.size) size m 0 _ (Kd.C_below HT.out HLw1.out.bel) Hk2.out).mono ?_); rintro e_ w2 ⟨rfl, hd⟩; have HLw2 := Aside0.mk (HLw1.out.drewN hd); obtain ⟨-, x1w2, -, -, -, -, -, -, -⟩ := rb_cells HLw2.out.rb; dsimp only at x1w2; clear hd) | (go_at_call 34; (with_reducible refine (place_c g ⟨ctl, rest, first, left, strange, code, .frm, begun⟩ 4 _ HLw2.out.rb).mono ?_); dsimp only; rw [HPC.out]; rintro e_ w3 ⟨rfl, rfl⟩) | (go_at_call 35; (with_reducible refine (fail_c g _ 262 _ HLw2.out.rb).mono ?_); rintro e_ w5 ⟨rfl, hw⟩; have HW := Aside0.mk hw; clear hw))
      go_ret
      refine ⟨v, rfl, ?_⟩
      rw [← HW.out]
      have h1 := HLw2.out.set HG.out HN.out 5 (.int .i64 262) ⟨ctl, rest, first, left, strange, 262, .frm, begun⟩ rfl
      show Lp w0 W0 _ g gl _ v (l ++ [])
      rw [List.append_nil]
      exact h1
    have D5 : decide (size > 4096) = false := decide_eq_false h5
    have D5b : decide (4096 < size) = false := decide_eq_false h5
    rw [if_neg h5]
    by_cases h6 : (r2.size : Int) < size
    · have D6 : decide ((r2.size : Int) < size) = true := decide_eq_true h6
      rw [if_pos h6]
      clear h5 h6
      go_enter Tryd.func27, Tryd.ntmps27
      go_wp2_with (first | (go_at_call 18; (with_reducible refine (varint_Get.calls k1 rest 4 n 0 _ (Kd.C_below HT.out HL.out.bel) Hk1.out).mono ?_); rintro e_ w1 ⟨rfl, hd⟩; have HLw1 := Aside0.mk (HL.out.drewN hd); obtain ⟨-, x1w1, -, -, -, -, -, -, -⟩ := rb_cells HLw1.out.rb; dsimp only at x1w1; clear hd) | (go_at_call 18; (with_reducible refine (varint_Get.calls k2 (rest.extract n.toNat rest.size) size m 0 _ (Kd.C_below HT.out HLw1.out.bel) Hk2.out).mono ?_); rintro e_ w2 ⟨rfl, hd⟩; have HLw2 := Aside0.mk (HLw1.out.drewN hd); obtain ⟨-, x1w2, -, -, -, -, -, -, -⟩ := rb_cells HLw2.out.rb; dsimp only at x1w2; clear hd) | (go_at_call 34; (with_reducible refine (place_c g ⟨ctl, rest, first, left, strange, code, .frm, begun⟩ 4 _ HLw2.out.rb).mono ?_); dsimp only; rw [HPC.out]; rintro e_ w3 ⟨rfl, rfl⟩))
      go_ret
      refine ⟨v, rfl, ?_⟩
      show Lp w0 W0 _ g gl _ v (l ++ [])
      rw [List.append_nil]
      exact HLw2.out
    have D6 : decide ((r2.size : Int) < size) = false := decide_eq_false h6
    rw [if_neg h6]
    have q5 := eq_true HRG.out.2.1.2.2.2.1
    have q6 := eq_true (show size ≤ (r2.size : Int) by omega)
    have hdz : (r2.extract 0 size.toNat).size ≤ 140737488351232 := by rw [ByteArray.size_extract]; omega
    have HDZ := Aside0.mk hdz
    have HSZ := Aside0.mk (And.intro h5 h6)
    clear h5 h6 hdz
    obtain ⟨d, hd⟩ : ∃ x, r2.extract 0 size.toNat = x := ⟨_, rfl⟩
    rw [hd]
    rw [hd] at HDZ
    obtain ⟨cc, hcc⟩ : ∃ x, cont 4 d = x := ⟨_, rfl⟩
    rw [hcc]
    have HCC := Aside0.mk hcc
    clear hcc
    by_cases h7 : cc = 0
    rotate_left
    · have D7 : (cc != 0) = true := bne_iff_ne.mpr h7
      have D7b : (cc == 0) = false := beq_eq_false_iff_ne.mpr h7
      rw [if_pos h7]
      clear h7
      go_enter Tryd.func27, Tryd.ntmps27
      go_wp2_with (first | (go_at_call 18; (with_reducible refine (varint_Get.calls k1 rest 4 n 0 _ (Kd.C_below HT.out HL.out.bel) Hk1.out).mono ?_); rintro e_ w1 ⟨rfl, hd⟩; have HLw1 := Aside0.mk (HL.out.drewN hd); obtain ⟨-, x1w1, -, -, -, -, -, -, -⟩ := rb_cells HLw1.out.rb; dsimp only at x1w1; clear hd) | (go_at_call 18; (with_reducible refine (varint_Get.calls k2 (rest.extract n.toNat rest.size) size m 0 _ (Kd.C_below HT.out HLw1.out.bel) Hk2.out).mono ?_); rintro e_ w2 ⟨rfl, hd⟩; have HLw2 := Aside0.mk (HLw1.out.drewN hd); obtain ⟨-, x1w2, -, -, -, -, -, -, -⟩ := rb_cells HLw2.out.rb; dsimp only at x1w2; clear hd) | (go_at_call 34; (with_reducible refine (place_c g ⟨ctl, rest, first, left, strange, code, .frm, begun⟩ 4 _ HLw2.out.rb).mono ?_); dsimp only; rw [HPC.out]; rintro e_ w3 ⟨rfl, rfl⟩) | (go_at_call 37; (with_reducible refine (content_c 4 d w0 _ (HLw2.out.below (below_alloc (Below.refl w2.heap.size w2) (.cells #[.int .i64 4, .string d] 39))).bel HT.out HDZ.out).mono ?_); rw [HCC.out]; rintro e_ w4 ⟨rfl, hb4⟩; have HL4 := Aside0.mk ((HLw2.out.below (below_alloc (Below.refl w2.heap.size w2) (.cells #[.int .i64 4, .string d] 39))).below hb4); have BX := Aside0.mk (blk_below (blk_new w2 (.cells #[.int .i64 4, .string d] 39)) hb4); clear hb4) | (go_at_call 35; (with_reducible refine (fail_c g _ cc _ HL4.out.rb).mono ?_); rintro e_ w5 ⟨rfl, hw⟩; have HW := Aside0.mk hw; clear hw))
      go_ret
      refine ⟨v, rfl, ?_⟩
      rw [← HW.out]
      have h1 := HL4.out.set HG.out HN.out 5 (.int .i64 cc) ⟨ctl, rest, first, left, strange, cc, .frm, begun⟩ rfl
      show Lp w0 W0 _ g gl _ v (l ++ [])
      rw [List.append_nil]
      exact h1
    subst h7
    rw [if_neg (by simp)]
    go_enter Tryd.func27, Tryd.ntmps27
    go_wp2_with (first | (go_at_call 18; (with_reducible refine (varint_Get.calls k1 rest 4 n 0 _ (Kd.C_below HT.out HL.out.bel) Hk1.out).mono ?_); rintro e_ w1 ⟨rfl, hd⟩; have HLw1 := Aside0.mk (HL.out.drewN hd); obtain ⟨-, x1w1, -, -, -, -, -, -, -⟩ := rb_cells HLw1.out.rb; dsimp only at x1w1; clear hd) | (go_at_call 18; (with_reducible refine (varint_Get.calls k2 (rest.extract n.toNat rest.size) size m 0 _ (Kd.C_below HT.out HLw1.out.bel) Hk2.out).mono ?_); rintro e_ w2 ⟨rfl, hd⟩; have HLw2 := Aside0.mk (HLw1.out.drewN hd); obtain ⟨-, x1w2, -, -, -, -, -, -, -⟩ := rb_cells HLw2.out.rb; dsimp only at x1w2; clear hd) | (go_at_call 34; (with_reducible refine (place_c g ⟨ctl, rest, first, left, strange, code, .frm, begun⟩ 4 _ HLw2.out.rb).mono ?_); dsimp only; rw [HPC.out]; rintro e_ w3 ⟨rfl, rfl⟩) | (go_at_call 37; (with_reducible refine (content_c 4 d w0 _ (HLw2.out.below (below_alloc (Below.refl w2.heap.size w2) (.cells #[.int .i64 4, .string d] 39))).bel HT.out HDZ.out).mono ?_); rw [HCC.out]; rintro e_ w4 ⟨rfl, hb4⟩; have HL4 := Aside0.mk ((HLw2.out.below (below_alloc (Below.refl w2.heap.size w2) (.cells #[.int .i64 4, .string d] 39))).below hb4); have BX := Aside0.mk (blk_below (blk_new w2 (.cells #[.int .i64 4, .string d] 39)) hb4); clear hb4))
    have HLd := Aside0.mk HL4.out.drew
    obtain ⟨A, c, rfl⟩ := Kd.R_slice HLd.out.rr
    refine Calm.wp_region_calmC [(3, fun w_ => w_.cell? ⟨gl, 0, none⟩ = some (.slice A l.length c)), (4, fun w_ => w_.cell? ⟨w2.heap.size, 0, none⟩ = some (.int .i64 4)), (4, fun w_ => w_.cell? ⟨w2.heap.size, 1, none⟩ = some (.string d))] [0, 1, 2, 3, 4] [5, 6, 7, 8] (by kernel_rfl) (by kernel_rfl) (Calm.allC_cons ((blk_cell HLd.out.lb 0).trans rfl) (Calm.allC_cons ((blk_cell BX.out 0).trans rfl) (Calm.allC_cons ((blk_cell BX.out 1).trans rfl) Calm.allC_nil))) ?_
    repeat (first
      | (refine Calm.g_value (v := ?_) (a' := ?_) rfl rfl (by rfl) ?_ ?_ ?_; rotate_left; (· rintro w' hS'; (try simp only [Calm.SC_cons, Calm.SC_nil, Nat.reduceEqDiff, forall_const, false_implies, and_true, true_and] at hS'); (try obtain ⟨hS1, hS2⟩ := hS'); go_simp; with_reducible rfl); rotate_left; (· simp only [Act.put, List.setIfInBounds_toArray, List.set_cons_zero, List.set_cons_succ, i64_w, i32_w]; rfl)))
    refine Calm.g_nil ?_
    refine Calm.c_value (v := ?_) (w1 := ?_) (a' := ?_) rfl rfl (by rfl) ?_ ?_ ?_ ?_
    rotate_left
    rotate_left
    · go_simp; first | (refine And.intro ?_ ?_ <;> rfl) | rfl
    · repeat (first | exact Calm.okC_nil | (refine Calm.okC_cons (Or.inl (by decide +kernel)) ?_) | (refine Calm.okC_cons (Or.inr (by (first | exact (blk_cell (blk_alloc HLd.out.lb _) 0).trans rfl | assumption | (go_simp; done)))) ?_))
    rotate_left
    · simp only [Act.put, List.setIfInBounds_toArray, List.set_cons_zero, List.set_cons_succ, i64_w, i32_w]; rfl
    refine Calm.c_law rfl ?_
    refine Kd.R_append_step k39 (w0 := w0) w0.heap.size (by rfl) (.tmp 107) (.tmp 109) 33 39 (.agg #[.int .i64 0, .string (⟨#[]⟩ : ByteArray)]) 24 rfl Tryd.underlying33 info39_ rfl (by decide) (by omega) (.slice A l.length c) l ⟨4, d⟩ [.int .i64 4, .string d] (fun k => k ≠ g ∧ k ≠ gl ∧ W0.heap.size ≤ k) (fun _ => False) rfl rfl ?aP (fun _ hk => hk.elim) ?aF HLd.out.rr HLd.out.bel ?aS ?aL ?_
    case aP => exact k39_mkM _ _ _ _
    case aF => exact fun k hk => ⟨by have := blk_lt HLd.out.rb; omega, by have := blk_lt HLd.out.lb; omega, Nat.le_trans HLd.out.keep.1 hk⟩
    case aS => exact HLd.out.bel.size
    case aL => have := HRG.out.2.2; omega
    intro v6 w6 hR6 hB6 hg6 hat
    have hcl := HLd.out.cellsl hg6
    obtain ⟨cl6, fl6⟩ := hcl
    obtain ⟨A6, cp6, rfl⟩ := Kd.R_slice hR6
    refine And.intro ?_ ?_
    · repeat (first | exact Calm.okC_nil | (refine Calm.okC_cons (Or.inl (by decide +kernel)) ?_) | (refine Calm.okC_cons (Or.inr (by (first | assumption | (go_simp; done)))) ?_))
    refine Calm.put_dst (a' := ?_) rfl ?_ ?_
    rotate_left
    · simp only [Act.put, List.setIfInBounds_toArray, List.set_cons_zero, List.set_cons_succ, i64_w, i32_w]; rfl
    refine Calm.c_value (v := ?_) (w1 := ?_) (a' := ?_) rfl rfl (by rfl) ?_ ?_ ?_ ?_
    rotate_left
    rotate_left
    · go_simp; first | (refine And.intro ?_ ?_ <;> rfl) | rfl
    · repeat (first | exact Calm.okC_nil | (refine Calm.okC_cons (Or.inl (by decide +kernel)) ?_) | (refine Calm.okC_cons (Or.inr (by (first | assumption | (go_simp; done)))) ?_))
    rotate_left
    · simp only [Act.put, List.setIfInBounds_toArray, List.set_cons_zero, List.set_cons_succ, i64_w, i32_w]; rfl
    refine Calm.c_store (w1 := ?_) rfl (by rfl) rfl ?_ ?_ ?_
    rotate_left
    · go_simp; rfl
    · repeat (first | exact Calm.okC_nil | (refine Calm.okC_cons (Or.inl (by decide +kernel)) ?_) | (refine Calm.okC_cons (Or.inr (by (first | assumption | (go_simp; done)))) ?_))
    refine Calm.h_nil ?_
    simp only [Exit.inBlock, Exit.then]
    have hle := HLd.out.appset HGL.out (Nat.le_trans HW0.out HGL.out) HN.out hR6 hB6 hg6
    rw [show (l ++ [(⟨4, d⟩ : S39)]).length = l.length + 1 by simp] at hle
    have HLe := Aside0.mk hle
    clear hle
    clear hR6 hB6 hg6 hat cl6 fl6 HLd
    generalize w6.setCell ⟨gl, 0, none⟩ _ = w7 at HLe ⊢
    obtain ⟨e0, e1, e2, e3, e4, e5, e6, e7, er⟩ := rb_cells HLe.out.rb
    dsimp only at e0 e1 e2 e3 e4 e5 e6 e7
    have er1 := er 1
    have er2 := er 2
    clear er e0 e3 e4 e5 e6 e7
    go_wp2_with (fail)
    go_ret
    refine ⟨(.slice A6 (l.length + 1) cp6), rfl, ?_⟩
    have h1 := HLe.out.set HG.out HN.out 1 (.string (r2.extract size.toNat r2.size)) ⟨ctl, r2.extract size.toNat r2.size, first, left, strange, code, .frm, begun⟩ rfl
    have h2 := h1.set HG.out HN.out 2 (.bool true) ⟨ctl, r2.extract size.toNat r2.size, true, left, strange, code, .frm, begun⟩ rfl
    show Lp w0 W0 _ g gl _ _ (l ++ [⟨4, d⟩])
    first | exact h2 | exact h2.drew | exact h2.drew.drew
  · by_cases h5 : size > 4096
    · have D5 : decide (size > 4096) = true := decide_eq_true h5
      have D5b : decide (4096 < size) = true := decide_eq_true h5
      rw [if_pos h5]
      clear h5
      go_enter Tryd.func27, Tryd.ntmps27
      go_wp2_with (first | (go_at_call 18; (with_reducible refine (varint_Get.calls k1 rest 7 n 0 _ (Kd.C_below HT.out HL.out.bel) Hk1.out).mono ?_); rintro e_ w1 ⟨rfl, hd⟩; have HLw1 := Aside0.mk (HL.out.drewN hd); obtain ⟨-, x1w1, -, -, -, -, -, -, -⟩ := rb_cells HLw1.out.rb; dsimp only at x1w1; clear hd) | (go_at_call 18; (with_reducible refine (varint_Get.calls k2 (rest.extract n.toNat rest.size) size m 0 _ (Kd.C_below HT.out HLw1.out.bel) Hk2.out).mono ?_); rintro e_ w2 ⟨rfl, hd⟩; have HLw2 := Aside0.mk (HLw1.out.drewN hd); obtain ⟨-, x1w2, -, -, -, -, -, -, -⟩ := rb_cells HLw2.out.rb; dsimp only at x1w2; clear hd) | (go_at_call 34; (with_reducible refine (place_c g ⟨ctl, rest, first, left, strange, code, .frm, begun⟩ 7 _ HLw2.out.rb).mono ?_); dsimp only; rw [HPC.out]; rintro e_ w3 ⟨rfl, rfl⟩) | (go_at_call 35; (with_reducible refine (fail_c g _ 262 _ HLw2.out.rb).mono ?_); rintro e_ w5 ⟨rfl, hw⟩; have HW := Aside0.mk hw; clear hw))
      go_ret
      refine ⟨v, rfl, ?_⟩
      rw [← HW.out]
      have h1 := HLw2.out.set HG.out HN.out 5 (.int .i64 262) ⟨ctl, rest, first, left, strange, 262, .frm, begun⟩ rfl
      show Lp w0 W0 _ g gl _ v (l ++ [])
      rw [List.append_nil]
      exact h1
    have D5 : decide (size > 4096) = false := decide_eq_false h5
    have D5b : decide (4096 < size) = false := decide_eq_false h5
    rw [if_neg h5]
    by_cases h6 : (r2.size : Int) < size
    · have D6 : decide ((r2.size : Int) < size) = true := decide_eq_true h6
      rw [if_pos h6]
      clear h5 h6
      go_enter Tryd.func27, Tryd.ntmps27
      go_wp2_with (first | (go_at_call 18; (with_reducible refine (varint_Get.calls k1 rest 7 n 0 _ (Kd.C_below HT.out HL.out.bel) Hk1.out).mono ?_); rintro e_ w1 ⟨rfl, hd⟩; have HLw1 := Aside0.mk (HL.out.drewN hd); obtain ⟨-, x1w1, -, -, -, -, -, -, -⟩ := rb_cells HLw1.out.rb; dsimp only at x1w1; clear hd) | (go_at_call 18; (with_reducible refine (varint_Get.calls k2 (rest.extract n.toNat rest.size) size m 0 _ (Kd.C_below HT.out HLw1.out.bel) Hk2.out).mono ?_); rintro e_ w2 ⟨rfl, hd⟩; have HLw2 := Aside0.mk (HLw1.out.drewN hd); obtain ⟨-, x1w2, -, -, -, -, -, -, -⟩ := rb_cells HLw2.out.rb; dsimp only at x1w2; clear hd) | (go_at_call 34; (with_reducible refine (place_c g ⟨ctl, rest, first, left, strange, code, .frm, begun⟩ 7 _ HLw2.out.rb).mono ?_); dsimp only; rw [HPC.out]; rintro e_ w3 ⟨rfl, rfl⟩))
      go_ret
      refine ⟨v, rfl, ?_⟩
      show Lp w0 W0 _ g gl _ v (l ++ [])
      rw [List.append_nil]
      exact HLw2.out
    have D6 : decide ((r2.size : Int) < size) = false := decide_eq_false h6
    rw [if_neg h6]
    have q5 := eq_true HRG.out.2.1.2.2.2.1
    have q6 := eq_true (show size ≤ (r2.size : Int) by omega)
    have hdz : (r2.extract 0 size.toNat).size ≤ 140737488351232 := by rw [ByteArray.size_extract]; omega
    have HDZ := Aside0.mk hdz
    have HSZ := Aside0.mk (And.intro h5 h6)
    clear h5 h6 hdz
    obtain ⟨d, hd⟩ : ∃ x, r2.extract 0 size.toNat = x := ⟨_, rfl⟩
    rw [hd]
    rw [hd] at HDZ
    obtain ⟨cc, hcc⟩ : ∃ x, cont 7 d = x := ⟨_, rfl⟩
    rw [hcc]
    have HCC := Aside0.mk hcc
    clear hcc
    by_cases h7 : cc = 0
    rotate_left
    · have D7 : (cc != 0) = true := bne_iff_ne.mpr h7
      have D7b : (cc == 0) = false := beq_eq_false_iff_ne.mpr h7
      rw [if_pos h7]
      clear h7
      go_enter Tryd.func27, Tryd.ntmps27
      go_wp2_with (first | (go_at_call 18; (with_reducible refine (varint_Get.calls k1 rest 7 n 0 _ (Kd.C_below HT.out HL.out.bel) Hk1.out).mono ?_); rintro e_ w1 ⟨rfl, hd⟩; have HLw1 := Aside0.mk (HL.out.drewN hd); obtain ⟨-, x1w1, -, -, -, -, -, -, -⟩ := rb_cells HLw1.out.rb; dsimp only at x1w1; clear hd) | (go_at_call 18; (with_reducible refine (varint_Get.calls k2 (rest.extract n.toNat rest.size) size m 0 _ (Kd.C_below HT.out HLw1.out.bel) Hk2.out).mono ?_); rintro e_ w2 ⟨rfl, hd⟩; have HLw2 := Aside0.mk (HLw1.out.drewN hd); obtain ⟨-, x1w2, -, -, -, -, -, -, -⟩ := rb_cells HLw2.out.rb; dsimp only at x1w2; clear hd) | (go_at_call 34; (with_reducible refine (place_c g ⟨ctl, rest, first, left, strange, code, .frm, begun⟩ 7 _ HLw2.out.rb).mono ?_); dsimp only; rw [HPC.out]; rintro e_ w3 ⟨rfl, rfl⟩) | (go_at_call 37; (with_reducible refine (content_c 7 d w0 _ (HLw2.out.below (below_alloc (Below.refl w2.heap.size w2) (.cells #[.int .i64 7, .string d] 39))).bel HT.out HDZ.out).mono ?_); rw [HCC.out]; rintro e_ w4 ⟨rfl, hb4⟩; have HL4 := Aside0.mk ((HLw2.out.below (below_alloc (Below.refl w2.heap.size w2) (.cells #[.int .i64 7, .string d] 39))).below hb4); have BX := Aside0.mk (blk_below (blk_new w2 (.cells #[.int .i64 7, .string d] 39)) hb4); clear hb4) | (go_at_call 35; (with_reducible refine (fail_c g _ cc _ HL4.out.rb).mono ?_); rintro e_ w5 ⟨rfl, hw⟩; have HW := Aside0.mk hw; clear hw))
      go_ret
      refine ⟨v, rfl, ?_⟩
      rw [← HW.out]
      have h1 := HL4.out.set HG.out HN.out 5 (.int .i64 cc) ⟨ctl, rest, first, left, strange, cc, .frm, begun⟩ rfl
      show Lp w0 W0 _ g gl _ v (l ++ [])
      rw [List.append_nil]
      exact h1
    subst h7
    rw [if_neg (by simp)]
    go_enter Tryd.func27, Tryd.ntmps27
    go_wp2_with (first | (go_at_call 18; (with_reducible refine (varint_Get.calls k1 rest 7 n 0 _ (Kd.C_below HT.out HL.out.bel) Hk1.out).mono ?_); rintro e_ w1 ⟨rfl, hd⟩; have HLw1 := Aside0.mk (HL.out.drewN hd); obtain ⟨-, x1w1, -, -, -, -, -, -, -⟩ := rb_cells HLw1.out.rb; dsimp only at x1w1; clear hd) | (go_at_call 18; (with_reducible refine (varint_Get.calls k2 (rest.extract n.toNat rest.size) size m 0 _ (Kd.C_below HT.out HLw1.out.bel) Hk2.out).mono ?_); rintro e_ w2 ⟨rfl, hd⟩; have HLw2 := Aside0.mk (HLw1.out.drewN hd); obtain ⟨-, x1w2, -, -, -, -, -, -, -⟩ := rb_cells HLw2.out.rb; dsimp only at x1w2; clear hd) | (go_at_call 34; (with_reducible refine (place_c g ⟨ctl, rest, first, left, strange, code, .frm, begun⟩ 7 _ HLw2.out.rb).mono ?_); dsimp only; rw [HPC.out]; rintro e_ w3 ⟨rfl, rfl⟩) | (go_at_call 37; (with_reducible refine (content_c 7 d w0 _ (HLw2.out.below (below_alloc (Below.refl w2.heap.size w2) (.cells #[.int .i64 7, .string d] 39))).bel HT.out HDZ.out).mono ?_); rw [HCC.out]; rintro e_ w4 ⟨rfl, hb4⟩; have HL4 := Aside0.mk ((HLw2.out.below (below_alloc (Below.refl w2.heap.size w2) (.cells #[.int .i64 7, .string d] 39))).below hb4); have BX := Aside0.mk (blk_below (blk_new w2 (.cells #[.int .i64 7, .string d] 39)) hb4); clear hb4))
    have HLd := Aside0.mk HL4.out.drew
    obtain ⟨A, c, rfl⟩ := Kd.R_slice HLd.out.rr
    refine Calm.wp_region_calmC [(3, fun w_ => w_.cell? ⟨gl, 0, none⟩ = some (.slice A l.length c)), (4, fun w_ => w_.cell? ⟨w2.heap.size, 0, none⟩ = some (.int .i64 7)), (4, fun w_ => w_.cell? ⟨w2.heap.size, 1, none⟩ = some (.string d))] [0, 1, 2, 3, 4] [5, 6, 7, 8] (by kernel_rfl) (by kernel_rfl) (Calm.allC_cons ((blk_cell HLd.out.lb 0).trans rfl) (Calm.allC_cons ((blk_cell BX.out 0).trans rfl) (Calm.allC_cons ((blk_cell BX.out 1).trans rfl) Calm.allC_nil))) ?_
    repeat (first
      | (refine Calm.g_value (v := ?_) (a' := ?_) rfl rfl (by rfl) ?_ ?_ ?_; rotate_left; (· rintro w' hS'; (try simp only [Calm.SC_cons, Calm.SC_nil, Nat.reduceEqDiff, forall_const, false_implies, and_true, true_and] at hS'); (try obtain ⟨hS1, hS2⟩ := hS'); go_simp; with_reducible rfl); rotate_left; (· simp only [Act.put, List.setIfInBounds_toArray, List.set_cons_zero, List.set_cons_succ, i64_w, i32_w]; rfl)))
    refine Calm.g_nil ?_
    refine Calm.c_value (v := ?_) (w1 := ?_) (a' := ?_) rfl rfl (by rfl) ?_ ?_ ?_ ?_
    rotate_left
    rotate_left
    · go_simp; first | (refine And.intro ?_ ?_ <;> rfl) | rfl
    · repeat (first | exact Calm.okC_nil | (refine Calm.okC_cons (Or.inl (by decide +kernel)) ?_) | (refine Calm.okC_cons (Or.inr (by (first | exact (blk_cell (blk_alloc HLd.out.lb _) 0).trans rfl | assumption | (go_simp; done)))) ?_))
    rotate_left
    · simp only [Act.put, List.setIfInBounds_toArray, List.set_cons_zero, List.set_cons_succ, i64_w, i32_w]; rfl
    refine Calm.c_law rfl ?_
    refine Kd.R_append_step k39 (w0 := w0) w0.heap.size (by rfl) (.tmp 107) (.tmp 109) 33 39 (.agg #[.int .i64 0, .string (⟨#[]⟩ : ByteArray)]) 24 rfl Tryd.underlying33 info39_ rfl (by decide) (by omega) (.slice A l.length c) l ⟨7, d⟩ [.int .i64 7, .string d] (fun k => k ≠ g ∧ k ≠ gl ∧ W0.heap.size ≤ k) (fun _ => False) rfl rfl ?aP (fun _ hk => hk.elim) ?aF HLd.out.rr HLd.out.bel ?aS ?aL ?_
    case aP => exact k39_mkM _ _ _ _
    case aF => exact fun k hk => ⟨by have := blk_lt HLd.out.rb; omega, by have := blk_lt HLd.out.lb; omega, Nat.le_trans HLd.out.keep.1 hk⟩
    case aS => exact HLd.out.bel.size
    case aL => have := HRG.out.2.2; omega
    intro v6 w6 hR6 hB6 hg6 hat
    have hcl := HLd.out.cellsl hg6
    obtain ⟨cl6, fl6⟩ := hcl
    obtain ⟨A6, cp6, rfl⟩ := Kd.R_slice hR6
    refine And.intro ?_ ?_
    · repeat (first | exact Calm.okC_nil | (refine Calm.okC_cons (Or.inl (by decide +kernel)) ?_) | (refine Calm.okC_cons (Or.inr (by (first | assumption | (go_simp; done)))) ?_))
    refine Calm.put_dst (a' := ?_) rfl ?_ ?_
    rotate_left
    · simp only [Act.put, List.setIfInBounds_toArray, List.set_cons_zero, List.set_cons_succ, i64_w, i32_w]; rfl
    refine Calm.c_value (v := ?_) (w1 := ?_) (a' := ?_) rfl rfl (by rfl) ?_ ?_ ?_ ?_
    rotate_left
    rotate_left
    · go_simp; first | (refine And.intro ?_ ?_ <;> rfl) | rfl
    · repeat (first | exact Calm.okC_nil | (refine Calm.okC_cons (Or.inl (by decide +kernel)) ?_) | (refine Calm.okC_cons (Or.inr (by (first | assumption | (go_simp; done)))) ?_))
    rotate_left
    · simp only [Act.put, List.setIfInBounds_toArray, List.set_cons_zero, List.set_cons_succ, i64_w, i32_w]; rfl
    refine Calm.c_store (w1 := ?_) rfl (by rfl) rfl ?_ ?_ ?_
    rotate_left
    · go_simp; rfl
    · repeat (first | exact Calm.okC_nil | (refine Calm.okC_cons (Or.inl (by decide +kernel)) ?_) | (refine Calm.okC_cons (Or.inr (by (first | assumption | (go_simp; done)))) ?_))
    refine Calm.h_nil ?_
    simp only [Exit.inBlock, Exit.then]
    have hle := HLd.out.appset HGL.out (Nat.le_trans HW0.out HGL.out) HN.out hR6 hB6 hg6
    rw [show (l ++ [(⟨7, d⟩ : S39)]).length = l.length + 1 by simp] at hle
    have HLe := Aside0.mk hle
    clear hle
    clear hR6 hB6 hg6 hat cl6 fl6 HLd
    generalize w6.setCell ⟨gl, 0, none⟩ _ = w7 at HLe ⊢
    obtain ⟨e0, e1, e2, e3, e4, e5, e6, e7, er⟩ := rb_cells HLe.out.rb
    dsimp only at e0 e1 e2 e3 e4 e5 e6 e7
    have er1 := er 1
    have er2 := er 2
    clear er e0 e3 e4 e5 e6 e7
    go_wp2_with (fail)
    go_ret
    refine ⟨(.slice A6 (l.length + 1) cp6), rfl, ?_⟩
    have h1 := HLe.out.set HG.out HN.out 1 (.string (r2.extract size.toNat r2.size)) ⟨ctl, r2.extract size.toNat r2.size, first, left, strange, code, .frm, begun⟩ rfl
    have h2 := h1.set HG.out HN.out 2 (.bool true) ⟨ctl, r2.extract size.toNat r2.size, true, left, strange, code, .frm, begun⟩ rfl
    show Lp w0 W0 _ g gl _ _ (l ++ [⟨7, d⟩])
    first | exact h2 | exact h2.drew | exact h2.drew.drew
end Go.Proofs.YtnnmdocdiedgiaaDoor.Reader
