/- h3.Reader: its steps. -/
import Derived.Test.YtnnmdocdiedgiaaDoorReader
namespace Go.Proofs.YtnnmdocdiedgiaaDoor.Reader
open Go.RowKit Go.Proofs.YtnnmdocdiedgiaaDoorW.PrintWords Go.Proofs.YtnnmdocdiedgiaaDoorW.PrintLast Go.Proofs.YtnnmdocdiedgiaaDoorW.PrintMore Go.Proofs.YtnnmdocdiedgiaaDoor.PH3Writes Go.Proofs.YtnnmdocdiedgiaaDoor Go.Proofs.YtnnmdocdiedgiaaDoor.Pure Go.Proofs.YtnnmdocdiedgiaaDoor.Pairs
set_option linter.unusedVariables false
set_option linter.unusedSimpArgs false
attribute [local go_sem] max2_int min2_int max_two min_two
noncomputable def prL (d : ByteArray) : List S53 := Classical.choose (pr_all d.size [] d (Nat.le_refl _))
theorem prL_ex (d : ByteArray) : ∃ e, PR [] d (prL d) e := Classical.choose_spec (pr_all d.size [] d (Nat.le_refl _))
noncomputable def prE (d : ByteArray) : Int := Classical.choose (prL_ex d)
theorem prE_ok (d : ByteArray) : PR [] d (prL d) (prE d) := Classical.choose_spec (prL_ex d)
/-- The code of data that is wrong. -/
noncomputable def cont (kind : Int) (d : ByteArray) : Int := if kind = 7 then (if (vget d).2.2 ≠ 0 then 262 else if (vget d).2.1 ≠ d.size then 262 else 0) else if kind = 4 then (if prE d ≠ 0 then 265 else 0) else 0
set_option maxHeartbeats 8000000 in
set_option maxRecDepth 100000 in
theorem content_c (kind : Int) (d : ByteArray) (w0 W : World) (hB : Below w0.heap.size w0 W) (hT : Kd.C (Kd.int .i64) w0 (some ⟨0, 0, none⟩) 4 ([1, 2, 4, 8] : List Int)) (hd : d.size ≤ 140737488351232) :
    Calls Tryd.prog 37 #[.agg #[.int .i64 kind, .string d]] W fun e w' => e = .returned (.int .i64 (cont kind d)) ∧ Below W.heap.size W w' := by
  have HB := Aside0.mk hB
  have HT := Aside0.mk hT
  have HD := Aside0.mk hd
  clear hB hT hd
  unfold cont
  by_cases k7 : kind = 7
  · subst k7
    rw [if_pos rfl]
    obtain ⟨k1, hk1⟩ := (get_ev d).rounds
    obtain ⟨⟨a, n, e⟩, hp⟩ : ∃ p, vget d = p := ⟨_, rfl⟩
    rw [hp] at hk1 ⊢
    have HK := Aside0.mk hk1
    clear hk1 hp
    dsimp only
    have ways : (e ≠ 0) ∨ (e = 0 ∧ n ≠ d.size) ∨ (e = 0 ∧ n = d.size) := by
      by_cases h1 : e = 0
      · by_cases h2 : n = d.size
        · exact .inr (.inr ⟨h1, h2⟩)
        · exact .inr (.inl ⟨h1, h2⟩)
      · exact .inl h1
    have key : ∀ (P : Prop), P → P := fun _ h => h
    rcases ways with h1 | ⟨rfl, h2⟩ | ⟨rfl, rfl⟩
    · have C1 : (e != 0) = true := bne_iff_ne.mpr h1
      have C1b : (e == 0) = false := beq_eq_false_iff_ne.mpr h1
      rw [if_pos h1]
      clear h1
      go_enter Tryd.func37, Tryd.ntmps37
      go_wp2_with (first | ((with_reducible refine gate_dst (N := 1) rfl ?_); refine box_event ?hg (N := 1) ?hd (cs := #[.int .i64 7, .string d]) (t := 39) ?hr ?_; (case hd => rfl); (case hg => rfl); (case hr => first | (go_simp; done) | (go_simp; rfl)); intro gb hgb w1 hbox hb; have hc0 := (show _ = some (Value.int .i64 7) from (blk_cell hbox 0).trans rfl); have hc1 := (show _ = some (Value.string d) from (blk_cell hbox 1).trans rfl); have HB1 := Aside0.mk hb; have HBX := Aside0.mk hbox; clear hgb hbox hb) | (go_at_call 18; (with_reducible refine (varint_Get.calls k1 d a n e _ (Kd.C_below (Kd.C_below HT.out HB.out) HB1.out) HK.out).mono ?_); rintro e_ w2 ⟨rfl, hd⟩; have hc1 := (show w2.cell? ⟨gb, 1, none⟩ = some (Value.string d) from (by obtain ⟨n_, rfl⟩ := hd; exact (blk_cell HBX.out 1).trans rfl)); have HB2 := Aside0.mk (show Below W.heap.size W w2 from (by obtain ⟨n_, rfl⟩ := hd; exact pw_below_drewN HB1.out n_)); clear hd))
      go_ret
      exact ⟨rfl, HB2.out⟩
    · have C1 : decide (n = (d.size : Int)) = false := decide_eq_false h2
      have C1b : (n == (d.size : Int)) = false := beq_eq_false_iff_ne.mpr h2
      have C1c : (n != (d.size : Int)) = true := bne_iff_ne.mpr h2
      rw [if_neg (by simp), if_pos h2]
      clear h2
      go_enter Tryd.func37, Tryd.ntmps37
      go_wp2_with (first | ((with_reducible refine gate_dst (N := 1) rfl ?_); refine box_event ?hg (N := 1) ?hd (cs := #[.int .i64 7, .string d]) (t := 39) ?hr ?_; (case hd => rfl); (case hg => rfl); (case hr => first | (go_simp; done) | (go_simp; rfl)); intro gb hgb w1 hbox hb; have hc0 := (show _ = some (Value.int .i64 7) from (blk_cell hbox 0).trans rfl); have hc1 := (show _ = some (Value.string d) from (blk_cell hbox 1).trans rfl); have HB1 := Aside0.mk hb; have HBX := Aside0.mk hbox; clear hgb hbox hb) | (go_at_call 18; (with_reducible refine (varint_Get.calls k1 d a n 0 _ (Kd.C_below (Kd.C_below HT.out HB.out) HB1.out) HK.out).mono ?_); rintro e_ w2 ⟨rfl, hd⟩; have hc1 := (show w2.cell? ⟨gb, 1, none⟩ = some (Value.string d) from (by obtain ⟨n_, rfl⟩ := hd; exact (blk_cell HBX.out 1).trans rfl)); have HB2 := Aside0.mk (show Below W.heap.size W w2 from (by obtain ⟨n_, rfl⟩ := hd; exact pw_below_drewN HB1.out n_)); clear hd))
      go_ret
      exact ⟨rfl, HB2.out⟩
    · rw [if_neg (by simp), if_neg (by simp)]
      go_enter Tryd.func37, Tryd.ntmps37
      go_wp2_with (first | ((with_reducible refine gate_dst (N := 1) rfl ?_); refine box_event ?hg (N := 1) ?hd (cs := #[.int .i64 7, .string d]) (t := 39) ?hr ?_; (case hd => rfl); (case hg => rfl); (case hr => first | (go_simp; done) | (go_simp; rfl)); intro gb hgb w1 hbox hb; have hc0 := (show _ = some (Value.int .i64 7) from (blk_cell hbox 0).trans rfl); have hc1 := (show _ = some (Value.string d) from (blk_cell hbox 1).trans rfl); have HB1 := Aside0.mk hb; have HBX := Aside0.mk hbox; clear hgb hbox hb) | (go_at_call 18; (with_reducible refine (varint_Get.calls k1 d a d.size 0 _ (Kd.C_below (Kd.C_below HT.out HB.out) HB1.out) HK.out).mono ?_); rintro e_ w2 ⟨rfl, hd⟩; have hc1 := (show w2.cell? ⟨gb, 1, none⟩ = some (Value.string d) from (by obtain ⟨n_, rfl⟩ := hd; exact (blk_cell HBX.out 1).trans rfl)); have HB2 := Aside0.mk (show Below W.heap.size W w2 from (by obtain ⟨n_, rfl⟩ := hd; exact pw_below_drewN HB1.out n_)); clear hd))
      go_ret
      exact ⟨rfl, HB2.out⟩
  have K7 : (kind == 7) = false := beq_eq_false_iff_ne.mpr k7
  rw [if_neg k7]
  clear k7
  by_cases k4 : kind = 4
  · subst k4
    rw [if_pos rfl]
    have HP := Aside0.mk (prE_ok d)
    generalize prL d = pl at HP
    generalize prE d = pe at HP ⊢
    by_cases h1 : pe = 0
    · subst h1
      rw [if_neg (by simp)]
      go_enter Tryd.func37, Tryd.ntmps37
      go_wp2_with (first | ((with_reducible refine gate_dst (N := 1) rfl ?_); refine box_event ?hg (N := 1) ?hd (cs := #[.int .i64 4, .string d]) (t := 39) ?hr ?_; (case hd => rfl); (case hg => rfl); (case hr => first | (go_simp; done) | (go_simp; rfl)); intro gb hgb w1 hbox hb; have hc0 := (show _ = some (Value.int .i64 4) from (blk_cell hbox 0).trans rfl); have hc1 := (show _ = some (Value.string d) from (blk_cell hbox 1).trans rfl); have HB1 := Aside0.mk hb; clear hgb hbox hb) | (go_at_call 8; (with_reducible refine (pairs_c d pl 0 w0 _ (below_step HB.out HB1.out) HT.out HP.out HD.out).mono ?_); rintro e_ w2 ⟨v2, rfl, -, hb⟩; have HB2 := Aside0.mk (below_step HB1.out hb); clear hb))
      go_ret
      exact ⟨rfl, HB2.out⟩
    · have C1 : (pe != 0) = true := bne_iff_ne.mpr h1
      have C1b : (pe == 0) = false := beq_eq_false_iff_ne.mpr h1
      rw [if_pos h1]
      clear h1
      go_enter Tryd.func37, Tryd.ntmps37
      go_wp2_with (first | ((with_reducible refine gate_dst (N := 1) rfl ?_); refine box_event ?hg (N := 1) ?hd (cs := #[.int .i64 4, .string d]) (t := 39) ?hr ?_; (case hd => rfl); (case hg => rfl); (case hr => first | (go_simp; done) | (go_simp; rfl)); intro gb hgb w1 hbox hb; have hc0 := (show _ = some (Value.int .i64 4) from (blk_cell hbox 0).trans rfl); have hc1 := (show _ = some (Value.string d) from (blk_cell hbox 1).trans rfl); have HB1 := Aside0.mk hb; clear hgb hbox hb) | (go_at_call 8; (with_reducible refine (pairs_c d pl pe w0 _ (below_step HB.out HB1.out) HT.out HP.out HD.out).mono ?_); rintro e_ w2 ⟨v2, rfl, -, hb⟩; have HB2 := Aside0.mk (below_step HB1.out hb); clear hb))
      go_ret
      exact ⟨rfl, HB2.out⟩
  have K4 : (kind == 4) = false := beq_eq_false_iff_ne.mpr k4
  rw [if_neg k4]
  clear k4
  go_enter Tryd.func37, Tryd.ntmps37
  go_wp2_with ((with_reducible refine gate_dst (N := 1) rfl ?_); refine box_event ?hg (N := 1) ?hd (cs := #[.int .i64 kind, .string d]) (t := 39) ?hr ?_; (case hd => rfl); (case hg => rfl); (case hr => first | (go_simp; done) | (go_simp; rfl)); intro gb hgb w1 hbox hb; have hc0 := (show _ = some (Value.int .i64 kind) from (blk_cell hbox 0).trans rfl); have hc1 := (show _ = some (Value.string d) from (blk_cell hbox 1).trans rfl); have HB1 := Aside0.mk hb; clear hgb hbox hb)
  go_ret
  exact ⟨rfl, HB1.out⟩
/-- The reader's cells. -/
theorem rb_cells {W : World} {g : Nat} {r : RS} (hb : W.heap[g]? = some (.cells (rcells g r) 60 (0, 0))) : W.cell? ⟨g, 0, none⟩ = some (.bool r.ctl) ∧ W.cell? ⟨g, 1, none⟩ = some (.string r.rest) ∧ W.cell? ⟨g, 2, none⟩ = some (.bool r.first) ∧ W.cell? ⟨g, 3, none⟩ = some (.int .i64 r.left) ∧ W.cell? ⟨g, 4, none⟩ = some (.bool r.strange) ∧ W.cell? ⟨g, 5, none⟩ = some (.int .i64 r.code) ∧ W.cell? ⟨g, 6, none⟩ = some (nextV g r.md) ∧ W.cell? ⟨g, 7, none⟩ = some (.bool r.begun) ∧ ∀ i, W.frozen? ⟨g, i, none⟩ = false :=
  ⟨(blk_cell hb 0).trans rfl, (blk_cell hb 1).trans rfl, (blk_cell hb 2).trans rfl, (blk_cell hb 3).trans rfl, (blk_cell hb 4).trans rfl, (blk_cell hb 5).trans rfl, (blk_cell hb 6).trans rfl, (blk_cell hb 7).trans rfl, fun i => blk_frozen hb i⟩
def begS (r : RS) : RS × List S39 × Bool := if r.rest.size = 0 then (r, [], false) else if bt r.rest 0 ≠ 0 then ({ r with code := 261 }, [], false) else ({ r with rest := r.rest.extract 1 r.rest.size, md := .frm, begun := true }, [], true)
set_option maxHeartbeats 8000000 in
set_option maxRecDepth 100000 in
theorem begin_c (g gl : Nat) (r : RS) (v : Value) (l : List S39) (w0 W0 W : World) (h : Lp w0 W0 W g gl r v l) (hg : w0.heap.size ≤ g) (hne : g ≠ gl) :
    Calls Tryd.prog 28 #[.pointer (some ⟨g, 0, none⟩), .pointer (some ⟨gl, 0, none⟩)] W fun e w' => ∃ v', e = .returned (.bool (begS r).2.2) ∧ Lp w0 W0 w' g gl (begS r).1 v' (l ++ (begS r).2.1) := by
  have HL := Aside0.mk h
  have HG := Aside0.mk hg
  have HN := Aside0.mk hne
  obtain ⟨c0, c1, c2, c3, c4, c5, c6, c7, fr⟩ := rb_cells h.rb
  obtain ⟨ctl, rest, first, left, strange, code, md, begun⟩ := r
  dsimp only at c0 c1 c2 c3 c4 c5 c6 c7
  have f1 := fr 1
  have f6 := fr 6
  have f7 := fr 7
  clear h hg hne fr c0 c2 c3 c4
  unfold begS
  dsimp only
  by_cases h1 : rest.size = 0
  · have C1 : rest.toList.isEmpty = true := empty_ h1
    have C1b : (!rest.toList.isEmpty) = false := by rw [C1]; rfl
    rw [if_pos h1]
    clear h1
    go_enter Tryd.func28, Tryd.ntmps28
    go_wp2_with (fail)
    go_ret
    exact ⟨v, rfl, by simpa using HL.out⟩
  have C1 : rest.toList.isEmpty = false := nonempty_ h1
  have C1b : (!rest.toList.isEmpty) = true := by rw [C1]; rfl
  rw [if_neg h1]
  have q4 := eq_true (show 0 < rest.size by omega)
  have qi4 := eq_true (show (0 : Int) < (rest.size : Int) by omega)
  have hx4 : ∀ h : 0 < rest.size, ((rest[0]'h).toNat : Int) = bt rest 0 := bt_at rest 0
  have p1 := eq_true (show (1 : Int) ≤ (rest.size : Int) by omega)
  have p2 := eq_true (show 1 ≤ rest.size by omega)
  clear h1
  by_cases h2 : bt rest 0 = 0
  · have C2 : (bt rest 0 != 0) = false := bne_eq_false_iff_eq.mpr h2
    have C2b : (bt rest 0 == 0) = true := beq_iff_eq.mpr h2
    rw [if_neg (by simp [h2])]
    clear h2
    go_enter Tryd.func28, Tryd.ntmps28
    go_wp2_with (fail)
    go_ret
    refine ⟨v, rfl, ?_⟩
    have h1 := HL.out.set HG.out HN.out 1 (.string (rest.extract 1 rest.size)) ⟨ctl, rest.extract 1 rest.size, first, left, strange, code, md, begun⟩ rfl
    have h2 := h1.set HG.out HN.out 6 (nextV g .frm) ⟨ctl, rest.extract 1 rest.size, first, left, strange, code, .frm, begun⟩ rfl
    have h3 := h2.set HG.out HN.out 7 (.bool true) ⟨ctl, rest.extract 1 rest.size, first, left, strange, code, .frm, true⟩ rfl
    show Lp w0 W0 _ g gl _ v (l ++ [])
    rw [List.append_nil]
    exact h3
  · have C2 : (bt rest 0 != 0) = true := bne_iff_ne.mpr h2
    have C2b : (bt rest 0 == 0) = false := beq_eq_false_iff_ne.mpr h2
    rw [if_pos h2]
    clear h2
    go_enter Tryd.func28, Tryd.ntmps28
    go_wp2_with (go_at_call 35; (with_reducible refine (fail_c g _ 261 _ HL.out.rb).mono ?_); rintro e_ w2 ⟨rfl, hw⟩; have HW := Aside0.mk hw; clear hw)
    go_ret
    refine ⟨v, rfl, ?_⟩
    rw [← HW.out]
    have h1 := HL.out.set HG.out HN.out 5 (.int .i64 261) ⟨ctl, rest, first, left, strange, 261, md, begun⟩ rfl
    show Lp w0 W0 _ g gl _ v (l ++ [])
    rw [List.append_nil]
    exact h1
end Go.Proofs.YtnnmdocdiedgiaaDoor.Reader
