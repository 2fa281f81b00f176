/- h3.Pairs: its contract. -/
import Derived.Test.YtnnmdocdiedgiaaDoorPairs
import Derived.Test.YtnnmdocdiedgiaaDoorCalm
namespace Go.Proofs.YtnnmdocdiedgiaaDoor.Pairs
open Go.RowKit Go.Proofs.YtnnmdocdiedgiaaDoorW.PrintWords Go.Proofs.YtnnmdocdiedgiaaDoorW.PrintLast Go.Proofs.YtnnmdocdiedgiaaDoorW.PrintMore Go.Proofs.YtnnmdocdiedgiaaDoor.PH3Writes Go.Proofs.YtnnmdocdiedgiaaDoor Go.Proofs.YtnnmdocdiedgiaaDoor.Pure
set_option linter.unusedVariables false
set_option linter.unusedSimpArgs false
theorem info53_ : (Tryd.prog.info? 53).map (fun i => (i.zero, i.size, i.bytes)) = some (some (.agg #[.int .i64 0, .int .i64 0]), 2, 16) := by kernel_rfl
/-- A pair, in a block of its own. -/
structure PS (wr w : World) (a b : Int) : Prop where
  bel : Below wr.heap.size wr w
  blk : w.heap[wr.heap.size]? = some (.cells #[.int .i64 a, .int .i64 b] 48 (0, 0))
theorem PS.new (wr : World) : PS wr (wr.alloc (.cells #[.int .i64 0, .int .i64 0] 48)) 0 0 := ⟨below_alloc (Below.refl _ _) _, blk_new wr _⟩
theorem PS.drawn {wr w w' : World} {a b : Int} (h : PS wr w a b) (hd : Drawn0 w w') : PS wr w' a b := by
  obtain ⟨n, rfl⟩ := hd
  exact ⟨pw_below_drewN h.bel n, blk_drewN h.blk n⟩
theorem PS.drew {wr w : World} {a b : Int} (h : PS wr w a b) : PS wr w.drew a b := ⟨below_drew1 h.bel, h.blk⟩
theorem PS.below {wr w w' : World} {a b : Int} (h : PS wr w a b) (hb : Below w.heap.size w w') : PS wr w' a b := ⟨below_step h.bel hb, blk_below h.blk hb⟩
theorem PS.set0 {wr w : World} {a b : Int} (h : PS wr w a b) (a2 : Int) : PS wr (w.setCell ⟨wr.heap.size, 0, none⟩ (.int .i64 a2)) a2 b := ⟨below_set h.bel (Nat.le_refl _), by simpa using blk_set h.blk 0 (.int .i64 a2)⟩
theorem PS.set1 {wr w : World} {a b : Int} (h : PS wr w a b) (b2 : Int) : PS wr (w.setCell ⟨wr.heap.size, 1, none⟩ (.int .i64 b2)) a b2 := ⟨below_set h.bel (Nat.le_refl _), by simpa using blk_set h.blk 1 (.int .i64 b2)⟩
theorem PS.cells {wr w : World} {a b : Int} (h : PS wr w a b) : w.cell? ⟨wr.heap.size, 0, none⟩ = some (.int .i64 a) ∧ w.cell? ⟨wr.heap.size, 1, none⟩ = some (.int .i64 b) ∧ w.frozen? ⟨wr.heap.size, 0, none⟩ = false ∧ w.frozen? ⟨wr.heap.size, 1, none⟩ = false := ⟨(blk_cell h.blk 0).trans rfl, (blk_cell h.blk 1).trans rfl, blk_frozen h.blk 0, blk_frozen h.blk 1⟩
theorem nonempty_ {s : ByteArray} (h : s.size ≠ 0) : s.toList.isEmpty = false := by
  cases e : s.toList with
  | nil => exact absurd ((nil_tl s).1 e) h
  | cons a l => rfl
theorem empty_ {s : ByteArray} (h : s.size = 0) : s.toList.isEmpty = true := by
  rw [(nil_tl s).2 h]; rfl
theorem pr_inv {l l' : List S53} {s : ByteArray} {e : Int} (h : PR l s l' e) : (s.size = 0 ∧ l' = l ∧ e = 0) ∨ (s.size ≠ 0 ∧ (((vget s).2.2 ≠ 0 ∧ l' = [] ∧ e = (vget s).2.2) ∨ ((vget s).2.2 = 0 ∧ (((vget (rest s)).2.2 ≠ 0 ∧ l' = [] ∧ e = (vget (rest s)).2.2) ∨ ((vget (rest s)).2.2 = 0 ∧
    ((2 ≤ (vget s).1 ∧ (vget s).1 ≤ 5 ∧ l' = [] ∧ e = 5) ∨ (¬ (2 ≤ (vget s).1 ∧ (vget s).1 ≤ 5) ∧ ((lows l (vget s).1 l.length = true ∧ l' = [] ∧ e = 3) ∨ (lows l (vget s).1 l.length = false ∧ ((l.length = 16 ∧ l' = [] ∧ e = 8) ∨ (l.length ≠ 16 ∧ PR (l ++ [⟨(vget s).1, (vget (rest s)).1⟩]) (rest (rest s)) l' e))))))))))) := by
  cases h with
  | done h => exact .inl ⟨h, rfl, rfl⟩
  | bad1 h h1 => exact .inr ⟨h, .inl ⟨h1, rfl, rfl⟩⟩
  | bad2 h h1 h2 => exact .inr ⟨h, .inr ⟨h1, .inl ⟨h2, rfl, rfl⟩⟩⟩
  | kind h h1 h2 h3 => exact .inr ⟨h, .inr ⟨h1, .inr ⟨h2, .inl ⟨h3.1, h3.2, rfl, rfl⟩⟩⟩⟩
  | field h h1 h2 h3 h4 => exact .inr ⟨h, .inr ⟨h1, .inr ⟨h2, .inr ⟨h3, .inl ⟨h4, rfl, rfl⟩⟩⟩⟩⟩
  | long h h1 h2 h3 h4 h5 => exact .inr ⟨h, .inr ⟨h1, .inr ⟨h2, .inr ⟨h3, .inr ⟨h4, .inl ⟨h5, rfl, rfl⟩⟩⟩⟩⟩⟩
  | next h h1 h2 h3 h4 h5 hn => exact .inr ⟨h, .inr ⟨h1, .inr ⟨h2, .inr ⟨h3, .inr ⟨h4, .inr ⟨h5, hn⟩⟩⟩⟩⟩⟩
set_option maxHeartbeats 16000000 in
set_option maxRecDepth 100000 in
theorem pairs_c (s : ByteArray) (l : List S53) (x : Int) (w0 W : World) (hB : Below w0.heap.size w0 W)
    (hT : Kd.C (Kd.int .i64) w0 (some ⟨0, 0, none⟩) 4 ([1, 2, 4, 8] : List Int)) (h : PR [] s l x) (hs : s.size ≤ 140737488351232) :
    Calls Tryd.prog 8 #[.string s] W fun e w' => ∃ v, e = .returned (.tuple #[v, .int .i64 x]) ∧ Kd.R k53 53 w' W.heap.size (fun k => W.heap.size ≤ k) v l ∧ Below W.heap.size W w' := by
  have HB := Aside0.mk hB
  have HT := Aside0.mk hT
  have HP := Aside0.mk h
  have HS := Aside0.mk hs
  clear hB hT h hs
  go_enter Tryd.func8, Tryd.ntmps8
  go_wp2_with (fail)
  go_loopw [0, 4] (fun v0 v4 wr => ∃ (cur : ByteArray) (A : Option Addr) (c : Nat) (pre : List S53), v0 = .string cur ∧ v4 = .slice A pre.length c ∧ Aside0 (Kd.R k53 53 wr W.heap.size (fun k => W.heap.size ≤ k) v4 pre) ∧ Aside0 (Below W.heap.size W wr) ∧ Aside0 (PR pre cur l x ∧ pre.length ≤ 16 ∧ cur.size ≤ 140737488351232)) (fun v0 _ _ => match v0 with | .string c => c.size | _ => 0)
  case atStart => exact ⟨s, none, 0, [], rfl, rfl, ⟨Kd.R_nil _ _ _ _ _⟩, ⟨Below.refl _ _⟩, ⟨HP.out, by simp, HS.out⟩⟩
  case round =>
    obtain ⟨cur, A, c, pre, rfl, rfl, HR, HW, HX⟩ := hrel
    obtain ⟨hpr, hpl, hcs⟩ := HX.out
    have hg1 := vget_range cur
    have hg2 := vget_range (rest cur)
    have hrs := rest_less cur
    have hrs2 := rest_less (rest cur)
    have hrs3 := rest_size (rest cur)
    have hrs4 := rest_size cur
    have hinv := pr_inv hpr
    obtain ⟨k1, hk1⟩ := (get_ev cur).rounds
    obtain ⟨k2, hk2⟩ := (get_ev (rest cur)).rounds
    have hre : rest cur = cur.extract (vget cur).2.1.toNat cur.size := rfl
    have hre2 : rest (rest cur) = (rest cur).extract (vget (rest cur)).2.1.toNat (rest cur).size := rfl
    generalize rest (rest cur) = r2 at *
    generalize rest cur = r1 at *
    obtain ⟨⟨a, n, e⟩, hp⟩ : ∃ p, vget cur = p := ⟨_, rfl⟩
    obtain ⟨⟨b, m, f⟩, hq⟩ : ∃ p, vget r1 = p := ⟨_, rfl⟩
    rw [hp] at hk1 hinv hg1 hre hrs
    rw [hq] at hk2 hinv hg2 hre2 hrs2
    dsimp only at hinv hg1 hg2 hre hre2 hrs hrs2
    have Hk1 := Aside0.mk hk1
    have Hk2 := Aside0.mk hk2
    have HG1 := Aside0.mk hg1
    have HG2 := Aside0.mk hg2
    have HRS := Aside0.mk (And.intro hrs (And.intro hrs2 (And.intro hrs3 (And.intro hrs4 (And.intro hpl hcs)))))
    clear hk1 hk2 hpr hp hq hg1 hg2 hrs hrs2 hrs3 hrs4 hpl hcs
    rcases hinv with ⟨h0, rfl, rfl⟩ | ⟨h0, hinv⟩
    · have C0 : cur.toList.isEmpty = true := empty_ h0
      have C0b : (!cur.toList.isEmpty) = false := by rw [C0]; rfl
      clear hre hre2 h0
      go_wp2_with (fail)
      go_ret2
      exact ⟨_, rfl, HR.out, HW.out⟩
    have C0 : cur.toList.isEmpty = false := nonempty_ h0
    have C0b : (!cur.toList.isEmpty) = true := by rw [C0]; rfl
    clear h0
    have PSn := Aside0.mk (PS.new wr)
    rcases hinv with ⟨h1, rfl, rfl⟩ | ⟨rfl, hinv⟩
    · have D1 : (x != 0) = true := bne_iff_ne.mpr h1
      have D1b : (x == 0) = false := beq_eq_false_iff_ne.mpr h1
      clear hre hre2 h1
      go_wp2_with (fail)
      refine wp_loop_rounds 3 ?_
      rw [rounds_succ]
      go_wp2_with (first | (go_at_call 18; (with_reducible refine (varint_Get.calls k1 cur a n x _ (Kd.C_below (Kd.C_below (Kd.C_below HT.out HB.out) HW.out) PSn.out.bel) Hk1.out).mono ?_); rintro e_ w1 ⟨rfl, hd⟩; have PSw1 := Aside0.mk (PSn.out.drawn hd); clear hd))
      go_ret2
      exact ⟨_, rfl, Kd.R_nil _ _ _ _ _, below_step HW.out PSw1.out.bel⟩
    have q1 := eq_true HG1.out.1
    have q2 := eq_true HG1.out.2.2.1
    rcases hinv with ⟨h2, rfl, rfl⟩ | ⟨rfl, hinv⟩
    · have D1 : (x != 0) = true := bne_iff_ne.mpr h2
      have D1b : (x == 0) = false := beq_eq_false_iff_ne.mpr h2
      clear hre2 h2
      go_wp2_with (fail)
      refine wp_loop_rounds 3 ?_
      rw [rounds_succ]
      go_wp2_with (first | (go_at_call 18; (with_reducible refine (varint_Get.calls k1 cur a n 0 _ (Kd.C_below (Kd.C_below (Kd.C_below HT.out HB.out) HW.out) PSn.out.bel) Hk1.out).mono ?_); rintro e_ w1 ⟨rfl, hd⟩; have PSw1 := Aside0.mk (PSn.out.drawn hd); clear hd))
      have hc_ := PSw1.out.drew.cells
      obtain ⟨cl0, cl1, fr0, fr1⟩ := hc_
      refine Calm.wp_region_calm (fun _ => True) [0, 1, 2, 3, 4, 5] [6, 7] (by kernel_rfl) (by kernel_rfl) trivial ?_
      repeat (first
        | (refine Calm.value_ (v := ?_) (a' := ?_) rfl rfl (by rfl) ?_ ?_ ?_; rotate_left; (· rintro w' _; go_simp; with_reducible rfl); rotate_left; (· simp only [Act.put, List.setIfInBounds_toArray, List.set_cons_zero, List.set_cons_succ, i64_w, i32_w]; rfl)))
      refine Calm.nil_ ?_
      refine Calm.t_store (w1 := ?_) rfl (by rfl) rfl ?_ ?_ ?_
      rotate_left
      · go_simp; rfl
      · trivial
      refine Calm.t_value (v := ?_) (w1 := ?_) (a' := ?_) rfl rfl (by rfl) ?_ ?_ ?_ ?_
      rotate_left
      rotate_left
      · go_simp; first | (refine And.intro ?_ ?_ <;> rfl) | rfl
      · trivial
      rotate_left
      · simp only [Act.put, List.setIfInBounds_toArray, List.set_cons_zero, List.set_cons_succ, i64_w, i32_w]; rfl
      refine Calm.t_nil ?_
      have PSa := Aside0.mk (PSw1.out.set0 a).drew
      clear cl0 cl1 fr0 fr1
      simp only [Exit.inBlock, Exit.then]
      rw [← hre]
      clear hre q1 q2 C0 C0b PSn PSw1
      go_wp2_with (fail)
      rw [rounds_succ]
      go_wp2_with (first | (go_at_call 18; (with_reducible refine (varint_Get.calls k2 r1 b m x _ (Kd.C_below (Kd.C_below (Kd.C_below HT.out HB.out) HW.out) PSa.out.bel) Hk2.out).mono ?_); rintro e_ w2 ⟨rfl, hd⟩; have PSw2 := Aside0.mk (PSa.out.drawn hd); clear hd))
      go_ret2
      exact ⟨_, rfl, Kd.R_nil _ _ _ _ _, below_step HW.out PSw2.out.bel⟩
    have q3 := eq_true HG2.out.1
    have q4 := eq_true HG2.out.2.2.1
    rcases hinv with ⟨h3, h4, rfl, rfl⟩ | ⟨h3, hinv⟩
    · have D1 : decide (2 ≤ a) = true := decide_eq_true h3
      have D1b : decide (a ≥ 2) = true := decide_eq_true h3
      have D2 : decide (a ≤ 5) = true := decide_eq_true h4
      clear h3 h4
      go_wp2_with (fail)
      refine wp_loop_rounds 3 ?_
      rw [rounds_succ]
      go_wp2_with (first | (go_at_call 18; (with_reducible refine (varint_Get.calls k1 cur a n 0 _ (Kd.C_below (Kd.C_below (Kd.C_below HT.out HB.out) HW.out) PSn.out.bel) Hk1.out).mono ?_); rintro e_ w1 ⟨rfl, hd⟩; have PSw1 := Aside0.mk (PSn.out.drawn hd); clear hd))
      have hc_ := PSw1.out.drew.cells
      obtain ⟨cl0, cl1, fr0, fr1⟩ := hc_
      refine Calm.wp_region_calm (fun _ => True) [0, 1, 2, 3, 4, 5] [6, 7] (by kernel_rfl) (by kernel_rfl) trivial ?_
      repeat (first
        | (refine Calm.value_ (v := ?_) (a' := ?_) rfl rfl (by rfl) ?_ ?_ ?_; rotate_left; (· rintro w' _; go_simp; with_reducible rfl); rotate_left; (· simp only [Act.put, List.setIfInBounds_toArray, List.set_cons_zero, List.set_cons_succ, i64_w, i32_w]; rfl)))
      refine Calm.nil_ ?_
      refine Calm.t_store (w1 := ?_) rfl (by rfl) rfl ?_ ?_ ?_
      rotate_left
      · go_simp; rfl
      · trivial
      refine Calm.t_value (v := ?_) (w1 := ?_) (a' := ?_) rfl rfl (by rfl) ?_ ?_ ?_ ?_
      rotate_left
      rotate_left
      · go_simp; first | (refine And.intro ?_ ?_ <;> rfl) | rfl
      · trivial
      rotate_left
      · simp only [Act.put, List.setIfInBounds_toArray, List.set_cons_zero, List.set_cons_succ, i64_w, i32_w]; rfl
      refine Calm.t_nil ?_
      have PSa := Aside0.mk (PSw1.out.set0 a).drew
      clear cl0 cl1 fr0 fr1
      simp only [Exit.inBlock, Exit.then]
      rw [← hre]
      clear hre q1 q2 C0 C0b PSn PSw1
      go_wp2_with (fail)
      rw [rounds_succ]
      go_wp2_with (first | (go_at_call 18; (with_reducible refine (varint_Get.calls k2 r1 b m 0 _ (Kd.C_below (Kd.C_below (Kd.C_below HT.out HB.out) HW.out) PSa.out.bel) Hk2.out).mono ?_); rintro e_ w2 ⟨rfl, hd⟩; have PSw2 := Aside0.mk (PSa.out.drawn hd); clear hd))
      have hc_ := PSw2.out.drew.cells
      obtain ⟨cl0, cl1, fr0, fr1⟩ := hc_
      refine Calm.wp_region_calm (fun _ => True) [0, 1, 2, 3, 4, 5] [6, 7] (by kernel_rfl) (by kernel_rfl) trivial ?_
      repeat (first
        | (refine Calm.value_ (v := ?_) (a' := ?_) rfl rfl (by rfl) ?_ ?_ ?_; rotate_left; (· rintro w' _; go_simp; with_reducible rfl); rotate_left; (· simp only [Act.put, List.setIfInBounds_toArray, List.set_cons_zero, List.set_cons_succ, i64_w, i32_w]; rfl)))
      refine Calm.nil_ ?_
      refine Calm.t_store (w1 := ?_) rfl (by rfl) rfl ?_ ?_ ?_
      rotate_left
      · go_simp; rfl
      · trivial
      refine Calm.t_value (v := ?_) (w1 := ?_) (a' := ?_) rfl rfl (by rfl) ?_ ?_ ?_ ?_
      rotate_left
      rotate_left
      · go_simp; first | (refine And.intro ?_ ?_ <;> rfl) | rfl
      · trivial
      rotate_left
      · simp only [Act.put, List.setIfInBounds_toArray, List.set_cons_zero, List.set_cons_succ, i64_w, i32_w]; rfl
      refine Calm.t_nil ?_
      have PSb := Aside0.mk (PSw2.out.set1 b).drew
      clear cl0 cl1 fr0 fr1
      simp only [Exit.inBlock, Exit.then]
      rw [← hre2]
      clear hre2 q3 q4 PSw2 PSa
      go_wp2_with (fail)
      rw [rounds_succ]
      have hcc := PSb.out.cells
      obtain ⟨cl0, cl1, fr0, fr1⟩ := hcc
      go_wp2_with (fail)
      go_ret2
      exact ⟨_, rfl, Kd.R_nil _ _ _ _ _, below_step HW.out PSb.out.bel⟩
    have hway : (decide (2 ≤ a) = true ∧ decide (a ≥ 2) = true ∧ decide (a ≤ 5) = false) ∨ (decide (2 ≤ a) = false ∧ decide (a ≥ 2) = false) := by
      by_cases h4 : 2 ≤ a
      · exact .inl ⟨decide_eq_true h4, decide_eq_true h4, decide_eq_false (fun h5 => h3 ⟨h4, h5⟩)⟩
      · exact .inr ⟨decide_eq_false h4, decide_eq_false h4⟩
    clear h3
    rcases hway with ⟨D1, D2, D3⟩ | ⟨D1, D2⟩
    · rcases hinv with ⟨h4, rfl, rfl⟩ | ⟨h4, hinv⟩
      · have E1 := h4
        clear h4
        go_wp2_with (fail)
        refine wp_loop_rounds 3 ?_
        rw [rounds_succ]
        go_wp2_with (first | (go_at_call 18; (with_reducible refine (varint_Get.calls k1 cur a n 0 _ (Kd.C_below (Kd.C_below (Kd.C_below HT.out HB.out) HW.out) PSn.out.bel) Hk1.out).mono ?_); rintro e_ w1 ⟨rfl, hd⟩; have PSw1 := Aside0.mk (PSn.out.drawn hd); clear hd))
        have hc_ := PSw1.out.drew.cells
        obtain ⟨cl0, cl1, fr0, fr1⟩ := hc_
        refine Calm.wp_region_calm (fun _ => True) [0, 1, 2, 3, 4, 5] [6, 7] (by kernel_rfl) (by kernel_rfl) trivial ?_
        repeat (first
          | (refine Calm.value_ (v := ?_) (a' := ?_) rfl rfl (by rfl) ?_ ?_ ?_; rotate_left; (· rintro w' _; go_simp; with_reducible rfl); rotate_left; (· simp only [Act.put, List.setIfInBounds_toArray, List.set_cons_zero, List.set_cons_succ, i64_w, i32_w]; rfl)))
        refine Calm.nil_ ?_
        refine Calm.t_store (w1 := ?_) rfl (by rfl) rfl ?_ ?_ ?_
        rotate_left
        · go_simp; rfl
        · trivial
        refine Calm.t_value (v := ?_) (w1 := ?_) (a' := ?_) rfl rfl (by rfl) ?_ ?_ ?_ ?_
        rotate_left
        rotate_left
        · go_simp; first | (refine And.intro ?_ ?_ <;> rfl) | rfl
        · trivial
        rotate_left
        · simp only [Act.put, List.setIfInBounds_toArray, List.set_cons_zero, List.set_cons_succ, i64_w, i32_w]; rfl
        refine Calm.t_nil ?_
        have PSa := Aside0.mk (PSw1.out.set0 a).drew
        clear cl0 cl1 fr0 fr1
        simp only [Exit.inBlock, Exit.then]
        rw [← hre]
        clear hre q1 q2 C0 C0b PSn PSw1
        go_wp2_with (fail)
        rw [rounds_succ]
        go_wp2_with (first | (go_at_call 18; (with_reducible refine (varint_Get.calls k2 r1 b m 0 _ (Kd.C_below (Kd.C_below (Kd.C_below HT.out HB.out) HW.out) PSa.out.bel) Hk2.out).mono ?_); rintro e_ w2 ⟨rfl, hd⟩; have PSw2 := Aside0.mk (PSa.out.drawn hd); clear hd))
        have hc_ := PSw2.out.drew.cells
        obtain ⟨cl0, cl1, fr0, fr1⟩ := hc_
        refine Calm.wp_region_calm (fun _ => True) [0, 1, 2, 3, 4, 5] [6, 7] (by kernel_rfl) (by kernel_rfl) trivial ?_
        repeat (first
          | (refine Calm.value_ (v := ?_) (a' := ?_) rfl rfl (by rfl) ?_ ?_ ?_; rotate_left; (· rintro w' _; go_simp; with_reducible rfl); rotate_left; (· simp only [Act.put, List.setIfInBounds_toArray, List.set_cons_zero, List.set_cons_succ, i64_w, i32_w]; rfl)))
        refine Calm.nil_ ?_
        refine Calm.t_store (w1 := ?_) rfl (by rfl) rfl ?_ ?_ ?_
        rotate_left
        · go_simp; rfl
        · trivial
        refine Calm.t_value (v := ?_) (w1 := ?_) (a' := ?_) rfl rfl (by rfl) ?_ ?_ ?_ ?_
        rotate_left
        rotate_left
        · go_simp; first | (refine And.intro ?_ ?_ <;> rfl) | rfl
        · trivial
        rotate_left
        · simp only [Act.put, List.setIfInBounds_toArray, List.set_cons_zero, List.set_cons_succ, i64_w, i32_w]; rfl
        refine Calm.t_nil ?_
        have PSb := Aside0.mk (PSw2.out.set1 b).drew
        clear cl0 cl1 fr0 fr1
        simp only [Exit.inBlock, Exit.then]
        rw [← hre2]
        clear hre2 q3 q4 PSw2 PSa
        go_wp2_with (fail)
        rw [rounds_succ]
        have hcc := PSb.out.cells
        obtain ⟨cl0, cl1, fr0, fr1⟩ := hcc
        go_wp2_with (first | (go_at_call 19; (with_reducible refine (contains_c a wr.heap.size c A pre _ PSb.out.cells.1 (blk_lt PSb.out.blk) (Kd.R_reads' (Kd.R_below HR.out PSb.out.bel)).2.2).mono ?_); rw [E1]; rintro e_ w3 ⟨rfl, hb3⟩; have PSc := Aside0.mk (PSb.out.below hb3); have hcc := PSc.out.cells; obtain ⟨cm0, cm1, -, -⟩ := hcc; clear hb3))
        go_ret2
        exact ⟨_, rfl, Kd.R_nil _ _ _ _ _, below_step HW.out PSc.out.bel⟩
      rcases hinv with ⟨h5, rfl, rfl⟩ | ⟨h5, hn⟩
      · have E1 := h4
        have E2 : ((pre.length : Int) == 16) = true := beq_iff_eq.mpr (by omega)
        clear h4 h5
        go_wp2_with (fail)
        refine wp_loop_rounds 3 ?_
        rw [rounds_succ]
        go_wp2_with (first | (go_at_call 18; (with_reducible refine (varint_Get.calls k1 cur a n 0 _ (Kd.C_below (Kd.C_below (Kd.C_below HT.out HB.out) HW.out) PSn.out.bel) Hk1.out).mono ?_); rintro e_ w1 ⟨rfl, hd⟩; have PSw1 := Aside0.mk (PSn.out.drawn hd); clear hd))
        have hc_ := PSw1.out.drew.cells
        obtain ⟨cl0, cl1, fr0, fr1⟩ := hc_
        refine Calm.wp_region_calm (fun _ => True) [0, 1, 2, 3, 4, 5] [6, 7] (by kernel_rfl) (by kernel_rfl) trivial ?_
        repeat (first
          | (refine Calm.value_ (v := ?_) (a' := ?_) rfl rfl (by rfl) ?_ ?_ ?_; rotate_left; (· rintro w' _; go_simp; with_reducible rfl); rotate_left; (· simp only [Act.put, List.setIfInBounds_toArray, List.set_cons_zero, List.set_cons_succ, i64_w, i32_w]; rfl)))
        refine Calm.nil_ ?_
        refine Calm.t_store (w1 := ?_) rfl (by rfl) rfl ?_ ?_ ?_
        rotate_left
        · go_simp; rfl
        · trivial
        refine Calm.t_value (v := ?_) (w1 := ?_) (a' := ?_) rfl rfl (by rfl) ?_ ?_ ?_ ?_
        rotate_left
        rotate_left
        · go_simp; first | (refine And.intro ?_ ?_ <;> rfl) | rfl
        · trivial
        rotate_left
        · simp only [Act.put, List.setIfInBounds_toArray, List.set_cons_zero, List.set_cons_succ, i64_w, i32_w]; rfl
        refine Calm.t_nil ?_
        have PSa := Aside0.mk (PSw1.out.set0 a).drew
        clear cl0 cl1 fr0 fr1
        simp only [Exit.inBlock, Exit.then]
        rw [← hre]
        clear hre q1 q2 C0 C0b PSn PSw1
        go_wp2_with (fail)
        rw [rounds_succ]
        go_wp2_with (first | (go_at_call 18; (with_reducible refine (varint_Get.calls k2 r1 b m 0 _ (Kd.C_below (Kd.C_below (Kd.C_below HT.out HB.out) HW.out) PSa.out.bel) Hk2.out).mono ?_); rintro e_ w2 ⟨rfl, hd⟩; have PSw2 := Aside0.mk (PSa.out.drawn hd); clear hd))
        have hc_ := PSw2.out.drew.cells
        obtain ⟨cl0, cl1, fr0, fr1⟩ := hc_
        refine Calm.wp_region_calm (fun _ => True) [0, 1, 2, 3, 4, 5] [6, 7] (by kernel_rfl) (by kernel_rfl) trivial ?_
        repeat (first
          | (refine Calm.value_ (v := ?_) (a' := ?_) rfl rfl (by rfl) ?_ ?_ ?_; rotate_left; (· rintro w' _; go_simp; with_reducible rfl); rotate_left; (· simp only [Act.put, List.setIfInBounds_toArray, List.set_cons_zero, List.set_cons_succ, i64_w, i32_w]; rfl)))
        refine Calm.nil_ ?_
        refine Calm.t_store (w1 := ?_) rfl (by rfl) rfl ?_ ?_ ?_
        rotate_left
        · go_simp; rfl
        · trivial
        refine Calm.t_value (v := ?_) (w1 := ?_) (a' := ?_) rfl rfl (by rfl) ?_ ?_ ?_ ?_
        rotate_left
        rotate_left
        · go_simp; first | (refine And.intro ?_ ?_ <;> rfl) | rfl
        · trivial
        rotate_left
        · simp only [Act.put, List.setIfInBounds_toArray, List.set_cons_zero, List.set_cons_succ, i64_w, i32_w]; rfl
        refine Calm.t_nil ?_
        have PSb := Aside0.mk (PSw2.out.set1 b).drew
        clear cl0 cl1 fr0 fr1
        simp only [Exit.inBlock, Exit.then]
        rw [← hre2]
        clear hre2 q3 q4 PSw2 PSa
        go_wp2_with (fail)
        rw [rounds_succ]
        have hcc := PSb.out.cells
        obtain ⟨cl0, cl1, fr0, fr1⟩ := hcc
        go_wp2_with (first | (go_at_call 19; (with_reducible refine (contains_c a wr.heap.size c A pre _ PSb.out.cells.1 (blk_lt PSb.out.blk) (Kd.R_reads' (Kd.R_below HR.out PSb.out.bel)).2.2).mono ?_); rw [E1]; rintro e_ w3 ⟨rfl, hb3⟩; have PSc := Aside0.mk (PSb.out.below hb3); have hcc := PSc.out.cells; obtain ⟨cm0, cm1, -, -⟩ := hcc; clear hb3))
        go_ret2
        exact ⟨_, rfl, Kd.R_nil _ _ _ _ _, below_step HW.out PSc.out.bel⟩
      have E1 := h4
      have E2 : ((pre.length : Int) == 16) = false := beq_eq_false_iff_ne.mpr (by omega)
      have HN := Aside0.mk hn
      have H16 := Aside0.mk h5
      clear h4 h5 hn
      go_wp2_with (fail)
      refine wp_loop_rounds 3 ?_
      rw [rounds_succ]
      go_wp2_with (first | (go_at_call 18; (with_reducible refine (varint_Get.calls k1 cur a n 0 _ (Kd.C_below (Kd.C_below (Kd.C_below HT.out HB.out) HW.out) PSn.out.bel) Hk1.out).mono ?_); rintro e_ w1 ⟨rfl, hd⟩; have PSw1 := Aside0.mk (PSn.out.drawn hd); clear hd))
      have hc_ := PSw1.out.drew.cells
      obtain ⟨cl0, cl1, fr0, fr1⟩ := hc_
      refine Calm.wp_region_calm (fun _ => True) [0, 1, 2, 3, 4, 5] [6, 7] (by kernel_rfl) (by kernel_rfl) trivial ?_
      repeat (first
        | (refine Calm.value_ (v := ?_) (a' := ?_) rfl rfl (by rfl) ?_ ?_ ?_; rotate_left; (· rintro w' _; go_simp; with_reducible rfl); rotate_left; (· simp only [Act.put, List.setIfInBounds_toArray, List.set_cons_zero, List.set_cons_succ, i64_w, i32_w]; rfl)))
      refine Calm.nil_ ?_
      refine Calm.t_store (w1 := ?_) rfl (by rfl) rfl ?_ ?_ ?_
      rotate_left
      · go_simp; rfl
      · trivial
      refine Calm.t_value (v := ?_) (w1 := ?_) (a' := ?_) rfl rfl (by rfl) ?_ ?_ ?_ ?_
      rotate_left
      rotate_left
      · go_simp; first | (refine And.intro ?_ ?_ <;> rfl) | rfl
      · trivial
      rotate_left
      · simp only [Act.put, List.setIfInBounds_toArray, List.set_cons_zero, List.set_cons_succ, i64_w, i32_w]; rfl
      refine Calm.t_nil ?_
      have PSa := Aside0.mk (PSw1.out.set0 a).drew
      clear cl0 cl1 fr0 fr1
      simp only [Exit.inBlock, Exit.then]
      rw [← hre]
      clear hre q1 q2 C0 C0b PSn PSw1
      go_wp2_with (fail)
      rw [rounds_succ]
      go_wp2_with (first | (go_at_call 18; (with_reducible refine (varint_Get.calls k2 r1 b m 0 _ (Kd.C_below (Kd.C_below (Kd.C_below HT.out HB.out) HW.out) PSa.out.bel) Hk2.out).mono ?_); rintro e_ w2 ⟨rfl, hd⟩; have PSw2 := Aside0.mk (PSa.out.drawn hd); clear hd))
      have hc_ := PSw2.out.drew.cells
      obtain ⟨cl0, cl1, fr0, fr1⟩ := hc_
      refine Calm.wp_region_calm (fun _ => True) [0, 1, 2, 3, 4, 5] [6, 7] (by kernel_rfl) (by kernel_rfl) trivial ?_
      repeat (first
        | (refine Calm.value_ (v := ?_) (a' := ?_) rfl rfl (by rfl) ?_ ?_ ?_; rotate_left; (· rintro w' _; go_simp; with_reducible rfl); rotate_left; (· simp only [Act.put, List.setIfInBounds_toArray, List.set_cons_zero, List.set_cons_succ, i64_w, i32_w]; rfl)))
      refine Calm.nil_ ?_
      refine Calm.t_store (w1 := ?_) rfl (by rfl) rfl ?_ ?_ ?_
      rotate_left
      · go_simp; rfl
      · trivial
      refine Calm.t_value (v := ?_) (w1 := ?_) (a' := ?_) rfl rfl (by rfl) ?_ ?_ ?_ ?_
      rotate_left
      rotate_left
      · go_simp; first | (refine And.intro ?_ ?_ <;> rfl) | rfl
      · trivial
      rotate_left
      · simp only [Act.put, List.setIfInBounds_toArray, List.set_cons_zero, List.set_cons_succ, i64_w, i32_w]; rfl
      refine Calm.t_nil ?_
      have PSb := Aside0.mk (PSw2.out.set1 b).drew
      clear cl0 cl1 fr0 fr1
      simp only [Exit.inBlock, Exit.then]
      rw [← hre2]
      clear hre2 q3 q4 PSw2 PSa
      go_wp2_with (fail)
      rw [rounds_succ]
      have hcc := PSb.out.cells
      obtain ⟨cl0, cl1, fr0, fr1⟩ := hcc
      go_wp2_with (first | (go_at_call 19; (with_reducible refine (contains_c a wr.heap.size c A pre _ PSb.out.cells.1 (blk_lt PSb.out.blk) (Kd.R_reads' (Kd.R_below HR.out PSb.out.bel)).2.2).mono ?_); rw [E1]; rintro e_ w3 ⟨rfl, hb3⟩; have PSc := Aside0.mk (PSb.out.below hb3); have hcc := PSc.out.cells; obtain ⟨cm0, cm1, -, -⟩ := hcc; clear hb3) | ((with_reducible refine gate_builtin (b := .append) (xs := #[.tmp 48, .tmp 54]) rfl ?_); at_builtin; refine Kd.R_append k53 (w0 := W) W.heap.size rfl (.tmp 48) (.tmp 54) 22 53 (.agg #[.int .i64 0, .int .i64 0]) 16 rfl Tryd.underlying22 info53_ rfl (by decide) (by omega) (.slice A pre.length c) pre ⟨a, b⟩ [.int .i64 a, .int .i64 b] (fun k => W.heap.size ≤ k) (fun _ => False) rfl rfl ?aP (fun _ hk => hk.elim) ?aF (Kd.R_below HR.out PSc.out.bel) (below_step HW.out PSc.out.bel) ?aS ?aL ?_; (case aP => exact k53_mkM _ _ _ _); (case aF => exact fun k hk => Nat.le_trans (Nat.le_trans HW.out.size PSc.out.bel.size) hk); (case aS => exact Nat.le_trans HW.out.size PSc.out.bel.size); (case aL => have := HRS.out; omega); intro v6 w6 hR6 hB6 hg6 hat; obtain ⟨A6, c6, rfl⟩ := Kd.R_slice hR6; have HR6 := Aside0.mk hR6; have HB6 := Aside0.mk hB6; clear hR6 hB6 hg6 hat))
      go_roundw
      case rel => exact ⟨r2, A6, c6, pre ++ [⟨a, b⟩], rfl, by rw [List.length_append]; rfl, ⟨by have h_ := HR6.out; rw [List.length_append] at h_; exact h_⟩, HB6, ⟨HN.out, by have := HRS.out; have := H16.out; rw [List.length_append]; simp; omega, by have := HRS.out; omega⟩⟩
      case measure => have h1_ := HRS.out.1 (by trivial); have h2_ := HRS.out.2.1 (by trivial); simp; omega
    · rcases hinv with ⟨h4, rfl, rfl⟩ | ⟨h4, hinv⟩
      · have E1 := h4
        clear h4
        go_wp2_with (fail)
        refine wp_loop_rounds 3 ?_
        rw [rounds_succ]
        go_wp2_with (first | (go_at_call 18; (with_reducible refine (varint_Get.calls k1 cur a n 0 _ (Kd.C_below (Kd.C_below (Kd.C_below HT.out HB.out) HW.out) PSn.out.bel) Hk1.out).mono ?_); rintro e_ w1 ⟨rfl, hd⟩; have PSw1 := Aside0.mk (PSn.out.drawn hd); clear hd))
        have hc_ := PSw1.out.drew.cells
        obtain ⟨cl0, cl1, fr0, fr1⟩ := hc_
        refine Calm.wp_region_calm (fun _ => True) [0, 1, 2, 3, 4, 5] [6, 7] (by kernel_rfl) (by kernel_rfl) trivial ?_
        repeat (first
          | (refine Calm.value_ (v := ?_) (a' := ?_) rfl rfl (by rfl) ?_ ?_ ?_; rotate_left; (· rintro w' _; go_simp; with_reducible rfl); rotate_left; (· simp only [Act.put, List.setIfInBounds_toArray, List.set_cons_zero, List.set_cons_succ, i64_w, i32_w]; rfl)))
        refine Calm.nil_ ?_
        refine Calm.t_store (w1 := ?_) rfl (by rfl) rfl ?_ ?_ ?_
        rotate_left
        · go_simp; rfl
        · trivial
        refine Calm.t_value (v := ?_) (w1 := ?_) (a' := ?_) rfl rfl (by rfl) ?_ ?_ ?_ ?_
        rotate_left
        rotate_left
        · go_simp; first | (refine And.intro ?_ ?_ <;> rfl) | rfl
        · trivial
        rotate_left
        · simp only [Act.put, List.setIfInBounds_toArray, List.set_cons_zero, List.set_cons_succ, i64_w, i32_w]; rfl
        refine Calm.t_nil ?_
        have PSa := Aside0.mk (PSw1.out.set0 a).drew
        clear cl0 cl1 fr0 fr1
        simp only [Exit.inBlock, Exit.then]
        rw [← hre]
        clear hre q1 q2 C0 C0b PSn PSw1
        go_wp2_with (fail)
        rw [rounds_succ]
        go_wp2_with (first | (go_at_call 18; (with_reducible refine (varint_Get.calls k2 r1 b m 0 _ (Kd.C_below (Kd.C_below (Kd.C_below HT.out HB.out) HW.out) PSa.out.bel) Hk2.out).mono ?_); rintro e_ w2 ⟨rfl, hd⟩; have PSw2 := Aside0.mk (PSa.out.drawn hd); clear hd))
        have hc_ := PSw2.out.drew.cells
        obtain ⟨cl0, cl1, fr0, fr1⟩ := hc_
        refine Calm.wp_region_calm (fun _ => True) [0, 1, 2, 3, 4, 5] [6, 7] (by kernel_rfl) (by kernel_rfl) trivial ?_
        repeat (first
          | (refine Calm.value_ (v := ?_) (a' := ?_) rfl rfl (by rfl) ?_ ?_ ?_; rotate_left; (· rintro w' _; go_simp; with_reducible rfl); rotate_left; (· simp only [Act.put, List.setIfInBounds_toArray, List.set_cons_zero, List.set_cons_succ, i64_w, i32_w]; rfl)))
        refine Calm.nil_ ?_
        refine Calm.t_store (w1 := ?_) rfl (by rfl) rfl ?_ ?_ ?_
        rotate_left
        · go_simp; rfl
        · trivial
        refine Calm.t_value (v := ?_) (w1 := ?_) (a' := ?_) rfl rfl (by rfl) ?_ ?_ ?_ ?_
        rotate_left
        rotate_left
        · go_simp; first | (refine And.intro ?_ ?_ <;> rfl) | rfl
        · trivial
        rotate_left
        · simp only [Act.put, List.setIfInBounds_toArray, List.set_cons_zero, List.set_cons_succ, i64_w, i32_w]; rfl
        refine Calm.t_nil ?_
        have PSb := Aside0.mk (PSw2.out.set1 b).drew
        clear cl0 cl1 fr0 fr1
        simp only [Exit.inBlock, Exit.then]
        rw [← hre2]
        clear hre2 q3 q4 PSw2 PSa
        go_wp2_with (fail)
        rw [rounds_succ]
        have hcc := PSb.out.cells
        obtain ⟨cl0, cl1, fr0, fr1⟩ := hcc
        go_wp2_with (first | (go_at_call 19; (with_reducible refine (contains_c a wr.heap.size c A pre _ PSb.out.cells.1 (blk_lt PSb.out.blk) (Kd.R_reads' (Kd.R_below HR.out PSb.out.bel)).2.2).mono ?_); rw [E1]; rintro e_ w3 ⟨rfl, hb3⟩; have PSc := Aside0.mk (PSb.out.below hb3); have hcc := PSc.out.cells; obtain ⟨cm0, cm1, -, -⟩ := hcc; clear hb3))
        go_ret2
        exact ⟨_, rfl, Kd.R_nil _ _ _ _ _, below_step HW.out PSc.out.bel⟩
      rcases hinv with ⟨h5, rfl, rfl⟩ | ⟨h5, hn⟩
      · have E1 := h4
        have E2 : ((pre.length : Int) == 16) = true := beq_iff_eq.mpr (by omega)
        clear h4 h5
        go_wp2_with (fail)
        refine wp_loop_rounds 3 ?_
        rw [rounds_succ]
        go_wp2_with (first | (go_at_call 18; (with_reducible refine (varint_Get.calls k1 cur a n 0 _ (Kd.C_below (Kd.C_below (Kd.C_below HT.out HB.out) HW.out) PSn.out.bel) Hk1.out).mono ?_); rintro e_ w1 ⟨rfl, hd⟩; have PSw1 := Aside0.mk (PSn.out.drawn hd); clear hd))
        have hc_ := PSw1.out.drew.cells
        obtain ⟨cl0, cl1, fr0, fr1⟩ := hc_
        refine Calm.wp_region_calm (fun _ => True) [0, 1, 2, 3, 4, 5] [6, 7] (by kernel_rfl) (by kernel_rfl) trivial ?_
        repeat (first
          | (refine Calm.value_ (v := ?_) (a' := ?_) rfl rfl (by rfl) ?_ ?_ ?_; rotate_left; (· rintro w' _; go_simp; with_reducible rfl); rotate_left; (· simp only [Act.put, List.setIfInBounds_toArray, List.set_cons_zero, List.set_cons_succ, i64_w, i32_w]; rfl)))
        refine Calm.nil_ ?_
        refine Calm.t_store (w1 := ?_) rfl (by rfl) rfl ?_ ?_ ?_
        rotate_left
        · go_simp; rfl
        · trivial
        refine Calm.t_value (v := ?_) (w1 := ?_) (a' := ?_) rfl rfl (by rfl) ?_ ?_ ?_ ?_
        rotate_left
        rotate_left
        · go_simp; first | (refine And.intro ?_ ?_ <;> rfl) | rfl
        · trivial
        rotate_left
        · simp only [Act.put, List.setIfInBounds_toArray, List.set_cons_zero, List.set_cons_succ, i64_w, i32_w]; rfl
        refine Calm.t_nil ?_
        have PSa := Aside0.mk (PSw1.out.set0 a).drew
        clear cl0 cl1 fr0 fr1
        simp only [Exit.inBlock, Exit.then]
        rw [← hre]
        clear hre q1 q2 C0 C0b PSn PSw1
        go_wp2_with (fail)
        rw [rounds_succ]
        go_wp2_with (first | (go_at_call 18; (with_reducible refine (varint_Get.calls k2 r1 b m 0 _ (Kd.C_below (Kd.C_below (Kd.C_below HT.out HB.out) HW.out) PSa.out.bel) Hk2.out).mono ?_); rintro e_ w2 ⟨rfl, hd⟩; have PSw2 := Aside0.mk (PSa.out.drawn hd); clear hd))
        have hc_ := PSw2.out.drew.cells
        obtain ⟨cl0, cl1, fr0, fr1⟩ := hc_
        refine Calm.wp_region_calm (fun _ => True) [0, 1, 2, 3, 4, 5] [6, 7] (by kernel_rfl) (by kernel_rfl) trivial ?_
        repeat (first
          | (refine Calm.value_ (v := ?_) (a' := ?_) rfl rfl (by rfl) ?_ ?_ ?_; rotate_left; (· rintro w' _; go_simp; with_reducible rfl); rotate_left; (· simp only [Act.put, List.setIfInBounds_toArray, List.set_cons_zero, List.set_cons_succ, i64_w, i32_w]; rfl)))
        refine Calm.nil_ ?_
        refine Calm.t_store (w1 := ?_) rfl (by rfl) rfl ?_ ?_ ?_
        rotate_left
        · go_simp; rfl
        · trivial
        refine Calm.t_value (v := ?_) (w1 := ?_) (a' := ?_) rfl rfl (by rfl) ?_ ?_ ?_ ?_
        rotate_left
        rotate_left
        · go_simp; first | (refine And.intro ?_ ?_ <;> rfl) | rfl
        · trivial
        rotate_left
        · simp only [Act.put, List.setIfInBounds_toArray, List.set_cons_zero, List.set_cons_succ, i64_w, i32_w]; rfl
        refine Calm.t_nil ?_
        have PSb := Aside0.mk (PSw2.out.set1 b).drew
        clear cl0 cl1 fr0 fr1
        simp only [Exit.inBlock, Exit.then]
        rw [← hre2]
        clear hre2 q3 q4 PSw2 PSa
        go_wp2_with (fail)
        rw [rounds_succ]
        have hcc := PSb.out.cells
        obtain ⟨cl0, cl1, fr0, fr1⟩ := hcc
        go_wp2_with (first | (go_at_call 19; (with_reducible refine (contains_c a wr.heap.size c A pre _ PSb.out.cells.1 (blk_lt PSb.out.blk) (Kd.R_reads' (Kd.R_below HR.out PSb.out.bel)).2.2).mono ?_); rw [E1]; rintro e_ w3 ⟨rfl, hb3⟩; have PSc := Aside0.mk (PSb.out.below hb3); have hcc := PSc.out.cells; obtain ⟨cm0, cm1, -, -⟩ := hcc; clear hb3))
        go_ret2
        exact ⟨_, rfl, Kd.R_nil _ _ _ _ _, below_step HW.out PSc.out.bel⟩
      have E1 := h4
      have E2 : ((pre.length : Int) == 16) = false := beq_eq_false_iff_ne.mpr (by omega)
      have HN := Aside0.mk hn
      have H16 := Aside0.mk h5
      clear h4 h5 hn
      go_wp2_with (fail)
      refine wp_loop_rounds 3 ?_
      rw [rounds_succ]
      go_wp2_with (first | (go_at_call 18; (with_reducible refine (varint_Get.calls k1 cur a n 0 _ (Kd.C_below (Kd.C_below (Kd.C_below HT.out HB.out) HW.out) PSn.out.bel) Hk1.out).mono ?_); rintro e_ w1 ⟨rfl, hd⟩; have PSw1 := Aside0.mk (PSn.out.drawn hd); clear hd))
      have hc_ := PSw1.out.drew.cells
      obtain ⟨cl0, cl1, fr0, fr1⟩ := hc_
      refine Calm.wp_region_calm (fun _ => True) [0, 1, 2, 3, 4, 5] [6, 7] (by kernel_rfl) (by kernel_rfl) trivial ?_
      repeat (first
        | (refine Calm.value_ (v := ?_) (a' := ?_) rfl rfl (by rfl) ?_ ?_ ?_; rotate_left; (· rintro w' _; go_simp; with_reducible rfl); rotate_left; (· simp only [Act.put, List.setIfInBounds_toArray, List.set_cons_zero, List.set_cons_succ, i64_w, i32_w]; rfl)))
      refine Calm.nil_ ?_
      refine Calm.t_store (w1 := ?_) rfl (by rfl) rfl ?_ ?_ ?_
      rotate_left
      · go_simp; rfl
      · trivial
      refine Calm.t_value (v := ?_) (w1 := ?_) (a' := ?_) rfl rfl (by rfl) ?_ ?_ ?_ ?_
      rotate_left
      rotate_left
      · go_simp; first | (refine And.intro ?_ ?_ <;> rfl) | rfl
      · trivial
      rotate_left
      · simp only [Act.put, List.setIfInBounds_toArray, List.set_cons_zero, List.set_cons_succ, i64_w, i32_w]; rfl
      refine Calm.t_nil ?_
      have PSa := Aside0.mk (PSw1.out.set0 a).drew
      clear cl0 cl1 fr0 fr1
      simp only [Exit.inBlock, Exit.then]
      rw [← hre]
      clear hre q1 q2 C0 C0b PSn PSw1
      go_wp2_with (fail)
      rw [rounds_succ]
      go_wp2_with (first | (go_at_call 18; (with_reducible refine (varint_Get.calls k2 r1 b m 0 _ (Kd.C_below (Kd.C_below (Kd.C_below HT.out HB.out) HW.out) PSa.out.bel) Hk2.out).mono ?_); rintro e_ w2 ⟨rfl, hd⟩; have PSw2 := Aside0.mk (PSa.out.drawn hd); clear hd))
      have hc_ := PSw2.out.drew.cells
      obtain ⟨cl0, cl1, fr0, fr1⟩ := hc_
      refine Calm.wp_region_calm (fun _ => True) [0, 1, 2, 3, 4, 5] [6, 7] (by kernel_rfl) (by kernel_rfl) trivial ?_
      repeat (first
        | (refine Calm.value_ (v := ?_) (a' := ?_) rfl rfl (by rfl) ?_ ?_ ?_; rotate_left; (· rintro w' _; go_simp; with_reducible rfl); rotate_left; (· simp only [Act.put, List.setIfInBounds_toArray, List.set_cons_zero, List.set_cons_succ, i64_w, i32_w]; rfl)))
      refine Calm.nil_ ?_
      refine Calm.t_store (w1 := ?_) rfl (by rfl) rfl ?_ ?_ ?_
      rotate_left
      · go_simp; rfl
      · trivial
      refine Calm.t_value (v := ?_) (w1 := ?_) (a' := ?_) rfl rfl (by rfl) ?_ ?_ ?_ ?_
      rotate_left
      rotate_left
      · go_simp; first | (refine And.intro ?_ ?_ <;> rfl) | rfl
      · trivial
      rotate_left
      · simp only [Act.put, List.setIfInBounds_toArray, List.set_cons_zero, List.set_cons_succ, i64_w, i32_w]; rfl
      refine Calm.t_nil ?_
      have PSb := Aside0.mk (PSw2.out.set1 b).drew
      clear cl0 cl1 fr0 fr1
      simp only [Exit.inBlock, Exit.then]
      rw [← hre2]
      clear hre2 q3 q4 PSw2 PSa
      go_wp2_with (fail)
      rw [rounds_succ]
      have hcc := PSb.out.cells
      obtain ⟨cl0, cl1, fr0, fr1⟩ := hcc
      go_wp2_with (first | (go_at_call 19; (with_reducible refine (contains_c a wr.heap.size c A pre _ PSb.out.cells.1 (blk_lt PSb.out.blk) (Kd.R_reads' (Kd.R_below HR.out PSb.out.bel)).2.2).mono ?_); rw [E1]; rintro e_ w3 ⟨rfl, hb3⟩; have PSc := Aside0.mk (PSb.out.below hb3); have hcc := PSc.out.cells; obtain ⟨cm0, cm1, -, -⟩ := hcc; clear hb3) | ((with_reducible refine gate_builtin (b := .append) (xs := #[.tmp 48, .tmp 54]) rfl ?_); at_builtin; refine Kd.R_append k53 (w0 := W) W.heap.size rfl (.tmp 48) (.tmp 54) 22 53 (.agg #[.int .i64 0, .int .i64 0]) 16 rfl Tryd.underlying22 info53_ rfl (by decide) (by omega) (.slice A pre.length c) pre ⟨a, b⟩ [.int .i64 a, .int .i64 b] (fun k => W.heap.size ≤ k) (fun _ => False) rfl rfl ?aP (fun _ hk => hk.elim) ?aF (Kd.R_below HR.out PSc.out.bel) (below_step HW.out PSc.out.bel) ?aS ?aL ?_; (case aP => exact k53_mkM _ _ _ _); (case aF => exact fun k hk => Nat.le_trans (Nat.le_trans HW.out.size PSc.out.bel.size) hk); (case aS => exact Nat.le_trans HW.out.size PSc.out.bel.size); (case aL => have := HRS.out; omega); intro v6 w6 hR6 hB6 hg6 hat; obtain ⟨A6, c6, rfl⟩ := Kd.R_slice hR6; have HR6 := Aside0.mk hR6; have HB6 := Aside0.mk hB6; clear hR6 hB6 hg6 hat))
      go_roundw
      case rel => exact ⟨r2, A6, c6, pre ++ [⟨a, b⟩], rfl, by rw [List.length_append]; rfl, ⟨by have h_ := HR6.out; rw [List.length_append] at h_; exact h_⟩, HB6, ⟨HN.out, by have := HRS.out; have := H16.out; rw [List.length_append]; simp; omega, by have := HRS.out; omega⟩⟩
      case measure => have h1_ := HRS.out.1 (by trivial); have h2_ := HRS.out.2.1 (by trivial); simp; omega
end Go.Proofs.YtnnmdocdiedgiaaDoor.Pairs
