/- h3.Reader: pass. -/
import Derived.Test.YtnnmdocdiedgiaaDoorSteps
import Derived.Test.YtnnmdocdiedgiaaDoorCalmG
namespace Go.Proofs.YtnnmdocdiedgiaaDoor.Reader
open Go.RowKit Go.Proofs.YtnnmdocdiedgiaaDoorW.PrintWords Go.Proofs.YtnnmdocdiedgiaaDoorW.PrintLast Go.Proofs.YtnnmdocdiedgiaaDoorW.PrintMore Go.Proofs.YtnnmdocdiedgiaaDoor.PH3Writes Go.Proofs.YtnnmdocdiedgiaaDoor Go.Proofs.YtnnmdocdiedgiaaDoor.Pure Go.Proofs.YtnnmdocdiedgiaaDoor.Pairs
set_option linter.unusedVariables false
set_option linter.unusedSimpArgs false
attribute [local go_sem] max2_int min2_int max_two min_two
def passN (r : RS) : Int := if (r.rest.size : Int) < r.left then (r.rest.size : Int) else r.left
def passE (r : RS) : List S39 := if passN r > 0 then (if r.strange then [] else [⟨0, r.rest.extract 0 (passN r).toNat⟩]) else []
def passR (r : RS) : RS := { r with rest := r.rest.extract (passN r).toNat r.rest.size, left := r.left - passN r }
def pasS (r : RS) : RS × List S39 × Bool := if (passR r).left > 0 then (passR r, passE r, false) else ({ passR r with md := .frm }, passE r, true)
/-- Behind an append and its store. -/
theorem Lp.appset {w0 W w1 w2 : World} {g gl : Nat} {r : RS} {v v2 : Value} {l l2 : List S39} (h : Lp w0 W w1 g gl r v l) (hgl : W.heap.size ≤ gl) (hgl0 : w0.heap.size ≤ gl) (hne : g ≠ gl) (hR : Kd.R k39 39 w2 w0.heap.size (fun k => k ≠ g ∧ k ≠ gl ∧ W.heap.size ≤ k) v2 l2) (hB : Below w0.heap.size w0 w2) (hgr : w1.grownBy w2 v.ownBlock) : Lp w0 W (w2.setCell ⟨gl, 0, none⟩ v2) g gl r v2 l2 := by
  have b1 : w2.heap[g]? = some (.cells (rcells g r) 60 (0, 0)) := (hgr.block g (blk_lt h.rb) (fun he => (h.rr.1 g he.symm).1 rfl)).trans h.rb
  have b2 : w2.heap[gl]? = some (.cells #[v] 33 (0, 0)) := (hgr.block gl (blk_lt h.lb) (fun he => (h.rr.1 gl he.symm).2.1 rfl)).trans h.lb
  refine ⟨blk_far b1 hne v2, by simpa using blk_set b2 0 v2, Kd.R_far hR (fun k hk => hk.2.1) _, below_set hB hgl0, ?_⟩
  have hk : KeepBut W w2 g none := by
    refine h.keep.trans (KeepBut.of_grown hgr g) ?_
    cases he : v.ownBlock with
    | none => exact .inl rfl
    | some k => exact .inr ⟨k, rfl, (h.rr.1 k he).2.2⟩
  exact keep_far hk hgl v2
theorem Lp.cellsl {w0 W w1 w2 : World} {g gl : Nat} {r : RS} {v : Value} {l : List S39} (h : Lp w0 W w1 g gl r v l) (hgr : w1.grownBy w2 v.ownBlock) : w2.cell? ⟨gl, 0, none⟩ = some v ∧ w2.frozen? ⟨gl, 0, none⟩ = false := by
  have b2 : w2.heap[gl]? = some (.cells #[v] 33 (0, 0)) := (hgr.block gl (blk_lt h.lb) (fun he => (h.rr.1 gl he.symm).2.1 rfl)).trans h.lb
  exact ⟨(blk_cell b2 0).trans rfl, blk_frozen b2 0⟩
set_option maxHeartbeats 8000000 in
set_option maxRecDepth 100000 in
theorem pass_c (g gl : Nat) (r : RS) (v : Value) (l : List S39) (w0 W0 W : World) (h : Lp w0 W0 W g gl r v l) (hg : w0.heap.size ≤ g) (hgl : W0.heap.size ≤ gl) (hne : g ≠ gl) (hw0 : w0.heap.size ≤ W0.heap.size) (hmd : r.md = .pas) (h0 : 0 ≤ r.left) (h1 : r.left ≤ 4611686018427387903) (hs : l.length + r.rest.size ≤ 100000) :
    Calls Tryd.prog 36 #[.pointer (some ⟨g, 0, none⟩), .pointer (some ⟨gl, 0, none⟩)] W fun e w' => ∃ v', e = .returned (.bool (pasS r).2.2) ∧ Lp w0 W0 w' g gl (pasS r).1 v' (l ++ (pasS r).2.1) := by
  have HL := Aside0.mk h
  have HG := Aside0.mk hg
  have HGL := Aside0.mk hgl
  have HN := Aside0.mk hne
  have HW0 := Aside0.mk hw0
  clear hw0
  obtain ⟨c0, c1, c2, c3, c4, c5, c6, c7, fr⟩ := rb_cells h.rb
  obtain ⟨ctl, rest, first, left, strange, code, md, begun⟩ := r
  dsimp only at c0 c1 c2 c3 c4 c5 c6 c7 hmd h0 h1 hs
  subst hmd
  have f1 := fr 1
  have f3 := fr 3
  have f6 := fr 6
  clear h hg hne fr c0 c2 c5 c7 hgl
  have ways : ∃ n : Int, passN ⟨ctl, rest, first, left, strange, code, .pas, begun⟩ = n ∧ (if (rest.size : Int) < left then (rest.size : Int) else left) = n ∧ 0 ≤ n ∧ n ≤ left ∧ n ≤ rest.size := by
    refine ⟨_, rfl, ?_, ?_, ?_, ?_⟩ <;> unfold passN <;> dsimp only
    all_goals split <;> omega
  obtain ⟨n, hn, hmn, n0, n1, n2⟩ := ways
  have hP : pasS ⟨ctl, rest, first, left, strange, code, .pas, begun⟩ = (if left - n > 0 then (⟨ctl, rest.extract n.toNat rest.size, first, left - n, strange, code, .pas, begun⟩, (if n > 0 then (if strange then [] else [⟨0, rest.extract 0 n.toNat⟩]) else []), false) else (⟨ctl, rest.extract n.toNat rest.size, first, left - n, strange, code, .frm, begun⟩, (if n > 0 then (if strange then [] else [⟨0, rest.extract 0 n.toNat⟩]) else []), true)) := by
    unfold pasS passR passE
    rw [hn]
  rw [hP]
  clear hP hn
  have hw : wrap64 (left - n) = left - n := by unfold wrap64; omega
  have hw2 : IntKind.i64.wrap (left - n) = left - n := (i64_w _).trans hw
  have p0 := eq_true n0
  have p2 := eq_true n2
  have HS := Aside0.mk (And.intro hs (And.intro n0 (And.intro n1 n2)))
  clear hs n0 n1 n2 h0 h1
  by_cases hq : left - n > 0
  · have E1 : decide (left - n > 0) = true := decide_eq_true hq
    have E2 : decide (0 < left - n) = true := decide_eq_true hq
    have E3 : decide (n < left) = true := decide_eq_true (by omega)
    rw [if_pos hq]
    clear hq
    by_cases hp : n > 0
    · have C1 : decide (n > 0) = true := decide_eq_true hp
      have C1b : decide (0 < n) = true := decide_eq_true hp
      rw [if_pos hp]
      clear hp
      cases strange
      rotate_left
      · rw [if_pos rfl]
        have HLd := Aside0.mk HL.out.drew
        go_enter Tryd.func36, Tryd.ntmps36
        go_wp2_with (fail)
        go_region
        simp only [Exit.then]
        go_wp2_with (fail)
        go_region
        simp only [Exit.then]
        have hz1 := HLd.out.set HG.out HN.out 1 (.string (rest.extract n.toNat rest.size)) ⟨ctl, rest.extract n.toNat rest.size, first, left, true, code, .pas, begun⟩ rfl
        have hz2 := hz1.set HG.out HN.out 3 (.int .i64 (left - n)) ⟨ctl, rest.extract n.toNat rest.size, first, left - n, true, code, .pas, begun⟩ rfl
        have hz3 := hz2.set HG.out HN.out 6 (nextV g .frm) ⟨ctl, rest.extract n.toNat rest.size, first, left - n, true, code, .frm, begun⟩ rfl
        have HZ2 := Aside0.mk hz2
        have HZ3 := Aside0.mk hz3
        have f6_ := blk_frozen hz2.rb 6
        have c6_ := (blk_cell hz2.rb 6).trans (rfl : _ = some (nextV g .pas))
        clear hz1 hz2 hz3
        go_wp2_with (fail)
        go_ret
        refine ⟨v, rfl, ?_⟩
        show Lp w0 W0 _ g gl _ _ (l ++ [])
        rw [List.append_nil]
        first | exact HZ2.out | exact HZ2.out.drew | exact HZ2.out.drew.drew | exact HZ2.out.drew.drew.drew
      · rw [if_neg (by simp)]
        obtain ⟨A, c, rfl⟩ := Kd.R_slice HL.out.rr
        have HLd := Aside0.mk HL.out.drew.drew
        go_enter Tryd.func36, Tryd.ntmps36
        go_wp2_with (fail)
        go_region
        simp only [Exit.then]
        go_wp2_with (fail)
        refine Calm.wp_region_calmC [(3, fun w_ => w_.cell? ⟨gl, 0, none⟩ = some (.slice A l.length c)), (7, fun w_ => w_.cell? ⟨g, 1, none⟩ = some (.string rest))] [0, 1, 2, 3, 4, 5, 6, 7, 8, 9, 10] [11, 12, 13, 14] (by kernel_rfl) (by kernel_rfl) (Calm.allC_cons ((blk_cell HLd.out.lb 0).trans rfl) (Calm.allC_cons ((rb_cells HLd.out.rb).2.1) Calm.allC_nil)) ?_
        repeat (first
          | (refine Calm.g_value (v := ?_) (a' := ?_) rfl rfl (by rfl) ?_ ?_ ?_; rotate_left; (· rintro w' hS'; (try simp only [Calm.SC_cons, Calm.SC_nil, Nat.reduceEqDiff, forall_const, false_implies, and_true, true_and] at hS'); (try obtain ⟨hS1, hS2⟩ := hS'); go_simp; with_reducible rfl); rotate_left; (· simp only [Act.put, List.setIfInBounds_toArray, List.set_cons_zero, List.set_cons_succ, i64_w, i32_w]; rfl)))
        refine Calm.g_nil ?_
        refine Calm.c_value (v := ?_) (w1 := ?_) (a' := ?_) rfl rfl (by rfl) ?_ ?_ ?_ ?_
        rotate_left
        rotate_left
        · go_simp; first | (refine And.intro ?_ ?_ <;> rfl) | rfl
        · repeat (first | exact Calm.okC_nil | (refine Calm.okC_cons (Or.inl (by decide +kernel)) ?_) | (refine Calm.okC_cons (Or.inr (by (first | exact (blk_cell (blk_alloc HLd.out.lb _) 0).trans rfl | assumption | (go_simp; done)))) ?_))
        rotate_left
        · simp only [Act.put, List.setIfInBounds_toArray, List.set_cons_zero, List.set_cons_succ, i64_w, i32_w]; rfl
        refine Calm.c_law rfl ?_
        refine Kd.R_append_step k39 (w0 := w0) w0.heap.size (by rfl) (.tmp 28) (.tmp 36) 33 39 (.agg #[.int .i64 0, .string (⟨#[]⟩ : ByteArray)]) 24 rfl Tryd.underlying33 info39_ rfl (by decide) (by omega) (.slice A l.length c) l ⟨0, rest.extract 0 n.toNat⟩ [.int .i64 0, .string (rest.extract 0 n.toNat)] (fun k => k ≠ g ∧ k ≠ gl ∧ W0.heap.size ≤ k) (fun _ => False) rfl rfl ?aP (fun _ hk => hk.elim) ?aF HLd.out.rr HLd.out.bel ?aS ?aL ?_
        case aP => exact k39_mkM _ _ _ _
        case aF => exact fun k hk => ⟨by have := blk_lt HLd.out.rb; omega, by have := blk_lt HLd.out.lb; omega, Nat.le_trans HLd.out.keep.1 hk⟩
        case aS => exact HLd.out.bel.size
        case aL => have := HS.out; omega
        intro v6 w6 hR6 hB6 hg6 hat
        have hcl := HLd.out.cellsl hg6
        obtain ⟨cl6, fl6⟩ := hcl
        obtain ⟨A6, cp6, rfl⟩ := Kd.R_slice hR6
        refine And.intro ?_ ?_
        · repeat (first | exact Calm.okC_nil | (refine Calm.okC_cons (Or.inl (by decide +kernel)) ?_) | (refine Calm.okC_cons (Or.inr (by (first | assumption | (go_simp; done)))) ?_))
        refine Calm.put_dst (a' := ?_) rfl ?_ ?_
        rotate_left
        · simp only [Act.put, List.setIfInBounds_toArray, List.set_cons_zero, List.set_cons_succ, i64_w, i32_w]; rfl
        refine Calm.c_value (v := ?_) (w1 := ?_) (a' := ?_) rfl rfl (by rfl) ?_ ?_ ?_ ?_
        rotate_left
        rotate_left
        · go_simp; first | (refine And.intro ?_ ?_ <;> rfl) | rfl
        · repeat (first | exact Calm.okC_nil | (refine Calm.okC_cons (Or.inl (by decide +kernel)) ?_) | (refine Calm.okC_cons (Or.inr (by (first | assumption | (go_simp; done)))) ?_))
        rotate_left
        · simp only [Act.put, List.setIfInBounds_toArray, List.set_cons_zero, List.set_cons_succ, i64_w, i32_w]; rfl
        refine Calm.c_store (w1 := ?_) rfl (by rfl) rfl ?_ ?_ ?_
        rotate_left
        · go_simp; rfl
        · repeat (first | exact Calm.okC_nil | (refine Calm.okC_cons (Or.inl (by decide +kernel)) ?_) | (refine Calm.okC_cons (Or.inr (by (first | assumption | (go_simp; done)))) ?_))
        refine Calm.h_nil ?_
        simp only [Exit.inBlock, Exit.then]
        have hle := HLd.out.appset HGL.out (Nat.le_trans HW0.out HGL.out) HN.out hR6 hB6 hg6
        rw [show (l ++ [(⟨0, rest.extract 0 n.toNat⟩ : S39)]).length = l.length + 1 by simp] at hle
        have HLe := Aside0.mk hle
        clear hle
        clear hR6 hB6 hg6 hat cl6 fl6 HLd
        generalize w6.setCell ⟨gl, 0, none⟩ _ = w7 at HLe ⊢
        obtain ⟨e0, e1, e2, e3, e4, e5, e6, e7, er⟩ := rb_cells HLe.out.rb
        dsimp only at e0 e1 e2 e3 e4 e5 e6 e7
        have er1 := er 1
        have er3 := er 3
        have er6 := er 6
        clear er e0 e2 e4 e5 e7
        go_wp2_with (fail)
        go_region
        simp only [Exit.then]
        have hz1 := HLe.out.set HG.out HN.out 1 (.string (rest.extract n.toNat rest.size)) ⟨ctl, rest.extract n.toNat rest.size, first, left, false, code, .pas, begun⟩ rfl
        have hz2 := hz1.set HG.out HN.out 3 (.int .i64 (left - n)) ⟨ctl, rest.extract n.toNat rest.size, first, left - n, false, code, .pas, begun⟩ rfl
        have hz3 := hz2.set HG.out HN.out 6 (nextV g .frm) ⟨ctl, rest.extract n.toNat rest.size, first, left - n, false, code, .frm, begun⟩ rfl
        have HZ2 := Aside0.mk hz2
        have HZ3 := Aside0.mk hz3
        have f6_ := blk_frozen hz2.rb 6
        have c6_ := (blk_cell hz2.rb 6).trans (rfl : _ = some (nextV g .pas))
        clear hz1 hz2 hz3
        go_wp2_with (fail)
        go_ret
        refine ⟨(.slice A6 (l.length + 1) cp6), rfl, ?_⟩
        show Lp w0 W0 _ g gl _ _ (l ++ [⟨0, rest.extract 0 n.toNat⟩])
        first | exact HZ2.out | exact HZ2.out.drew | exact HZ2.out.drew.drew | exact HZ2.out.drew.drew.drew
    have C1 : decide (n > 0) = false := decide_eq_false hp
    have C1b : decide (0 < n) = false := decide_eq_false hp
    rw [if_neg hp]
    clear hp
    have HLd := Aside0.mk HL.out.drew
    go_enter Tryd.func36, Tryd.ntmps36
    go_wp2_with (fail)
    go_region
    simp only [Exit.then]
    go_wp2_with (fail)
    go_region
    simp only [Exit.then]
    have hz1 := HLd.out.set HG.out HN.out 1 (.string (rest.extract n.toNat rest.size)) ⟨ctl, rest.extract n.toNat rest.size, first, left, strange, code, .pas, begun⟩ rfl
    have hz2 := hz1.set HG.out HN.out 3 (.int .i64 (left - n)) ⟨ctl, rest.extract n.toNat rest.size, first, left - n, strange, code, .pas, begun⟩ rfl
    have hz3 := hz2.set HG.out HN.out 6 (nextV g .frm) ⟨ctl, rest.extract n.toNat rest.size, first, left - n, strange, code, .frm, begun⟩ rfl
    have HZ2 := Aside0.mk hz2
    have HZ3 := Aside0.mk hz3
    have f6_ := blk_frozen hz2.rb 6
    have c6_ := (blk_cell hz2.rb 6).trans (rfl : _ = some (nextV g .pas))
    clear hz1 hz2 hz3
    go_wp2_with (fail)
    go_ret
    refine ⟨v, rfl, ?_⟩
    show Lp w0 W0 _ g gl _ _ (l ++ [])
    rw [List.append_nil]
    first | exact HZ2.out | exact HZ2.out.drew | exact HZ2.out.drew.drew | exact HZ2.out.drew.drew.drew
  have E1 : decide (left - n > 0) = false := decide_eq_false hq
  have E2 : decide (0 < left - n) = false := decide_eq_false hq
  have E3 : decide (n < left) = false := decide_eq_false (by omega)
  rw [if_neg hq]
  clear hq
  by_cases hp : n > 0
  · have C1 : decide (n > 0) = true := decide_eq_true hp
    have C1b : decide (0 < n) = true := decide_eq_true hp
    rw [if_pos hp]
    clear hp
    cases strange
    rotate_left
    · rw [if_pos rfl]
      have HLd := Aside0.mk HL.out.drew
      go_enter Tryd.func36, Tryd.ntmps36
      go_wp2_with (fail)
      go_region
      simp only [Exit.then]
      go_wp2_with (fail)
      go_region
      simp only [Exit.then]
      have hz1 := HLd.out.set HG.out HN.out 1 (.string (rest.extract n.toNat rest.size)) ⟨ctl, rest.extract n.toNat rest.size, first, left, true, code, .pas, begun⟩ rfl
      have hz2 := hz1.set HG.out HN.out 3 (.int .i64 (left - n)) ⟨ctl, rest.extract n.toNat rest.size, first, left - n, true, code, .pas, begun⟩ rfl
      have hz3 := hz2.set HG.out HN.out 6 (nextV g .frm) ⟨ctl, rest.extract n.toNat rest.size, first, left - n, true, code, .frm, begun⟩ rfl
      have HZ2 := Aside0.mk hz2
      have HZ3 := Aside0.mk hz3
      have f6_ := blk_frozen hz2.rb 6
      have c6_ := (blk_cell hz2.rb 6).trans (rfl : _ = some (nextV g .pas))
      clear hz1 hz2 hz3
      go_wp2_with (fail)
      go_ret
      refine ⟨v, rfl, ?_⟩
      show Lp w0 W0 _ g gl _ _ (l ++ [])
      rw [List.append_nil]
      first | exact HZ3.out | exact HZ3.out.drew | exact HZ3.out.drew.drew | exact HZ3.out.drew.drew.drew
    · rw [if_neg (by simp)]
      obtain ⟨A, c, rfl⟩ := Kd.R_slice HL.out.rr
      have HLd := Aside0.mk HL.out.drew.drew
      go_enter Tryd.func36, Tryd.ntmps36
      go_wp2_with (fail)
      go_region
      simp only [Exit.then]
      go_wp2_with (fail)
      refine Calm.wp_region_calmC [(3, fun w_ => w_.cell? ⟨gl, 0, none⟩ = some (.slice A l.length c)), (7, fun w_ => w_.cell? ⟨g, 1, none⟩ = some (.string rest))] [0, 1, 2, 3, 4, 5, 6, 7, 8, 9, 10] [11, 12, 13, 14] (by kernel_rfl) (by kernel_rfl) (Calm.allC_cons ((blk_cell HLd.out.lb 0).trans rfl) (Calm.allC_cons ((rb_cells HLd.out.rb).2.1) Calm.allC_nil)) ?_
      repeat (first
        | (refine Calm.g_value (v := ?_) (a' := ?_) rfl rfl (by rfl) ?_ ?_ ?_; rotate_left; (· rintro w' hS'; (try simp only [Calm.SC_cons, Calm.SC_nil, Nat.reduceEqDiff, forall_const, false_implies, and_true, true_and] at hS'); (try obtain ⟨hS1, hS2⟩ := hS'); go_simp; with_reducible rfl); rotate_left; (· simp only [Act.put, List.setIfInBounds_toArray, List.set_cons_zero, List.set_cons_succ, i64_w, i32_w]; rfl)))
      refine Calm.g_nil ?_
      refine Calm.c_value (v := ?_) (w1 := ?_) (a' := ?_) rfl rfl (by rfl) ?_ ?_ ?_ ?_
      rotate_left
      rotate_left
      · go_simp; first | (refine And.intro ?_ ?_ <;> rfl) | rfl
      · repeat (first | exact Calm.okC_nil | (refine Calm.okC_cons (Or.inl (by decide +kernel)) ?_) | (refine Calm.okC_cons (Or.inr (by (first | exact (blk_cell (blk_alloc HLd.out.lb _) 0).trans rfl | assumption | (go_simp; done)))) ?_))
      rotate_left
      · simp only [Act.put, List.setIfInBounds_toArray, List.set_cons_zero, List.set_cons_succ, i64_w, i32_w]; rfl
      refine Calm.c_law rfl ?_
      refine Kd.R_append_step k39 (w0 := w0) w0.heap.size (by rfl) (.tmp 28) (.tmp 36) 33 39 (.agg #[.int .i64 0, .string (⟨#[]⟩ : ByteArray)]) 24 rfl Tryd.underlying33 info39_ rfl (by decide) (by omega) (.slice A l.length c) l ⟨0, rest.extract 0 n.toNat⟩ [.int .i64 0, .string (rest.extract 0 n.toNat)] (fun k => k ≠ g ∧ k ≠ gl ∧ W0.heap.size ≤ k) (fun _ => False) rfl rfl ?aP (fun _ hk => hk.elim) ?aF HLd.out.rr HLd.out.bel ?aS ?aL ?_
      case aP => exact k39_mkM _ _ _ _
      case aF => exact fun k hk => ⟨by have := blk_lt HLd.out.rb; omega, by have := blk_lt HLd.out.lb; omega, Nat.le_trans HLd.out.keep.1 hk⟩
      case aS => exact HLd.out.bel.size
      case aL => have := HS.out; omega
      intro v6 w6 hR6 hB6 hg6 hat
      have hcl := HLd.out.cellsl hg6
      obtain ⟨cl6, fl6⟩ := hcl
      obtain ⟨A6, cp6, rfl⟩ := Kd.R_slice hR6
      refine And.intro ?_ ?_
      · repeat (first | exact Calm.okC_nil | (refine Calm.okC_cons (Or.inl (by decide +kernel)) ?_) | (refine Calm.okC_cons (Or.inr (by (first | assumption | (go_simp; done)))) ?_))
      refine Calm.put_dst (a' := ?_) rfl ?_ ?_
      rotate_left
      · simp only [Act.put, List.setIfInBounds_toArray, List.set_cons_zero, List.set_cons_succ, i64_w, i32_w]; rfl
      refine Calm.c_value (v := ?_) (w1 := ?_) (a' := ?_) rfl rfl (by rfl) ?_ ?_ ?_ ?_
      rotate_left
      rotate_left
      · go_simp; first | (refine And.intro ?_ ?_ <;> rfl) | rfl
      · repeat (first | exact Calm.okC_nil | (refine Calm.okC_cons (Or.inl (by decide +kernel)) ?_) | (refine Calm.okC_cons (Or.inr (by (first | assumption | (go_simp; done)))) ?_))
      rotate_left
      · simp only [Act.put, List.setIfInBounds_toArray, List.set_cons_zero, List.set_cons_succ, i64_w, i32_w]; rfl
      refine Calm.c_store (w1 := ?_) rfl (by rfl) rfl ?_ ?_ ?_
      rotate_left
      · go_simp; rfl
      · repeat (first | exact Calm.okC_nil | (refine Calm.okC_cons (Or.inl (by decide +kernel)) ?_) | (refine Calm.okC_cons (Or.inr (by (first | assumption | (go_simp; done)))) ?_))
      refine Calm.h_nil ?_
      simp only [Exit.inBlock, Exit.then]
      have hle := HLd.out.appset HGL.out (Nat.le_trans HW0.out HGL.out) HN.out hR6 hB6 hg6
      rw [show (l ++ [(⟨0, rest.extract 0 n.toNat⟩ : S39)]).length = l.length + 1 by simp] at hle
      have HLe := Aside0.mk hle
      clear hle
      clear hR6 hB6 hg6 hat cl6 fl6 HLd
      generalize w6.setCell ⟨gl, 0, none⟩ _ = w7 at HLe ⊢
      obtain ⟨e0, e1, e2, e3, e4, e5, e6, e7, er⟩ := rb_cells HLe.out.rb
      dsimp only at e0 e1 e2 e3 e4 e5 e6 e7
      have er1 := er 1
      have er3 := er 3
      have er6 := er 6
      clear er e0 e2 e4 e5 e7
      go_wp2_with (fail)
      go_region
      simp only [Exit.then]
      have hz1 := HLe.out.set HG.out HN.out 1 (.string (rest.extract n.toNat rest.size)) ⟨ctl, rest.extract n.toNat rest.size, first, left, false, code, .pas, begun⟩ rfl
      have hz2 := hz1.set HG.out HN.out 3 (.int .i64 (left - n)) ⟨ctl, rest.extract n.toNat rest.size, first, left - n, false, code, .pas, begun⟩ rfl
      have hz3 := hz2.set HG.out HN.out 6 (nextV g .frm) ⟨ctl, rest.extract n.toNat rest.size, first, left - n, false, code, .frm, begun⟩ rfl
      have HZ2 := Aside0.mk hz2
      have HZ3 := Aside0.mk hz3
      have f6_ := blk_frozen hz2.rb 6
      have c6_ := (blk_cell hz2.rb 6).trans (rfl : _ = some (nextV g .pas))
      clear hz1 hz2 hz3
      go_wp2_with (fail)
      go_ret
      refine ⟨(.slice A6 (l.length + 1) cp6), rfl, ?_⟩
      show Lp w0 W0 _ g gl _ _ (l ++ [⟨0, rest.extract 0 n.toNat⟩])
      first | exact HZ3.out | exact HZ3.out.drew | exact HZ3.out.drew.drew | exact HZ3.out.drew.drew.drew
  have C1 : decide (n > 0) = false := decide_eq_false hp
  have C1b : decide (0 < n) = false := decide_eq_false hp
  rw [if_neg hp]
  clear hp
  have HLd := Aside0.mk HL.out.drew
  go_enter Tryd.func36, Tryd.ntmps36
  go_wp2_with (fail)
  go_region
  simp only [Exit.then]
  go_wp2_with (fail)
  go_region
  simp only [Exit.then]
  have hz1 := HLd.out.set HG.out HN.out 1 (.string (rest.extract n.toNat rest.size)) ⟨ctl, rest.extract n.toNat rest.size, first, left, strange, code, .pas, begun⟩ rfl
  have hz2 := hz1.set HG.out HN.out 3 (.int .i64 (left - n)) ⟨ctl, rest.extract n.toNat rest.size, first, left - n, strange, code, .pas, begun⟩ rfl
  have hz3 := hz2.set HG.out HN.out 6 (nextV g .frm) ⟨ctl, rest.extract n.toNat rest.size, first, left - n, strange, code, .frm, begun⟩ rfl
  have HZ2 := Aside0.mk hz2
  have HZ3 := Aside0.mk hz3
  have f6_ := blk_frozen hz2.rb 6
  have c6_ := (blk_cell hz2.rb 6).trans (rfl : _ = some (nextV g .pas))
  clear hz1 hz2 hz3
  go_wp2_with (fail)
  go_ret
  refine ⟨v, rfl, ?_⟩
  show Lp w0 W0 _ g gl _ _ (l ++ [])
  rw [List.append_nil]
  first | exact HZ3.out | exact HZ3.out.drew | exact HZ3.out.drew.drew | exact HZ3.out.drew.drew.drew
end Go.Proofs.YtnnmdocdiedgiaaDoor.Reader
