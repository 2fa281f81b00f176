/- h3: New, Feed. -/
import Derived.Test.YtnnmdocdiedgiaaDoorRuns
namespace Go.Proofs.YtnnmdocdiedgiaaDoor.Reader
open Go.RowKit Go.Proofs.YtnnmdocdiedgiaaDoorW.PrintWords Go.Proofs.YtnnmdocdiedgiaaDoorW.PrintLast Go.Proofs.YtnnmdocdiedgiaaDoorW.PrintMore Go.Proofs.YtnnmdocdiedgiaaDoor.PH3Writes Go.Proofs.YtnnmdocdiedgiaaDoor Go.Proofs.YtnnmdocdiedgiaaDoor.Pure Go.Proofs.YtnnmdocdiedgiaaDoor.Pairs
set_option linter.unusedVariables false
set_option linter.unusedSimpArgs false
attribute [local go_sem] max2_int min2_int max_two min_two
def initR (ctl : Bool) : RS := ⟨ctl, ⟨#[]⟩, false, 0, false, 0, if ctl then .beg else .frm, !ctl⟩
set_option maxHeartbeats 8000000 in
set_option maxRecDepth 100000 in
theorem new_c (ctl : Bool) (W : World) : Calls Tryd.prog 14 #[.bool ctl] W fun e w' => ∃ g, e = .returned (.pointer (some ⟨g, 0, none⟩)) ∧ W.heap.size ≤ g ∧ w'.heap[g]? = some (.cells (rcells g (initR ctl)) 60 (0, 0)) ∧ Below W.heap.size W w' := by
  cases ctl
  · go_enter Tryd.func14, Tryd.ntmps14
    go_wp2_with (first | ((with_reducible refine gate_dst (N := 8) rfl ?_); refine box_event ?hg (N := 8) ?hd (cs := #[.bool false, .string (⟨#[]⟩ : ByteArray), .bool false, .int .i64 0, .bool false, .int .i64 0, .nilFunc, .bool true]) (t := 60) ?hr ?_; (case hd => rfl); (case hg => rfl); (case hr => first | (go_simp; done) | (go_simp; rfl)); intro gb hgb w1 hbox hb; have hc6 := (show _ = some (Value.nilFunc) from (blk_cell hbox 6).trans rfl); have hf6 := blk_frozen hbox 6; have HB1 := Aside0.mk hb; have HBX := Aside0.mk hbox; have HGB := Aside0.mk hgb; clear hgb hbox hb))
    go_ret
    exact ⟨gb, rfl, by first | exact HGB.out | exact Nat.le_of_eq HGB.out | exact Nat.le_of_eq HGB.out.symm, by have h := blk_set HBX.out 6 (nextV gb .frm); exact h, below_set HB1.out (by first | exact HGB.out | exact Nat.le_of_eq HGB.out | exact Nat.le_of_eq HGB.out.symm)⟩
  · go_enter Tryd.func14, Tryd.ntmps14
    go_wp2_with (first | ((with_reducible refine gate_dst (N := 8) rfl ?_); refine box_event ?hg (N := 8) ?hd (cs := #[.bool true, .string (⟨#[]⟩ : ByteArray), .bool false, .int .i64 0, .bool false, .int .i64 0, .nilFunc, .bool false]) (t := 60) ?hr ?_; (case hd => rfl); (case hg => rfl); (case hr => first | (go_simp; done) | (go_simp; rfl)); intro gb hgb w1 hbox hb; have hc6 := (show _ = some (Value.nilFunc) from (blk_cell hbox 6).trans rfl); have hf6 := blk_frozen hbox 6; have HB1 := Aside0.mk hb; have HBX := Aside0.mk hbox; have HGB := Aside0.mk hgb; clear hgb hbox hb))
    go_ret
    exact ⟨gb, rfl, by first | exact HGB.out | exact Nat.le_of_eq HGB.out | exact Nat.le_of_eq HGB.out.symm, by have h := blk_set (blk_set HBX.out 6 (nextV gb .frm)) 6 (nextV gb .beg); exact h, below_set (below_set HB1.out (by first | exact HGB.out | exact Nat.le_of_eq HGB.out | exact Nat.le_of_eq HGB.out.symm)) (by first | exact HGB.out | exact Nat.le_of_eq HGB.out | exact Nat.le_of_eq HGB.out.symm)⟩
/-- A measure of what is left. -/
def msr (W : World) (g : Nat) : Nat := (match W.cell? ⟨g, 1, none⟩ with | some (.string s) => 2 * s.size | _ => 0) + (match W.cell? ⟨g, 6, none⟩ with | some (.func (.func f) _ _) => (if f = 36 then 1 else 0) | _ => 0)
theorem msr_eq {W : World} {g : Nat} {r : RS} (hb : W.heap[g]? = some (.cells (rcells g r) 60 (0, 0))) : msr W g = 2 * r.rest.size + mdw r.md := by
  obtain ⟨c0, c1, c2, c3, c4, c5, c6, c7, fr⟩ := rb_cells hb
  unfold msr
  rw [c1, c6]
  cases r.md <;> rfl
def fnOf : Md → Nat
  | .beg => 28
  | .frm => 27
  | .pas => 36
theorem step_c (g gl : Nat) (r r2 : RS) (l1 : List S39) (b : Bool) (v : Value) (l : List S39) (w0 W0 W : World) (h : Lp w0 W0 W g gl r v l) (hT : Kd.C (Kd.int .i64) w0 (some ⟨0, 0, none⟩) 4 ([1, 2, 4, 8] : List Int)) (hg : w0.heap.size ≤ g) (hgl : W0.heap.size ≤ gl) (hne : g ≠ gl) (hw0 : w0.heap.size ≤ W0.heap.size) (hi : Inv r) (hs : l.length + r.rest.size ≤ 100000) (hst : stepS r = (r2, l1, b)) :
    Calls Tryd.prog (fnOf r.md) #[.pointer (some ⟨g, 0, none⟩), .pointer (some ⟨gl, 0, none⟩)] W fun e w' => ∃ v', e = .returned (.bool b) ∧ Lp w0 W0 w' g gl r2 v' (l ++ l1) := by
  unfold stepS at hst
  cases hmd : r.md with
  | beg =>
    rw [hmd] at hst
    have h1 := begin_c g gl r v l w0 W0 W h hg hne
    dsimp only at hst
    rw [hst] at h1
    exact h1
  | frm =>
    rw [hmd] at hst
    have h1 := frame_c g gl r v l w0 W0 W h hT hg hgl hne hw0 hmd hs
    dsimp only at hst
    rw [hst] at h1
    exact h1
  | pas =>
    rw [hmd] at hst
    have h1 := pass_c g gl r v l w0 W0 W h hg hgl hne hw0 hmd hi.1 hi.2 hs
    dsimp only at hst
    rw [hst] at h1
    exact h1
/-- What Feed leaves. -/
structure Fed (w0 W w' : World) (g : Nat) (r' : RS) (v : Value) (l : List S39) : Prop where
  rb : w'.heap[g]? = some (.cells (rcells g r') 60 (0, 0))
  rr : Kd.R k39 39 w' w0.heap.size (fun k => k ≠ g ∧ W.heap.size ≤ k) v l
  bel : Below w0.heap.size w0 w'
  keep : KeepBut W w' g none
set_option maxHeartbeats 8000000 in
set_option maxRecDepth 100000 in
theorem feed_bad (g : Nat) (r : RS) (s : ByteArray) (W : World) (hb : W.heap[g]? = some (.cells (rcells g r) 60 (0, 0))) (hc : r.code ≠ 0) :
    Calls Tryd.prog 15 #[.pointer (some ⟨g, 0, none⟩), .string s] W fun e w' => e = .returned (.tuple #[.slice none 0 0, .int .i64 r.code]) ∧ Drawn0 W w' := by
  obtain ⟨c0, c1, c2, c3, c4, c5, c6, c7, fr⟩ := rb_cells hb
  obtain ⟨ctl, rest, first, left, strange, code, md, begun⟩ := r
  dsimp only at c0 c1 c2 c3 c4 c5 c6 c7 hc
  have D1 : (code != 0) = true := bne_iff_ne.mpr hc
  have D1b : (code == 0) = false := beq_eq_false_iff_ne.mpr hc
  clear hb hc fr c0 c1 c2 c3 c4 c6 c7
  go_enter Tryd.func15, Tryd.ntmps15
  go_wp2_with (fail)
  go_region
  all_goals go_wp2_with (fail)
  go_ret2
  exact ⟨rfl, by repeat (first | exact Drawn0.refl _ | apply Drawn0.step)⟩
set_option maxHeartbeats 8000000 in
set_option maxRecDepth 100000 in
theorem feed_c (g : Nat) (r : RS) (s : ByteArray) (l : List S39) (r' : RS) (w0 W : World) (hb : W.heap[g]? = some (.cells (rcells g r) 60 (0, 0))) (hg : w0.heap.size ≤ g) (hB : Below w0.heap.size w0 W)
    (hT : Kd.C (Kd.int .i64) w0 (some ⟨0, 0, none⟩) 4 ([1, 2, 4, 8] : List Int)) (hc : r.code = 0) (hi : Inv r) (hr : Runs { r with rest := r.rest ++ s } l r') (hz : r.rest.size + s.size ≤ 100000) :
    Calls Tryd.prog 15 #[.pointer (some ⟨g, 0, none⟩), .string s] W fun e w' => ∃ v, e = .returned (.tuple #[v, .int .i64 r'.code]) ∧ Fed w0 W w' g r' v l := by
  obtain ⟨c0, c1, c2, c3, c4, c5, c6, c7, fr⟩ := rb_cells hb
  have H0 := Aside0.mk hb
  have hgW := blk_lt hb
  obtain ⟨ctl, rest, first, left, strange, code, md, begun⟩ := r
  dsimp only at c0 c1 c2 c3 c4 c5 c6 c7 hc hi hr hz
  subst hc
  have f1 := fr 1
  have hz1 := eq_true (show rest.size + s.size ≤ 9223372036854775807 by omega)
  have hz2 : decide (rest.size + s.size ≤ 9223372036854775807) = true := decide_eq_true (by omega)
  have hz3 : (9223372036854775807 < rest.size + s.size) = False := eq_false (by omega)
  have HG := Aside0.mk hg
  have HB := Aside0.mk hB
  have HT := Aside0.mk hT
  have HI := Aside0.mk hi
  have HR := Aside0.mk hr
  have HZ := Aside0.mk hz
  have HGW := Aside0.mk hgW
  clear hb hg hB hT hi hr hz hgW fr c0 c2 c3 c4 c6 c7
  go_enter Tryd.func15, Tryd.ntmps15
  go_wp2_with (fail)
  have hlp : Lp w0 W ((W.setCell ⟨g, 1, none⟩ (.string (rest ++ s))).alloc (.cells #[.slice none 0 0] 33)) g W.heap.size ⟨ctl, rest ++ s, first, left, strange, 0, md, begun⟩ (.slice none 0 0) [] := by
    have h1 : (W.setCell ⟨g, 1, none⟩ (.string (rest ++ s))).heap[g]? = some (.cells (rcells g ⟨ctl, rest ++ s, first, left, strange, 0, md, begun⟩) 60 (0, 0)) := blk_set H0.out 1 (.string (rest ++ s))
    have hsz : (W.setCell ⟨g, 1, none⟩ (.string (rest ++ s))).heap.size = W.heap.size := by simp [World.setCell]
    have h2 := blk_new (W.setCell ⟨g, 1, none⟩ (.string (rest ++ s))) (.cells #[.slice none 0 0] 33)
    rw [hsz] at h2
    exact ⟨blk_alloc h1 _, h2, Kd.R_nil _ _ _ _ _, below_alloc (below_set HB.out HG.out) _, keep_alloc ((KeepBut.refl _ _ _).set_ 1 _) _⟩
  have HL0 := Aside0.mk hlp
  clear hlp c1 f1 hz1 hz2 hz3 c5
  have HNE := Aside0.mk (show g ≠ W.heap.size from Nat.ne_of_lt HGW.out)
  obtain ⟨gl, hgl⟩ : ∃ x, W.heap.size = x := ⟨_, rfl⟩
  rw [hgl] at HL0 HNE ⊢
  have HGL := Aside0.mk (show W.heap.size ≤ gl from Nat.le_of_eq hgl)
  have HW0 := Aside0.mk HB.out.size
  clear hgl
  go_loopw [] (fun wr => ∃ (r1 : RS) (v : Value) (pre l2 : List S39), Aside0 (Lp w0 W wr g gl r1 v pre) ∧ Aside0 (Runs r1 l2 r' ∧ pre ++ l2 = l ∧ pre.length + r1.rest.size ≤ 100000 ∧ Inv r1)) (fun wr => msr wr g)
  case atStart => exact ⟨_, _, [], l, HL0, ⟨HR.out, rfl, by have := HZ.out; simp only [ByteArray.size_append, List.length_nil]; omega, HI.out⟩⟩
  case round =>
    clear HL0
    obtain ⟨r1, v, pre, l2, HL, HX⟩ := hrel
    obtain ⟨hrun, hpre, hsz, hinv⟩ := HX.out
    obtain ⟨r2, l1, b, hst, hor⟩ := runs_open hrun
    have hstp := stepS_stp r1 hinv
    rw [hst] at hstp
    have hcall := step_c g gl r1 r2 l1 b v pre w0 W wr HL.out HT.out HG.out HGL.out HNE.out HW0.out hinv hsz hst
    obtain ⟨-, -, -, -, -, -, hc6, -, -⟩ := rb_cells HL.out.rb
    have HM := Aside0.mk (msr_eq HL.out.rb)
    have HSTP := Aside0.mk hstp
    have HPRE := Aside0.mk hpre
    have HSZ := Aside0.mk hsz
    clear HX hrun hpre hsz hinv hst hstp
    rcases hmd : r1.md with _ | _ | _
    · have c6 : wr.cell? ⟨g, 6, none⟩ = some (.func (.func 28) #[.pointer (some ⟨g, 0, none⟩)] #[]) := by rw [hc6, hmd]; rfl
      rw [hmd] at hcall
      have HCL := Aside0.mk (show Calls Tryd.prog 28 #[.pointer (some ⟨g, 0, none⟩), .pointer (some ⟨gl, 0, none⟩)] wr fun e w' => ∃ v', e = .returned (.bool b) ∧ Lp w0 W w' g gl r2 v' (pre ++ l1) from hcall)
      clear hcall hc6 hmd
      rcases hor with ⟨rfl, rfl, rfl⟩ | ⟨rfl, l3, rfl, hn⟩
      · go_wp2_with (go_at_call 28; (with_reducible refine (HCL.out).mono ?_); rintro e_ w2 ⟨v2, rfl, hl2⟩; have HL2 := Aside0.mk hl2; have cl := (blk_cell hl2.lb 0).trans (rfl : _ = some v2); obtain ⟨-, -, -, -, -, d5, -, -, -⟩ := rb_cells hl2.rb; obtain ⟨A2, c2, rfl⟩ := Kd.R_slice hl2.rr; clear hl2)
        go_region
        all_goals go_wp2_with (fail)
        go_ret2
        refine ⟨.slice A2 (pre.length + l2.length) c2, rfl, ?_⟩
        have hl2 : Lp w0 W w2.drew g gl r' (.slice A2 (pre.length + l2.length) c2) (pre ++ l2) := by rw [← List.length_append]; exact HL2.out.drew
        rw [← HPRE.out]
        exact ⟨hl2.rb, Kd.R_mono hl2.rr (fun k hk => ⟨hk.1, hk.2.2⟩), hl2.bel, hl2.keep⟩
      · have HN := Aside0.mk hn
        clear hn
        go_wp2_with (go_at_call 28; (with_reducible refine (HCL.out).mono ?_); rintro e_ w2 ⟨v2, rfl, hl2⟩; have HL2 := Aside0.mk hl2; clear hl2)
        go_roundw
        case rel => exact ⟨r2, v2, pre ++ l1, l3, HL2, ⟨HN.out, by rw [List.append_assoc]; exact HPRE.out, by have h1 := HSTP.out.len; have h2 := HSZ.out; rw [List.length_append]; omega, HSTP.out.inv⟩⟩
        case measure => have h1 := msr_eq HL2.out.rb; have h2 := HM.out; have h3 := HSTP.out.less rfl; omega
    · have c6 : wr.cell? ⟨g, 6, none⟩ = some (.func (.func 27) #[.pointer (some ⟨g, 0, none⟩)] #[]) := by rw [hc6, hmd]; rfl
      rw [hmd] at hcall
      have HCL := Aside0.mk (show Calls Tryd.prog 27 #[.pointer (some ⟨g, 0, none⟩), .pointer (some ⟨gl, 0, none⟩)] wr fun e w' => ∃ v', e = .returned (.bool b) ∧ Lp w0 W w' g gl r2 v' (pre ++ l1) from hcall)
      clear hcall hc6 hmd
      rcases hor with ⟨rfl, rfl, rfl⟩ | ⟨rfl, l3, rfl, hn⟩
      · go_wp2_with (go_at_call 27; (with_reducible refine (HCL.out).mono ?_); rintro e_ w2 ⟨v2, rfl, hl2⟩; have HL2 := Aside0.mk hl2; have cl := (blk_cell hl2.lb 0).trans (rfl : _ = some v2); obtain ⟨-, -, -, -, -, d5, -, -, -⟩ := rb_cells hl2.rb; obtain ⟨A2, c2, rfl⟩ := Kd.R_slice hl2.rr; clear hl2)
        go_region
        all_goals go_wp2_with (fail)
        go_ret2
        refine ⟨.slice A2 (pre.length + l2.length) c2, rfl, ?_⟩
        have hl2 : Lp w0 W w2.drew g gl r' (.slice A2 (pre.length + l2.length) c2) (pre ++ l2) := by rw [← List.length_append]; exact HL2.out.drew
        rw [← HPRE.out]
        exact ⟨hl2.rb, Kd.R_mono hl2.rr (fun k hk => ⟨hk.1, hk.2.2⟩), hl2.bel, hl2.keep⟩
      · have HN := Aside0.mk hn
        clear hn
        go_wp2_with (go_at_call 27; (with_reducible refine (HCL.out).mono ?_); rintro e_ w2 ⟨v2, rfl, hl2⟩; have HL2 := Aside0.mk hl2; clear hl2)
        go_roundw
        case rel => exact ⟨r2, v2, pre ++ l1, l3, HL2, ⟨HN.out, by rw [List.append_assoc]; exact HPRE.out, by have h1 := HSTP.out.len; have h2 := HSZ.out; rw [List.length_append]; omega, HSTP.out.inv⟩⟩
        case measure => have h1 := msr_eq HL2.out.rb; have h2 := HM.out; have h3 := HSTP.out.less rfl; omega
    · have c6 : wr.cell? ⟨g, 6, none⟩ = some (.func (.func 36) #[.pointer (some ⟨g, 0, none⟩)] #[]) := by rw [hc6, hmd]; rfl
      rw [hmd] at hcall
      have HCL := Aside0.mk (show Calls Tryd.prog 36 #[.pointer (some ⟨g, 0, none⟩), .pointer (some ⟨gl, 0, none⟩)] wr fun e w' => ∃ v', e = .returned (.bool b) ∧ Lp w0 W w' g gl r2 v' (pre ++ l1) from hcall)
      clear hcall hc6 hmd
      rcases hor with ⟨rfl, rfl, rfl⟩ | ⟨rfl, l3, rfl, hn⟩
      · go_wp2_with (go_at_call 36; (with_reducible refine (HCL.out).mono ?_); rintro e_ w2 ⟨v2, rfl, hl2⟩; have HL2 := Aside0.mk hl2; have cl := (blk_cell hl2.lb 0).trans (rfl : _ = some v2); obtain ⟨-, -, -, -, -, d5, -, -, -⟩ := rb_cells hl2.rb; obtain ⟨A2, c2, rfl⟩ := Kd.R_slice hl2.rr; clear hl2)
        go_region
        all_goals go_wp2_with (fail)
        go_ret2
        refine ⟨.slice A2 (pre.length + l2.length) c2, rfl, ?_⟩
        have hl2 : Lp w0 W w2.drew g gl r' (.slice A2 (pre.length + l2.length) c2) (pre ++ l2) := by rw [← List.length_append]; exact HL2.out.drew
        rw [← HPRE.out]
        exact ⟨hl2.rb, Kd.R_mono hl2.rr (fun k hk => ⟨hk.1, hk.2.2⟩), hl2.bel, hl2.keep⟩
      · have HN := Aside0.mk hn
        clear hn
        go_wp2_with (go_at_call 36; (with_reducible refine (HCL.out).mono ?_); rintro e_ w2 ⟨v2, rfl, hl2⟩; have HL2 := Aside0.mk hl2; clear hl2)
        go_roundw
        case rel => exact ⟨r2, v2, pre ++ l1, l3, HL2, ⟨HN.out, by rw [List.append_assoc]; exact HPRE.out, by have h1 := HSTP.out.len; have h2 := HSZ.out; rw [List.length_append]; omega, HSTP.out.inv⟩⟩
        case measure => have h1 := msr_eq HL2.out.rb; have h2 := HM.out; have h3 := HSTP.out.less rfl; omega
end Go.Proofs.YtnnmdocdiedgiaaDoor.Reader
