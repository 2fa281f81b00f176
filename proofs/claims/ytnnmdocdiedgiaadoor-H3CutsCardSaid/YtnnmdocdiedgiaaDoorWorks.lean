/- h3: frames that are read; works. -/
import Derived.Test.YtnnmdocdiedgiaaDoorFeed
namespace Go.Proofs.YtnnmdocdiedgiaaDoor.Reader
open Go.RowKit Go.Proofs.YtnnmdocdiedgiaaDoorW.PrintWords Go.Proofs.YtnnmdocdiedgiaaDoorW.PrintLast Go.Proofs.YtnnmdocdiedgiaaDoorW.PrintMore Go.Proofs.YtnnmdocdiedgiaaDoor.PH3Writes Go.Proofs.YtnnmdocdiedgiaaDoor Go.Proofs.YtnnmdocdiedgiaaDoor.Pure Go.Proofs.YtnnmdocdiedgiaaDoor.Pairs Go.Proofs.YtnnmdocdiedgiaaDoor.Hand
set_option linter.unusedVariables false
set_option linter.unusedSimpArgs false
attribute [local go_sem] max2_int min2_int max_two min_two
theorem vget_put (n : Int) (more : ByteArray) (h0 : 0 ≤ n) (h1 : n ≤ 4611686018427387903) : vget (vput n ++ more) = (n, (vsize n : Int), 0) := by
  have hf := form_ok n h0 (by omega)
  refine vget_whole _ n hf.1 ?_ (begins_append n more)
  rw [ByteArray.size_append, vput_size]
  omega
theorem ext_tail (a b : ByteArray) (i j : Nat) (hi : i = a.size) (hj : j = a.size + b.size) : (a ++ b).extract i j = b := ByteArray.extract_append_eq_right hi hj
theorem ext_front (a b : ByteArray) (i : Nat) (hi : i = a.size) : (a ++ b).extract 0 i = a := ByteArray.extract_append_eq_left hi
theorem cut_put (n : Int) (more : ByteArray) : (vput n ++ more).extract (vsize n : Int).toNat (vput n ++ more).size = more := by
  have h := vput_size n
  exact ext_tail _ _ _ _ (by omega) (by rw [ByteArray.size_append])
theorem frm_frame (r : RS) (kind : Int) (d t : ByteArray) (hr : r.rest = framev kind d ++ t) (h0 : 0 ≤ kind) (h1 : kind ≤ 4611686018427387903) (hd : d.size ≤ 140737488351232) : frmS r = frmT r kind d.size (d ++ t) := by
  have e1 : r.rest = vput kind ++ (vput (d.size : Int) ++ (d ++ t)) := by
    rw [hr, framev, if_pos ⟨h0, h1⟩, vtext, ByteArray.append_assoc, ByteArray.append_assoc]
  have g1 := vget_put kind (vput (d.size : Int) ++ (d ++ t)) h0 h1
  have g2 := vget_put (d.size : Int) (d ++ t) (by omega) (by omega)
  have c1 := cut_put kind (vput (d.size : Int) ++ (d ++ t))
  have c3 : (vput kind ++ (vput (d.size : Int) ++ (d ++ t))).extract ((vsize kind : Int) + (vsize (d.size : Int) : Int)).toNat (vput kind ++ (vput (d.size : Int) ++ (d ++ t))).size = d ++ t := by
    have k1 := vput_size kind
    have k2 := vput_size (d.size : Int)
    rw [← ByteArray.append_assoc]
    exact ext_tail _ _ _ _ (by rw [ByteArray.size_append]; omega) (by rw [ByteArray.size_append])
  unfold frmS
  rw [e1, g1]
  dsimp only
  rw [c1, g2]
  dsimp only
  rw [if_neg (by simp), if_neg (by simp), c3]
theorem frm_empty (r : RS) (h : r.rest.size = 0) : frmS r = (r, [], false) := by
  unfold frmS
  rw [if_pos]
  have : vget r.rest = (0, 0, 1) := by simp [vget, h]
  rw [this]
  simp
/-- A frame that is told as a whole. -/
theorem frmT_whole (r : RS) (kind : Int) (d t : ByteArray) (hk : kind = 1 ∨ kind = 4 ∨ kind = 7) (hp : plc r.ctl r.first kind = 0) (hd : d.size ≤ 4096) (hc : cont kind d = 0) : frmT r kind d.size (d ++ t) = ({ r with rest := t, first := true }, [⟨kind, d⟩], true) := by
  have e1 : (d ++ t).extract 0 (d.size : Int).toNat = d := ext_front _ _ _ (by omega)
  have e2 : (d ++ t).extract (d.size : Int).toNat (d ++ t).size = t := ext_tail _ _ _ _ (by omega) (by rw [ByteArray.size_append])
  unfold frmT
  rw [if_neg (by simp [hp]), if_neg (by omega), if_neg (by omega), if_neg (by rw [ByteArray.size_append]; omega), e1, e2, if_neg (by simp [hc])]
theorem frmT_pass (r : RS) (kind size : Int) (r2 : ByteArray) (hk : kind ≠ 1 ∧ kind ≠ 4 ∧ kind ≠ 7) (hp : plc r.ctl r.first kind = 0) : frmT r kind size r2 = ({ r with rest := r2, left := size, strange := kind != 0, md := .pas }, [], true) := by
  unfold frmT
  rw [if_neg (by simp [hp]), if_pos hk]
theorem cont1 (d : ByteArray) : cont 1 d = 0 := by
  unfold cont
  rw [if_neg (by decide), if_neg (by decide)]
/-- A step, and the rest. -/
theorem runs_step {r r1 r2 : RS} {l1 l2 : List S39} (h : stepS r = (r1, l1, true)) (hn : Runs r1 l2 r2) (l : List S39) (hl : l = l1 ++ l2) : Runs r l r2 := by
  subst hl
  exact .more h hn
theorem works1 : Runs { initR false with rest := (initR false).rest ++ (⟨#[1, 2, 130, 132]⟩ : ByteArray) } [⟨1, (⟨#[130, 132]⟩ : ByteArray)⟩] ⟨false, (⟨#[]⟩ : ByteArray), true, 0, false, 0, .frm, true⟩ := by
  refine runs_step (r1 := ⟨false, (⟨#[]⟩ : ByteArray), true, 0, false, 0, .frm, true⟩) (l1 := [⟨1, (⟨#[130, 132]⟩ : ByteArray)⟩]) (l2 := []) ?_ (.stop ?_) _ rfl
  · have h := frm_frame { initR false with rest := (initR false).rest ++ (⟨#[1, 2, 130, 132]⟩ : ByteArray) } 1 (⟨#[130, 132]⟩ : ByteArray) (⟨#[]⟩ : ByteArray) (by decide +kernel) (by decide) (by decide) (by decide)
    refine h.trans ?_
    exact frmT_whole _ 1 _ _ (.inl rfl) rfl (by decide) (cont1 _)
  · exact frm_empty _ rfl
theorem works2 : Runs { initR true with rest := (initR true).rest ++ (⟨#[0, 7, 1, 0]⟩ : ByteArray) } [] ⟨true, (⟨#[7, 1, 0]⟩ : ByteArray), false, 0, false, 266, .frm, true⟩ := by
  refine runs_step (r1 := ⟨true, (⟨#[7, 1, 0]⟩ : ByteArray), false, 0, false, 0, .frm, true⟩) (l1 := []) (l2 := []) ?_ (.stop ?_) _ rfl
  · have e1 : ((⟨#[0, 7, 1, 0]⟩ : ByteArray)).extract 1 4 = (⟨#[7, 1, 0]⟩ : ByteArray) := by decide +kernel
    show begS _ = _
    unfold begS
    rw [if_neg (by decide +kernel), if_neg (by decide +kernel)]
    show (({ ctl := true, rest := ((⟨#[]⟩ : ByteArray) ++ (⟨#[0, 7, 1, 0]⟩ : ByteArray)).extract 1 _, first := false, left := 0, strange := false, code := 0, md := .frm, begun := true } : RS), [], true) = _
    rw [show ((⟨#[]⟩ : ByteArray) ++ (⟨#[0, 7, 1, 0]⟩ : ByteArray)).extract 1 ((initR true).rest ++ (⟨#[0, 7, 1, 0]⟩ : ByteArray)).size = (⟨#[7, 1, 0]⟩ : ByteArray) by decide +kernel]
  · have h := frm_frame ⟨true, (⟨#[7, 1, 0]⟩ : ByteArray), false, 0, false, 0, .frm, true⟩ 7 (⟨#[0]⟩ : ByteArray) (⟨#[]⟩ : ByteArray) (by decide +kernel) (by decide) (by decide) (by decide)
    refine h.trans ?_
    unfold frmT
    rw [if_pos (by decide)]
    rfl
theorem inv_init (c : Bool) : Inv (initR c) := ⟨Int.le_refl _, by show (0 : Int) ≤ _; decide⟩
/-- An event of a row. -/
theorem ev_at {W : World} {base n c : Nat} {A : Option Addr} {ok : Nat → Prop} {xs : List S39} (h : Kd.R k39 39 W base ok (.slice A n c) xs) (i : Int) (h0 : 0 ≤ i) (h1 : i < xs.length) : ∃ ad, A = some ad ∧ W.cell? (ad.add (i.toNat * 2)) = some (.int .i64 (xs.getD i.toNat z39).f0) ∧ W.cell? ⟨(ad.add (i.toNat * 2)).block, (ad.add (i.toNat * 2)).off + 1, none⟩ = some (.string (xs.getD i.toNat z39).f1) := by
  obtain ⟨_, _, hC⟩ := Kd.R_reads' h
  obtain ⟨ad, c2, e2, _, hK2, hc2⟩ := Kd.C_get hC z39 i h0 h1
  have hc : ∀ j u, c2[j]? = some u → W.cell? (ad.add (i.toNat * 2 + j)) = some u := hc2
  obtain rfl := k39_open hK2
  exact ⟨ad, e2, hc 0 _ rfl, by rw [← add_field _ _ 1 (by omega)]; exact hc 1 _ rfl⟩
theorem one_form {W : World} {base : Nat} {ok : Nat → Prop} {v : Value} {x : S39} (h : Kd.R k39 39 W base ok v [x]) : ∃ gb cap, v = .slice (some ⟨gb, 0, none⟩) 1 cap := by
  obtain ⟨gb, cap, rfl, _, _, _⟩ := Kd.R_form h (by simp)
  exact ⟨gb, cap, rfl⟩
theorem one_cells {W : World} {base gb cap : Nat} {ok : Nat → Prop} {x : S39} (h : Kd.R k39 39 W base ok (.slice (some ⟨gb, 0, none⟩) 1 cap) [x]) : W.cell? ⟨gb, 0, none⟩ = some (.int .i64 x.f0) ∧ W.cell? ⟨gb, 1, none⟩ = some (.string x.f1) := by
  obtain ⟨_, _, hC⟩ := Kd.R_reads' h
  obtain ⟨ad, c, e, _, hK, hcell⟩ := Kd.C_get hC z39 0 (by decide) (by simp)
  obtain rfl : (⟨gb, 0, none⟩ : Addr) = ad := Option.some.inj e
  obtain rfl := k39_open hK
  exact ⟨by simpa [Addr.add] using hcell 0 _ rfl, by simpa [Addr.add] using hcell 1 _ rfl⟩
set_option maxHeartbeats 8000000 in
set_option maxRecDepth 100000 in
theorem works_c (w : World) (hT : Kd.C (Kd.int .i64) w (some ⟨0, 0, none⟩) 4 ([1, 2, 4, 8] : List Int)) :
    Calls Tryd.prog 13 #[] w fun e w' => e = .returned (.bool true) ∧ Below w.heap.size w w' := by
  obtain ⟨kf, hkf⟩ := (frame_ev 0 (⟨#[97]⟩ : ByteArray) (by decide)).rounds
  rw [show framev 0 (⟨#[97]⟩ : ByteArray) = (⟨#[0, 1, 97]⟩ : ByteArray) by decide +kernel] at hkf
  have HF := Aside0.mk hkf
  have HT := Aside0.mk hT
  clear hT hkf
  go_enter Tryd.func13, Tryd.ntmps13
  go_wp2_with (first | (go_at_call 14; (with_reducible refine (new_c false _).mono ?_); rintro e_ w1 ⟨g1, rfl, hg1, hb1, hB1⟩; have HG1 := Aside0.mk hg1; have HB1 := Aside0.mk hb1; have HL1 := Aside0.mk hB1; clear hg1 hb1 hB1) | (go_at_call 14; (with_reducible refine (new_c true _).mono ?_); rintro e_ w2 ⟨g2, rfl, hg2, hb2, hB2⟩; have HNE := Aside0.mk (show g1 ≠ g2 from Nat.ne_of_lt (Nat.lt_of_lt_of_le (blk_lt HB1.out) hg2)); have HG2 := Aside0.mk (Nat.le_trans HL1.out.size hg2); have HB2 := Aside0.mk hb2; have HB1b := Aside0.mk (blk_below HB1.out hB2); have HL2 := Aside0.mk (below_step HL1.out hB2); clear hg2 hb2 hB2 HB1 HL1))
  go_at_call 15
  (with_reducible refine (feed_c g1 (initR false) _ _ _ w _ HB1b.out HG1.out HL2.out HT.out rfl (inv_init false) works1 (by decide)).mono ?_)
  rintro e_ w3 ⟨v3, rfl, hf3⟩
  obtain ⟨ga, ca, rfl⟩ := one_form hf3.rr
  have HF3 := Aside0.mk hf3
  have HB2b := Aside0.mk (hf3.keep.blk HB2.out HNE.out.symm (by simp))
  clear hf3
  go_wp2_with (fail)
  go_at_call 15
  (with_reducible refine (feed_c g2 (initR true) _ _ _ w _ HB2b.out HG2.out HF3.out.bel HT.out rfl (inv_init true) works2 (by decide)).mono ?_)
  rintro e_ w4 ⟨v4, rfl, hf4⟩
  obtain ⟨A4, c4, rfl⟩ := Kd.R_slice hf4.rr
  obtain ⟨x0, x1⟩ := one_cells (Kd.R_keep (Kd.R_bound HF3.out.rr) hf4.keep (fun k hk he => by subst he; have h1 := hk.1.2; have h2 := blk_lt HB2.out; omega))
  dsimp only at x0 x1
  have HF4 := Aside0.mk hf4
  clear hf4
  go_wp2_with (go_at_call 10; (with_reducible refine (h3_Frame.calls kf 0 (⟨#[97]⟩ : ByteArray) _ _ (Kd.C_below HT.out HF4.out.bel) HF.out).mono ?_); rintro e_ w5 ⟨rfl, hb⟩; have HL5 := Aside0.mk (below_step HF4.out.bel hb); clear hb)
  go_ret
  exact ⟨rfl, HL5.out⟩
end Go.Proofs.YtnnmdocdiedgiaaDoor.Reader
