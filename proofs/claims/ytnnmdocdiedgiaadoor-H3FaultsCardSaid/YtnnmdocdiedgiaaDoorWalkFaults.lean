/- H3Faults: the walk. -/
import Derived.Test.YtnnmdocdiedgiaaDoorWorks
namespace Go.Proofs.YtnnmdocdiedgiaaDoor.Walk
open Go.RowKit Go.Proofs.YtnnmdocdiedgiaaDoorW.PrintWords Go.Proofs.YtnnmdocdiedgiaaDoorW.PrintLast Go.Proofs.YtnnmdocdiedgiaaDoorW.PrintMore Go.Proofs.YtnnmdocdiedgiaaDoor.PH3Writes Go.Proofs.YtnnmdocdiedgiaaDoor Go.Proofs.YtnnmdocdiedgiaaDoor.Pure Go.Proofs.YtnnmdocdiedgiaaDoor.Pairs Go.Proofs.YtnnmdocdiedgiaaDoor.Reader
set_option linter.unusedVariables false
set_option linter.unusedSimpArgs false
set_option maxHeartbeats 16000000 in
set_option maxRecDepth 100000 in
theorem h3Faults_walk (ctl : Bool) (s more : ByteArray) (w : World) (hT : Kd.C (Kd.int .i64) w (some ⟨0, 0, none⟩) 4 ([1, 2, 4, 8] : List Int)) (G1 : s.size ≤ 140737488351232) (G2 : more.size ≤ 140737488351232) :
    Calls Tryd.prog 7 #[.bool ctl, .string s, .string more] w fun e w' => e = .returned (.bool true) ∧ Below w.heap.size w w' := by
  have HT := Aside0.mk hT
  clear hT G1 G2
  by_cases h1 : s.size > 3000
  · have Ca : decide ((s.size : Int) > 3000) = true := decide_eq_true (by omega)
    have Cb : decide (3000 < (s.size : Int)) = true := decide_eq_true (by omega)
    have Cc : decide (3000 < s.size) = true := decide_eq_true (by omega)
    clear h1
    go_enter Tryd.func7, Tryd.ntmps7
    go_wp2_with (first | (go_at_call 13; (with_reducible refine (works_c w HT.out).mono ?_); rintro e_ w1 ⟨rfl, hb⟩; have HB := Aside0.mk hb; clear hb))
    go_ret
    exact ⟨rfl, HB.out⟩
  have Ca : decide ((s.size : Int) > 3000) = false := decide_eq_false (by omega)
  have Cb : decide (3000 < (s.size : Int)) = false := decide_eq_false (by omega)
  have Cc : decide (3000 < s.size) = false := decide_eq_false (by omega)
  by_cases h2 : more.size > 3000
  · have Da : decide ((more.size : Int) > 3000) = true := decide_eq_true (by omega)
    have Db : decide (3000 < (more.size : Int)) = true := decide_eq_true (by omega)
    have Dc : decide (3000 < more.size) = true := decide_eq_true (by omega)
    clear h1 h2
    go_enter Tryd.func7, Tryd.ntmps7
    go_wp2_with (first | (go_at_call 13; (with_reducible refine (works_c w HT.out).mono ?_); rintro e_ w1 ⟨rfl, hb⟩; have HB := Aside0.mk hb; clear hb))
    go_ret
    exact ⟨rfl, HB.out⟩
  have Da : decide ((more.size : Int) > 3000) = false := decide_eq_false (by omega)
  have Db : decide (3000 < (more.size : Int)) = false := decide_eq_false (by omega)
  have Dc : decide (3000 < more.size) = false := decide_eq_false (by omega)
  obtain ⟨l, r, hr⟩ := runs_all _ { initR ctl with rest := (initR ctl).rest ++ s } (inv_init ctl) (Nat.le_refl _)
  have HZ := Aside0.mk (show (initR ctl).rest.size + s.size ≤ 100000 by have : (initR ctl).rest.size = 0 := rfl; omega)
  have HR := Aside0.mk hr
  clear hr h1 h2
  obtain ⟨c, hc⟩ : ∃ c, r.code = c := ⟨_, rfl⟩
  have HC := Aside0.mk hc
  clear hc
  by_cases h3 : c = 0
  · subst h3
    have hev : endc r = 0 ∨ endc r = 262 ∨ endc r = 270 := by
      have := HC.out
      unfold endc
      rw [if_neg (by simp [this])]
      split
      · exact .inr (.inl rfl)
      · split
        · exact .inr (.inr rfl)
        · exact .inl rfl
    rcases hev with hev | hev | hev <;>
    · have HEV := Aside0.mk hev
      clear hev
      go_enter Tryd.func7, Tryd.ntmps7
      go_wp2_with (first | (go_at_call 13; (with_reducible refine (works_c w HT.out).mono ?_); rintro e_ w1 ⟨rfl, hb⟩; have HB := Aside0.mk hb; clear hb) | (go_at_call 14; (with_reducible refine (new_c ctl _).mono ?_); rintro e_ w2 ⟨g, rfl, hg, hb, hB⟩; have HG := Aside0.mk (Nat.le_trans HB.out.size hg); have HN := Aside0.mk hb; have HB2 := Aside0.mk (below_step HB.out hB); clear hg hb hB) | (go_at_call 15; (with_reducible refine (feed_c g (initR ctl) s l r w _ HN.out HG.out HB2.out HT.out rfl (inv_init ctl) HR.out HZ.out).mono ?_); rw [HC.out]; rintro e_ w3 ⟨v3, rfl, hf⟩; obtain ⟨A3, c3, rfl⟩ := Kd.R_slice hf.rr; have HE := Aside0.mk hf.rb; have HBx := Aside0.mk hf.bel; clear hf) | (go_at_call 17; (with_reducible refine (end_c g r _ HE.out).mono ?_); rw [HEV.out]; rintro e_ wx ⟨rfl, hd⟩; have n0_ := Aside0.mk (show wx.heap[g]? = _ from (by obtain ⟨n_, rfl⟩ := hd; exact HE.out)); have n1_ := Aside0.mk (show Below w.heap.size w wx from (by obtain ⟨n_, rfl⟩ := hd; exact pw_below_drewN HBx.out n_)); clear HE HBx hd; have HE := n0_; have HBx := n1_; clear n0_ n1_))
      go_ret
      exact ⟨rfl, HBx.out⟩
  have C3 : (c == 0) = false := beq_eq_false_iff_ne.mpr h3
  have HC0 := Aside0.mk (show r.code ≠ 0 by rw [HC.out]; exact h3)
  have HEV := Aside0.mk (show endc r = c by unfold endc; rw [if_pos HC0.out]; exact HC.out)
  clear h3
  go_enter Tryd.func7, Tryd.ntmps7
  go_wp2_with (first | (go_at_call 13; (with_reducible refine (works_c w HT.out).mono ?_); rintro e_ w1 ⟨rfl, hb⟩; have HB := Aside0.mk hb; clear hb) | (go_at_call 14; (with_reducible refine (new_c ctl _).mono ?_); rintro e_ w2 ⟨g, rfl, hg, hb, hB⟩; have HG := Aside0.mk (Nat.le_trans HB.out.size hg); have HN := Aside0.mk hb; have HB2 := Aside0.mk (below_step HB.out hB); clear hg hb hB) | (go_at_call 15; (with_reducible refine (feed_c g (initR ctl) s l r w _ HN.out HG.out HB2.out HT.out rfl (inv_init ctl) HR.out HZ.out).mono ?_); rw [HC.out]; rintro e_ w3 ⟨v3, rfl, hf⟩; obtain ⟨A3, c3, rfl⟩ := Kd.R_slice hf.rr; have HE := Aside0.mk hf.rb; have HBx := Aside0.mk hf.bel; clear hf) | (go_at_call 17; (with_reducible refine (end_c g r _ HE.out).mono ?_); rw [HEV.out]; rintro e_ wx ⟨rfl, hd⟩; have n0_ := Aside0.mk (show wx.heap[g]? = _ from (by obtain ⟨n_, rfl⟩ := hd; exact HE.out)); have n1_ := Aside0.mk (show Below w.heap.size w wx from (by obtain ⟨n_, rfl⟩ := hd; exact pw_below_drewN HBx.out n_)); clear HE HBx hd; have HE := n0_; have HBx := n1_; clear n0_ n1_) | (go_at_call 15; (with_reducible refine (feed_bad g r more _ HE.out HC0.out).mono ?_); rw [HC.out]; rintro e_ wx ⟨rfl, hd⟩; have n0_ := Aside0.mk (show wx.heap[g]? = _ from (by obtain ⟨n_, rfl⟩ := hd; exact HE.out)); have n1_ := Aside0.mk (show Below w.heap.size w wx from (by obtain ⟨n_, rfl⟩ := hd; exact pw_below_drewN HBx.out n_)); clear HE HBx hd; have HE := n0_; have HBx := n1_; clear n0_ n1_))
  go_ret
  exact ⟨rfl, HBx.out⟩
end Go.Proofs.YtnnmdocdiedgiaaDoor.Walk
