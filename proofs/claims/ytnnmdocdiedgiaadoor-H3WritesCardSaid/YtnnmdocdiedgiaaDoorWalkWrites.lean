/- H3Writes: the walk. -/
import Derived.Test.YtnnmdocdiedgiaaDoorPairsC
namespace Go.Proofs.YtnnmdocdiedgiaaDoor.Walk
open Go.RowKit Go.Proofs.YtnnmdocdiedgiaaDoorW.PrintWords Go.Proofs.YtnnmdocdiedgiaaDoorW.PrintLast Go.Proofs.YtnnmdocdiedgiaaDoorW.PrintMore Go.Proofs.YtnnmdocdiedgiaaDoor.PH3Writes Go.Proofs.YtnnmdocdiedgiaaDoor Go.Proofs.YtnnmdocdiedgiaaDoor.Pure Go.Proofs.YtnnmdocdiedgiaaDoor.Pairs
set_option linter.unusedVariables false
set_option linter.unusedSimpArgs false
set_option maxHeartbeats 16000000 in
set_option maxRecDepth 100000 in
theorem h3Writes_walk (kind : Int) (s : ByteArray) (w : World) (hT : Kd.C (Kd.int .i64) w (some ⟨0, 0, none⟩) 4 ([1, 2, 4, 8] : List Int)) (G0 : (Lit.int .i64 kind).wf = true) (G1 : s.size ≤ 140737488351232) :
    Calls Tryd.prog 3 #[.int .i64 kind, .string s] w fun e w' => e = .returned (.bool true) ∧ Below w.heap.size w w' := by
  obtain ⟨l, x, hpr⟩ := pr_all s.size ([] : List S53) s (Nat.le_refl _)
  have hlen := pr_len hpr (by simp)
  obtain ⟨kp, hkp⟩ := (pr_ref hpr (by simp) G1).rounds
  obtain ⟨kf, hkf⟩ := (frame_ev kind s G1).rounds
  obtain ⟨kg, hkg⟩ := (rframe_ev kind s G1).rounds
  obtain ⟨ks, hks⟩ := (same_self l (by omega)).rounds
  have HPR := Aside0.mk hpr
  have HK := Aside0.mk (show vizardref15_Pairs.f kp s = some (l, x) from hkp)
  have HF := Aside0.mk hkf
  have HG := Aside0.mk hkg
  have HSM := Aside0.mk hks
  have HT := Aside0.mk hT
  have HS := Aside0.mk G1
  have HB := Aside0.mk (Below.refl w.heap.size w)
  skip
  clear hpr hlen hkp hkf hkg hks hT G0 G1
  go_enter Tryd.func3, Tryd.ntmps3
  go_wp2_with (first | (go_at_call 8; (with_reducible refine (pairs_c s l x w _ HB.out HT.out HPR.out HS.out).mono ?_); rintro e_ w1 ⟨va, rfl, hR, hb⟩; obtain ⟨Aa, ca, rfl⟩ := Kd.R_slice hR; have HR1 := Aside0.mk hR; have HB1 := Aside0.mk (below_step HB.out hb); clear hR hb) | (go_at_call 9; (with_reducible refine (vizardref15_Pairs.calls kp s l x _ HK.out).mono ?_); rintro e_ w2 ⟨vb, rfl, hR, hb⟩; obtain ⟨Ab, cb, rfl⟩ := Kd.R_slice hR; have HR2 := Aside0.mk hR; have HR1b := Aside0.mk (Kd.R_below HR1.out hb); have HB2 := Aside0.mk (below_step HB1.out hb); clear hR hb) | (go_at_call 10; (with_reducible refine (h3_Frame.calls kf kind s (framev kind s) _ (Kd.C_below HT.out HB2.out) HF.out).mono ?_); rintro e_ w3 ⟨rfl, hb⟩; have HR3 := Aside0.mk (Kd.R_below HR2.out hb); have HR1c := Aside0.mk (Kd.R_below HR1b.out hb); have HB3 := Aside0.mk (below_step HB2.out hb); clear hb) | (go_at_call 11; (with_reducible refine (vizardref15_Frame.calls kg kind s (framev kind s) _ HG.out).mono ?_); rintro e_ w4 ⟨rfl, hb⟩; have HR4 := Aside0.mk (Kd.R_below HR3.out hb); have HR1d := Aside0.mk (Kd.R_below HR1c.out hb); have HB4 := Aside0.mk (below_step HB3.out hb); clear hb) | (go_at_call 12; (with_reducible refine (vizardref08_Same.calls ks Aa ca l Ab cb l true _ (Kd.R_reads' HR1d.out).2.2 ?sa (Kd.R_reads' HR4.out).2.2 ?sb HSM.out).mono ?_); (case sa => exact (Kd.R_reads' HR1d.out).2.1); (case sb => exact (Kd.R_reads' HR4.out).2.1); rintro e_ w5 ⟨rfl, hd⟩; have HB5 := Aside0.mk (show Below w.heap.size w w5 from (by obtain ⟨nd_, rfl⟩ := hd; exact pw_below_drewN HB4.out nd_)); clear hd))
  go_ret
  exact ⟨rfl, HB5.out⟩
end Go.Proofs.YtnnmdocdiedgiaaDoor.Walk
