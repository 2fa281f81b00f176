/- Layer 8: works. gen/mk_whole08.py writes this text. -/
import Derived.Test.YtanebifiafghnaaPlain08
namespace Go.Proofs.Ytanebifiafghnaa.Ack
open Go.RowKit Go.Deep Go.Proofs.YtanebifiafghnaaW.PrintWords Go.Proofs.YtanebifiafghnaaW.PrintLast Go.Proofs.YtanebifiafghnaaW.PrintMore Go.Proofs.Ytanebifiafghnaa.PAcksRight Go.Proofs.Ytanebifiafghnaa
set_option linter.unusedVariables false
set_option linter.unusedSimpArgs false
theorem first35 {w : World} {A : Option Addr} {x : S35} (h : Kd.C k35 w A [x].length [x]) : ∃ ad, A = some ad ∧ w.cell? ad = some (.int .i64 x.f0) ∧ w.cell? ⟨ad.block, ad.off + 1, none⟩ = some (.int .i64 x.f1) := by
  obtain ⟨ad, e, c0, c1⟩ := at35 h 0 (show 0 < 1 from by decide)
  have e0 : ad.add (0 * 2) = ad := by unfold Addr.add; cases ad; simp
  rw [e0] at c0 c1
  exact ⟨ad, e, c0, c1⟩
theorem addr_zero (ad : Addr) : ad.add 0 = ad := by unfold Addr.add; cases ad; simp
set_option maxHeartbeats 8000000 in
set_option maxRecDepth 100000 in
theorem works_c (W : World) : Calls Try.prog 11 #[] W fun e w' => e = .returned (.bool true) ∧ Below W.heap.size W w' := by
  have n1 : NF [(⟨5, 6⟩ : S35)] := ⟨by decide, by simp⟩
  have n2 : NF [(⟨8, 8⟩ : S35), ⟨5, 6⟩] := ⟨by decide, by simp⟩
  have N1 := Aside0.mk n1
  have N2 := Aside0.mk n2
  clear n1 n2
  go_enter Try.func11, Try.ntmps11
  go_wp2_with (first | (go_at_call 12; (with_reducible refine (new_c _).mono ?_); rintro e_ w1 ⟨g, rfl, hg, hblk, hb⟩; have HG := Aside0.mk hg; have H1 := Aside0.mk (SP.start (show SG W.heap.size w1 g [] (.slice none 0 0) from ⟨hblk, Kd.R_nil _ _ _ _ _⟩) hb); clear hg hblk hb) | (go_at_call 13; (with_reducible refine (add_ok W w1 w1 g _ _ [] 5 6 (SP.start H1.out.lg H1.out.bel) HG.out NF.nil (by decide) (by decide)).mono ?_); rintro e_ w2 ⟨v_, l_, rfl, h_, ha_⟩; obtain rfl := works_a ha_; have H2 := Aside0.mk h_; clear h_ ha_) | (go_at_call 13; (with_reducible refine (add_ok W w2 w2 g _ _ [⟨5, 6⟩] 8 8 (SP.start H2.out.lg H2.out.bel) HG.out N1.out (by decide) (by decide)).mono ?_); rintro e_ w3 ⟨v_, l_, rfl, h_, ha_⟩; obtain rfl := works_b ha_; have H3 := Aside0.mk h_; clear h_ ha_) | (go_at_call 13; (with_reducible refine (add_ok W w3 w3 g _ _ [⟨8, 8⟩, ⟨5, 6⟩] 7 7 (SP.start H3.out.lg H3.out.bel) HG.out N2.out (by decide) (by decide)).mono ?_); rintro e_ w4 ⟨v_, l_, rfl, h_, ha_⟩; obtain rfl := works_d ha_; have H4 := Aside0.mk h_; clear h_ ha_) | (go_at_call 14; (with_reducible refine (ranges_c g W.heap.size _ _ W.heap.size w4 H4.out.lg (by decide) H4.out.bel.size).mono ?_); rintro e_ w5 ⟨v5, rfl, hr, hb⟩; obtain ⟨Aa, ca, rfl⟩ := Kd.R_slice hr; obtain ⟨ae, hAe, ce0, ce1⟩ := first35 (Kd.R_reads' hr).2.2; subst hAe; dsimp only at ce0 ce1; rw [show ([(⟨5, 8⟩ : S35)] : List S35).length = 1 from rfl]; have H5 := Aside0.mk (SP.below (SP.start H4.out.lg H4.out.bel) hb); clear hr hb) | (go_at_call 15; (with_reducible refine (has_c g 7 _ [⟨5, 8⟩] W.heap.size w5 H5.out.lg).mono ?_); rintro e_ w6 ⟨rfl, hb⟩; rw [show anyR 7 [(⟨5, 8⟩ : S35)] = true from by decide]; have H6 := Aside0.mk (H5.out.below hb); clear hb) | (go_at_call 15; (with_reducible refine (has_c g 9 _ [⟨5, 8⟩] W.heap.size w6 H6.out.lg).mono ?_); rintro e_ w7 ⟨rfl, hb⟩; rw [show anyR 9 [(⟨5, 8⟩ : S35)] = false from by decide]; have H7 := Aside0.mk (H6.out.below hb); clear hb) | (go_at_call 13; (with_reducible refine (add_bad W w7 w7 g _ _ [⟨5, 8⟩] 2 1 (SP.start H7.out.lg H7.out.bel) HG.out (by decide)).mono ?_); rintro e_ w8 ⟨rfl, h_⟩; have H8 := Aside0.mk h_; clear h_))
  go_ret
  exact ⟨rfl, H8.out.bel⟩
end Go.Proofs.Ytanebifiafghnaa.Ack
