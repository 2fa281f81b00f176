/- The walk of LedgerAgain. -/
import Derived.Test.YtgdgegkokghedaaArg10
namespace Go.Proofs.Ytgdgegkokghedaa.Walk
open Go.RowKit Go.Deep Go.Proofs.YtgdgegkokghedaaW.PrintWords Go.Proofs.YtgdgegkokghedaaW.PrintLast Go.Proofs.YtgdgegkokghedaaW.PrintMore Go.Proofs.Ytgdgegkokghedaa.PLedgerKeeps Go.Proofs.Ytgdgegkokghedaa Go.Proofs.Ytgdgegkokghedaa.Led
set_option linter.unusedVariables false
set_option linter.unusedSimpArgs false
theorem again_range (y : Int) : ∃ k : Nat, 1 ≤ k ∧ k ≤ 20 ∧ 1 + Int.tmod (IntKind.u64.wrap y) 20 = (k : Int) ∧ IntKind.u64.wrap (k : Int) = (k : Int) ∧ wrap64 (k : Int) = (k : Int) ∧ wrap64 ((k : Int) - 1) = (k : Int) - 1 := by
  have h0 : 0 ≤ IntKind.u64.wrap y := by
    show 0 ≤ y % 18446744073709551616
    omega
  rw [Int.tmod_eq_emod_of_nonneg h0]
  generalize IntKind.u64.wrap y = q at h0
  refine ⟨(1 + q % 20).toNat, by omega, by omega, by omega, ?_, ?_, ?_⟩
  · show _ % 18446744073709551616 = _
    omega
  · unfold wrap64
    omega
  · unfold wrap64
    omega
set_option maxHeartbeats 8000000 in
set_option maxRecDepth 100000 in
theorem ledgerAgain_walk {P Q : Prop} (y : Int) (A : Option Addr) (cap : Nat) (xs : List S34) (w : World) (hr : k34.C w A xs.length xs) (hc : xs.length ≤ cap) (G0 : P) (G1 : Q) :
    Calls Try.prog 7 #[.int .i64 y, .slice A xs.length cap] w fun e w' => e = .returned (.bool true) ∧ Below w.heap.size w w' := by
  have HR := Aside0.mk hr
  have HCAP := Aside0.mk hc
  clear hr hc G0 G1
  obtain ⟨k, hk0, hk1, hk2, hk3, hk4, hk5⟩ := again_range y
  have HK := Aside0.mk (And.intro hk0 hk1)
  have hk6 : IntKind.i64.wrap (k : Int) = (k : Int) := (i64_w _).trans hk4
  have hk7 : IntKind.i64.wrap ((k : Int) - 1) = (k : Int) - 1 := (i64_w _).trans hk5
  obtain ⟨q, hq, hk2⟩ : ∃ q, IntKind.u64.wrap y = q ∧ 1 + Int.tmod q 20 = (k : Int) := ⟨_, rfl, hk2⟩
  obtain ⟨m, hm, hk2⟩ : ∃ m, Int.tmod q 20 = m ∧ 1 + m = (k : Int) := ⟨_, rfl, hk2⟩
  clear hk0 hk1
  go_enter Try.func7, Try.ntmps7
  go_wp2_with (first | (go_at_call 8; (with_reducible refine (works_c _).mono ?_); rintro e_ w0 ⟨rfl, hb⟩; have HB0 := Aside0.mk hb; clear hb) | (go_at_call 9; (with_reducible refine (new_c _).mono ?_); rintro e_ w1 ⟨g, rfl, hg, hblk, hb⟩; have HL1 := Aside0.mk (LP.start (lg_new (w0 := w) hblk) (below_step HB0.out hb)); have HG := Aside0.mk (show w.heap.size ≤ g from Nat.le_trans HB0.out.size hg); clear hg hblk hb))
  go_loopw [7] (fun v7 wr => ∃ i : Nat, v7 = .int .i64 (i : Int) ∧ Aside0 (i ≤ k) ∧ ∃ v s, Aside0 (LP w w1 wr g (.slice none 0 0) v s) ∧ Aside0 (SentP s i)) (fun v7 _ => (20 - intOf v7).toNat)
  case atStart => exact ⟨0, rfl, ⟨by omega⟩, _, _, HL1, ⟨sentP_init⟩⟩
  case round =>
    obtain ⟨i, rfl, HI, v, s, HD, HS⟩ := hrel
    by_cases d1 : (i : Int) < (k : Int)
    · have M1 : decide ((i : Int) < (k : Int)) = true := decide_eq_true d1
      have M1' : decide (i < k) = true := decide_eq_true (by omega)
      have n2 : i ≤ 100000 := by have := HK.out; omega
      have hw1 : wrap64 ((i : Int) + 1) = ((i + 1 : Nat) : Int) := by unfold wrap64; omega
      have hw2 : IntKind.i64.wrap ((i : Int) + 1) = ((i + 1 : Nat) : Int) := (i64_w _).trans hw1
      have hsn := sent_c g s _ v (i : Int) 0 100 w w1 wr HD.out HG.out (HS.out.ok n2 (by decide) (by decide)) (by rw [HS.out.len]; exact n2)
      have HNX := Aside0.mk (HS.out.next0 (z := 100) n2 (by decide) (by decide))
      have HSN := Aside0.mk hsn
      have HJ := Aside0.mk d1
      clear d1 n2 hsn
      go_wp2_with (go_at_call 11; (with_reducible refine (HSN.out).mono ?_); rintro e_ w2 ⟨rfl, v2, h2⟩; have H2 := Aside0.mk h2; clear h2)
      go_roundw
      case rel => exact ⟨i + 1, by first | rfl | simp, ⟨by have := HJ.out; omega⟩, v2, _, H2, HNX⟩
      case measure => have := HJ.out; have := HK.out; simp [intOf]; omega
    · have M1 : decide ((i : Int) < (k : Int)) = false := decide_eq_false d1
      have M1' : decide (i < k) = false := decide_eq_false (by omega)
      obtain rfl : i = k := by have := HI.out; omega
      clear d1
      have h0 : 0 < i := by have := HK.out; omega
      have h1 : i ≤ 100000 := by have := HK.out; omega
      obtain ⟨k1, k2, k3, k4⟩ := ends_ack HS.out h1 h0
      have k5 : (ackR s [⟨0, (i : Int) - 1⟩]).st.top = (i : Int) - 1 := (ack_top _ _).trans HS.out.top
      have k6 : Inv (ackR s [⟨0, (i : Int) - 1⟩]).st := inv_ack HS.out.inv _
      obtain ⟨s1, e1⟩ : ∃ s1, (ackR s [⟨0, (i : Int) - 1⟩]).st = s1 := ⟨_, rfl⟩
      rw [e1] at k4 k5 k6
      obtain ⟨a1, a2, a3⟩ := ack_fl k4 [⟨0, (i : Int) - 1⟩]
      have a4 := ack_again h0 h1 k4 k5
      have a6 : Inv (ackR s1 [⟨0, (i : Int) - 1⟩]).st := inv_ack k6 _
      obtain ⟨s2, e2⟩ : ∃ s2, (ackR s1 [⟨0, (i : Int) - 1⟩]).st = s2 := ⟨_, rfl⟩
      rw [e2] at a3 a6
      obtain ⟨b1, b2, b3⟩ := ack_fl a3 xs
      obtain ⟨s3, e3⟩ : ∃ s3, (ackR s2 xs).st = s3 := ⟨_, rfl⟩
      rw [e3] at b3
      obtain ⟨er3, e4⟩ : ∃ er3, (ackR s2 xs).er = er3 := ⟨_, rfl⟩
      have hno := ack_over HS.out h1
      have hbw : Below w.heap.size w (wr.alloc (.cells #[.int .i64 0, .int .i64 ((i : Int) - 1)] 34)) := below_alloc HD.out.bel _
      have hlw : LG w.heap.size (wr.alloc (.cells #[.int .i64 0, .int .i64 ((i : Int) - 1)] 34)) g s v := (HD.out.below (below_alloc (Below.refl _ _) _)).lg
      have hblk := blk_new wr (.cells #[.int .i64 0, .int .i64 ((i : Int) - 1)] 34)
      have hne : some wr.heap.size ≠ v.ownBlock := fun he => by have := ((Kd.R_bound HD.out.lg.row).1 _ he.symm).2.2.1; omega
      have hng : wr.heap.size ≠ g := fun he => by have := blk_lt HD.out.lg.blk; omega
      obtain ⟨wb, hwb⟩ : ∃ wb, wr.alloc (.cells #[.int .i64 0, .int .i64 ((i : Int) - 1)] 34) = wb := ⟨_, rfl⟩
      rw [hwb] at hbw hlw hblk
      have hp := LP.start hlw hbw
      have hne2 : some wb.heap.size ≠ v.ownBlock := fun he => by have := ((Kd.R_bound hlw.row).1 _ he.symm).2.2.1; omega
      have hng2 : wb.heap.size ≠ g := fun he => by have := blk_lt hlw.blk; omega
      have HA1 := Aside0.mk (acked_l (l := 1) (n1 := 0) (n2 := 0) (er := 2) w wb _ g 1 (some ⟨wb.heap.size, 0, none⟩) [⟨0, (i : Int)⟩] v v s (hp.below (below_alloc (Below.refl _ _) (.cells #[.int .i64 0, .int .i64 (i : Int)] 34))) HG.out (one_keep (blk_new wb (.cells #[.int .i64 0, .int .i64 (i : Int)] 34)) hng2 hne2) (Nat.le_refl _) HS.out.inv (by rw [HS.out.len]; exact h1) rfl (by rw [hno]; rfl) (by rw [hno]; rfl) (by rw [hno]) (by rw [hno]))
      have HF1 := Aside0.mk (fun w2 v2 (h : LP w wb w2 g v v2 s) => flight_c g s v v2 w wb w2 h (by rw [HS.out.len]; exact h1) (fun x hx => (HS.out.inv.fl x hx).2.2))
      have HA2 := Aside0.mk (fun w2 v2 (h : LP w wb w2 g v v2 s) => acked_l (l := 1) (n1 := i) (n2 := 0) (er := 0) w wb w2 g 1 (some ⟨wr.heap.size, 0, none⟩) [⟨0, (i : Int) - 1⟩] v v2 s h HG.out (h.built hblk hng hne) (Nat.le_refl _) HS.out.inv (by rw [HS.out.len]; exact h1) rfl k1 (by rw [k2]; rfl) k3 e1)
      have HA3 := Aside0.mk (fun w2 v2 (h : LP w wb w2 g v v2 s1) => acked_l (l := 1) (n1 := 0) (n2 := 0) (er := 0) w wb w2 g 1 (some ⟨wr.heap.size, 0, none⟩) [⟨0, (i : Int) - 1⟩] v v2 s1 h HG.out (h.built hblk hng hne) (Nat.le_refl _) k6 (by rw [k4]; exact Nat.zero_le _) rfl (by rw [a1]; rfl) (by rw [a2]; rfl) a4 e2)
      have hf2 := fun w2 v2 (h : LP w wb w2 g v v2 s2) => flight_c g s2 v v2 w wb w2 h (by rw [a3]; exact Nat.zero_le _) (fun x hx => by rw [a3] at hx; simp at hx)
      rw [a3] at hf2
      have HF2 := Aside0.mk hf2
      have HA4 := Aside0.mk (fun w2 v2 (h : LP w wb w2 g v v2 s2) => acked_l (l := xs.length) (n1 := 0) (n2 := 0) w wb w2 g cap A xs v v2 s2 h HG.out (h.arg HG.out HR.out) HCAP.out a6 (by rw [a3]; exact Nat.zero_le _) rfl (by rw [b1]; rfl) (by rw [b2]; rfl) e4 e3)
      have hf3 := fun w2 v2 (h : LP w wb w2 g v v2 s3) => flight_c g s3 v v2 w wb w2 h (by rw [b3]; exact Nat.zero_le _) (fun x hx => by rw [b3] at hx; simp at hx)
      rw [b3] at hf3
      have HF3 := Aside0.mk hf3
      have HLEN := Aside0.mk HS.out.len
      clear k1 k2 k3 k4 k5 k6 a1 a2 a3 a4 a6 b1 b2 b3 e1 e2 e3 e4 hno hbw hlw hblk hne hng hp hne2 hng2 hf2 hf3 h0 h1
      go_wp2_with (first | (go_at_call 12; (with_reducible refine (HA1.out).mono ?_); rintro e_ w2 ⟨Aa, ca, Ab, cb, v2, rfl, h2⟩; have H2 := Aside0.mk h2; clear h2) | (go_at_call 19; (with_reducible refine (HF1.out w2 v2 H2.out).mono ?_); rintro e_ w3 ⟨rfl, h3⟩; rw [HLEN.out]; have H3 := Aside0.mk h3; clear h3) | (go_at_call 12; (with_reducible refine (HA2.out w3 v2 H3.out).mono ?_); rintro e_ w4 ⟨Ac, cc, Ad, cd, v4, rfl, h4⟩; have H4 := Aside0.mk h4; clear h4) | (go_at_call 12; (with_reducible refine (HA3.out w4 v4 H4.out).mono ?_); rintro e_ w5 ⟨Ae, ce, Af, cf, v5, rfl, h5⟩; have H5 := Aside0.mk h5; clear h5) | (go_at_call 19; (with_reducible refine (HF2.out w5 v5 H5.out).mono ?_); rintro e_ w6 ⟨rfl, h6⟩; have H6 := Aside0.mk h6; clear h6) | (go_at_call 12; (with_reducible refine (HA4.out w6 v5 H6.out).mono ?_); rintro e_ w7 ⟨Ag, cg, Ah, ch, v7, rfl, h7⟩; have H7 := Aside0.mk h7; clear h7) | (go_at_call 19; (with_reducible refine (HF3.out w7 v7 H7.out).mono ?_); rintro e_ w8 ⟨rfl, h8⟩; have H8 := Aside0.mk h8; clear h8))
      go_ret
      exact ⟨rfl, H8.out.bel⟩
end Go.Proofs.Ytgdgegkokghedaa.Walk
