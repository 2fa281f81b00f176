/- The walk of LedgerGrows. -/
import Derived.Test.YtgdgegkokghedaaWalkEnds
namespace Go.Proofs.Ytgdgegkokghedaa.Walk
open Go.RowKit Go.Deep Go.Proofs.YtgdgegkokghedaaW.PrintWords Go.Proofs.YtgdgegkokghedaaW.PrintLast Go.Proofs.YtgdgegkokghedaaW.PrintMore Go.Proofs.Ytgdgegkokghedaa.PLedgerKeeps Go.Proofs.Ytgdgegkokghedaa Go.Proofs.Ytgdgegkokghedaa.Led
set_option linter.unusedVariables false
set_option linter.unusedSimpArgs false
def gS (i : Nat) (want : Int) : LS := ⟨[], (i : Int) - 1, want, 1073741824, -1, 0⟩
def gT (i : Nat) (want k : Int) : LS := ⟨[⟨(i : Int), (i : Int), k⟩], (i : Int), want, 1073741824, -1, 0⟩
theorem gT_eq (i : Nat) (want k : Int) : ({ gS i want with fl := (gS i want).fl ++ [⟨(i : Int), (i : Int), k⟩], top := (i : Int) } : LS) = gT i want k := rfl
theorem gS_inv {i : Nat} {want : Int} (hi : i ≤ 100000) (h0 : 12000 ≤ want) (h1 : want ≤ 100000) : Inv (gS i want) := ⟨by show -1 ≤ (i : Int) - 1; omega, by show (i : Int) - 1 ≤ _; omega, by show 2400 ≤ want; omega, by show want ≤ _; omega, Int.le_refl _, (by omega : (0 : Int) ≤ 6), fun x (hx : x ∈ ([] : List S58)) => by simp at hx, List.Pairwise.nil⟩
theorem gT_inv {i : Nat} {want k : Int} (hi : i ≤ 100000) (h0 : 12000 ≤ want) (h1 : want ≤ 100000) (hk : 1 ≤ k ∧ k ≤ 1200) : Inv (gT i want k) := inv_sent (gS_inv hi h0 h1) ⟨by show (i : Int) - 1 < i; omega, by omega, hk.1, hk.2⟩
theorem gS_ok {i : Nat} {want k : Int} (hi : i ≤ 100000) (h0 : 1 ≤ k) (h1 : k ≤ 1200) : sentOk (gS i want) (i : Int) k := ⟨by show (i : Int) - 1 < i; omega, by omega, h0, h1⟩
theorem grows_ack {i : Nat} {want k : Int} (hi : i ≤ 100000) (h0 : 12000 ≤ want) (h1 : want ≤ 100000) (hk : 1 ≤ k ∧ k ≤ 1200) : ackR (gT i want k) [⟨(i : Int), (i : Int)⟩] = ⟨gS (i + 1) (want + k), [(i : Int)], [], 0⟩ := by
  have hc : chkV [⟨(i : Int), (i : Int)⟩] = 0 := chkV_one _ ((fineB_iff _).2 ⟨by show (0 : Int) ≤ i; omega, Int.le_refl _, by show (i : Int) ≤ _; omega⟩)
  have hany : anyR (i : Int) [⟨(i : Int), (i : Int)⟩] = true := by unfold anyR inR; simp
  have e1 : ackTold (gT i want k) [⟨(i : Int), (i : Int)⟩] = [⟨(i : Int), (i : Int), k⟩] := List.filter_eq_self.2 (fun x hx => by
    obtain rfl := List.mem_singleton.1 hx
    exact hany)
  have e2 : (ackS0 (gT i want k) [⟨(i : Int), (i : Int)⟩]).fl = [] := List.filter_eq_nil_iff.2 (fun x hx => by
    obtain rfl := List.mem_singleton.1 hx
    rw [hany]; simp)
  have e0 : ackS0 (gT i want k) [⟨(i : Int), (i : Int)⟩] = ⟨[], (i : Int), want, 1073741824, -1, 0⟩ := by
    unfold ackS0 at e2 ⊢
    rw [show (gT i want k).fl.filter (fun x => !anyR x.f0 [⟨(i : Int), (i : Int)⟩]) = [] from e2]
    rfl
  have e3 : ackS1 (gT i want k) [⟨(i : Int), (i : Int)⟩] = gS (i + 1) (want + k) := by
    unfold ackS1
    rw [e0, e1]
    show toldS { (⟨[], (i : Int), want, 1073741824, -1, 0⟩ : LS) with win := growW want 1073741824 k, back := 0 } [] = _
    have hx : growX want 1073741824 k = want + k := if_pos (by omega)
    have hw : growW want 1073741824 k = want + k := by
      unfold growW
      rw [hx, if_neg (by omega)]
    rw [hw]
    unfold gS toldS
    simp only [LS.mk.injEq, true_and, and_true]
    omega
  have e4 : ackLost (gT i want k) [⟨(i : Int), (i : Int)⟩] = [] := by unfold ackLost; rw [e3]; rfl
  unfold ackR
  rw [if_neg (by rw [hc]; decide), if_neg (by simp), if_neg (show ¬ hiOf [⟨(i : Int), (i : Int)⟩] > (gT i want k).top by show ¬ (i : Int) > i; omega)]
  have e5 : ackS3 (gT i want k) [⟨(i : Int), (i : Int)⟩] = gS (i + 1) (want + k) := by
    unfold ackS3 ackS2
    rw [e4, e3]
    rfl
  rw [e5, e1, e4]
  rfl
def gL (want : Int) : Int := if 2400 < Int.tdiv want 2 then Int.tdiv want 2 else 2400
theorem grows_exp {i : Nat} {want : Int} (hi : i ≤ 100000) : expR ((i : Int) + 8) (gT i want 9) = (⟨[], (i : Int), gL want, gL want, (i : Int), 1⟩, [(i : Int)]) := by
  have hd : dueV ((i : Int) + 8) (gT i want 9) = true := by
    unfold dueV gT
    simp only [List.any_cons, List.any_nil, Bool.or_false]
    unfold dueP
    dsimp only
    rw [show waitV 0 = 8 from rfl, decide_eq_true (show (i : Int) + 8 > i by omega), Bool.true_and, decide_eq_true_eq]
    show (8 : Int) % 18446744073709551616 ≤ (((i : Int) + 8) % 18446744073709551616 - (i : Int) % 18446744073709551616) % 18446744073709551616
    omega
  unfold expR
  rw [hd]
  have e : loseS { gT i want 9 with fl := [] } (gT i want 9).fl = ⟨[], (i : Int), gL want, gL want, (i : Int), 0⟩ := by
    unfold loseS
    rw [if_neg (by show ¬ (1 : Nat) = 0; decide), if_pos (by show (i : Int) > -1; omega)]
    rfl
  show (expS (gT i want 9), Led.nums (gT i want 9).fl) = _
  unfold expS
  rw [e]
  rfl
set_option maxHeartbeats 8000000 in
set_option maxRecDepth 100000 in
theorem ledgerGrows_walk (A : Option Addr) (cap : Nat) (xs : List Int) (w : World) (hr : (Kd.int .i64).C w A xs.length xs) (hc : xs.length ≤ cap) (G0 : xs.length * 8 ≤ 140737488351232 ∧ ∀ y ∈ xs, (Lit.int .i64 y).wf = true) :
    Calls Try.prog 3 #[.slice A xs.length cap] w fun e w' => e = .returned (.bool true) ∧ Below w.heap.size w w' := by
  have HR := Aside0.mk hr
  have HN := Aside0.mk G0.1
  clear hr hc G0
  go_enter Try.func3, Try.ntmps3
  go_wp2_with (first | (go_at_call 8; (with_reducible refine (works_c _).mono ?_); rintro e_ w0 ⟨rfl, hb⟩; have HB0 := Aside0.mk hb; clear hb) | (go_at_call 9; (with_reducible refine (new_c _).mono ?_); rintro e_ w1 ⟨g, rfl, hg, hblk, hb⟩; have HL1 := Aside0.mk (LP.start (lg_new (w0 := w) hblk) (below_step HB0.out hb)); have HG := Aside0.mk (show w.heap.size ≤ g from Nat.le_trans HB0.out.size hg); clear hg hblk hb) | (go_at_call 10; (with_reducible refine (window_c g _ _ _ w1 HL1.out.lg).mono ?_); rintro e_ w2 ⟨rfl, hd⟩; have HL2 := Aside0.mk (HL1.out.drawn hd); clear hd))
  go_loopw [4, 5, 6] (fun v4 v5 v6 wr => ∃ (i : Nat) (want : Int), v4 = .int .i64 want ∧ v5 = .int .i64 (i : Int) ∧ v6 = .int .i64 (i : Int) ∧ Aside0 (i ≤ xs.length ∧ i ≤ 60 ∧ 12000 ≤ want ∧ want ≤ 12000 + 1200 * i) ∧ ∃ v, Aside0 (LP w w1 wr g (.slice none 0 0) v (gS i want))) (fun _ v5 _ _ => (60 - intOf v5).toNat)
  case atStart => exact ⟨0, 12000, rfl, rfl, rfl, ⟨by omega, by omega, by omega, by omega⟩, _, HL2⟩
  case round =>
    obtain ⟨i, want, rfl, rfl, rfl, HI, v, HD⟩ := hrel
    by_cases d1 : (i : Int) < (xs.length : Int)
    · by_cases d2 : (i : Int) < 60
      · have M1 : decide ((i : Int) < (xs.length : Int)) = true := decide_eq_true d1
        have M1' : decide (i < xs.length) = true := decide_eq_true (by omega)
        have M2 : decide ((i : Int) < 60) = true := decide_eq_true d2
        have M2' : decide (i < 60) = true := decide_eq_true (by omega)
        have n1 : i < xs.length := by omega
        have n2 : i ≤ 100000 := by omega
        have n3 : 12000 ≤ want := by have := HI.out; omega
        have n4 : want ≤ 100000 := by have := HI.out; omega
        obtain ⟨ad, hA, rows⟩ := el_int HR.out (i : Int) (by omega) d1
        subst hA
        have x0 := rows wr (below_step HD.out.bel (Below.refl _ _))
        rw [Int.toNat_natCast] at x0
        have hz := size_range (xs.getD i 0)
        generalize xs.getD i 0 = y at x0 hz
        obtain ⟨q, HQ, hz⟩ : ∃ q, Aside0 (IntKind.u64.wrap y = q) ∧ (0 ≤ Int.tmod q 1200 ∧ Int.tmod q 1200 < 1200) := ⟨_, ⟨rfl⟩, hz⟩
        obtain ⟨m, HM, hz⟩ : ∃ m, Aside0 (Int.tmod q 1200 = m) ∧ (0 ≤ m ∧ m < 1200) := ⟨_, ⟨rfl⟩, hz⟩
        have hz1 : 1 ≤ 1 + m := by omega
        have hz2 : 1 + m ≤ 1200 := by omega
        have hm1 : IntKind.u64.wrap m = m := (by show m % 18446744073709551616 = m; omega)
        have hm2 : wrap64 m = m := by unfold wrap64; omega
        have hm3 : IntKind.i64.wrap m = m := (i64_w _).trans hm2
        have hm4 : wrap64 (1 + m) = 1 + m := by unfold wrap64; omega
        have hm5 : IntKind.i64.wrap (1 + m) = 1 + m := (i64_w _).trans hm4
        have hw1 : wrap64 ((i : Int) + 1) = ((i + 1 : Nat) : Int) := by unfold wrap64; omega
        have hw2 : IntKind.i64.wrap ((i : Int) + 1) = ((i + 1 : Nat) : Int) := (i64_w _).trans hw1
        have hw3 : wrap64 (want + (1 + m)) = want + (1 + m) := by unfold wrap64; omega
        have hw4 : IntKind.i64.wrap (want + (1 + m)) = want + (1 + m) := (i64_w _).trans hw3
        have hsn := sent_c g (gS i want) _ v (i : Int) (i : Int) (1 + m) w w1 wr HD.out HG.out (gS_ok n2 hz1 hz2) (Nat.zero_le _)
        have hack := fun w2 v2 (h : LP w w1 w2 g (.slice none 0 0) v2 (gT i want (1 + m))) => acked_c w w1 _ g 1 (some ⟨w2.heap.size, 0, none⟩) [⟨(i : Int), (i : Int)⟩] _ v2 (gT i want (1 + m)) (h.below (below_alloc (Below.refl _ _) (.cells #[.int .i64 (i : Int), .int .i64 (i : Int)] 34))) HG.out (one_keep (blk_new w2 (.cells #[.int .i64 (i : Int), .int .i64 (i : Int)] 34)) (fun he => by have := blk_lt h.lg.blk; omega) (fun he => by have := ((Kd.R_bound h.lg.row).1 _ he.symm).2.2.1; omega)) (Nat.le_refl _) (gT_inv n2 n3 n4 ⟨hz1, hz2⟩) (show 1 ≤ 100000 from by decide)
        simp only [grows_ack n2 n3 n4 ⟨hz1, hz2⟩, List.length_cons, List.length_nil, Nat.zero_add] at hack
        have HACK := Aside0.mk hack
        have HSN := Aside0.mk hsn
        have HJ := Aside0.mk (And.intro d1 (And.intro d2 (And.intro hz1 hz2)))
        have K1 : Aside0 ([(i : Int)].length = 1) := ⟨rfl⟩
        have K2 : Aside0 (([] : List Int).length = 0) := ⟨rfl⟩
        have p1 := eq_true d1
        have p2 : ((i : Int) < (xs.length : Int)) = True := p1
        have p3 := eq_true n1
        clear d1 d2 n1 n2 n3 n4 hz1 hz2 hsn hz rows hack
        have hq := HQ.out
        have hm := HM.out
        go_wp2_with (first | (go_at_call 11; (with_reducible refine (HSN.out).mono ?_); rintro e_ w2 ⟨rfl, v2, h2⟩; have H2 : Aside0 (LP w w1 w2 g (.slice none 0 0) v2 (gT i want (1 + m))) := Aside0.mk h2; clear h2) | (go_at_call 12; (with_reducible refine (HACK.out w2 v2 H2.out).mono ?_); rintro e_ w3 ⟨va, vb, v3, rfl, h3, hra, hrb⟩; obtain ⟨Aa, ca, rfl⟩ := Kd.R_slice hra; obtain ⟨Ab, cb, rfl⟩ := Kd.R_slice hrb; rw [K1.out, K2.out]; have H3 := Aside0.mk h3; clear h3 hra hrb) | (go_at_call 10; (with_reducible refine (window_c g _ _ _ w3 H3.out.lg).mono ?_); rintro e_ w4 ⟨rfl, hd4⟩; have H4 := Aside0.mk (H3.out.drawn hd4); clear hd4; unfold gS; dsimp only))
        go_roundw
        case rel => exact ⟨i + 1, want + (1 + m), by first | rfl | simp, by first | rfl | simp, by first | rfl | simp, ⟨by have := HJ.out; have := HI.out; omega⟩, v3, H4⟩
        case measure => have := HJ.out; simp [intOf]; omega
      · have M1 : decide ((i : Int) < (xs.length : Int)) = true := decide_eq_true d1
        have M1' : decide (i < xs.length) = true := decide_eq_true (by omega)
        have M2 : decide ((i : Int) < 60) = false := decide_eq_false d2
        have M2' : decide (i < 60) = false := decide_eq_false (by omega)
        have n2 : i ≤ 100000 := by have := HI.out; omega
        have n3 : 12000 ≤ want := by have := HI.out; omega
        have n4 : want ≤ 100000 := by have := HI.out; omega
        clear d1 d2
        have hsn := sent_c g (gS i want) _ v (i : Int) (i : Int) 9 w w1 wr HD.out HG.out (gS_ok n2 (by decide) (by decide)) (Nat.zero_le _)
        have hexp := fun w2 v2 (h : LP w w1 w2 g (.slice none 0 0) v2 (gT i want 9)) => expire_c w w1 w2 g ((i : Int) + 8) _ v2 (gT i want 9) h HG.out (gT_inv n2 n3 n4 ⟨by decide, by decide⟩) (show 1 ≤ 100000 from by decide)
        simp only [grows_exp n2] at hexp
        have hw1 : wrap64 ((i : Int) + 8) = (i : Int) + 8 := by unfold wrap64; omega
        have hw2 : IntKind.i64.wrap ((i : Int) + 8) = (i : Int) + 8 := (i64_w _).trans hw1
        have hd1 : 0 ≤ Int.tdiv want 2 ∧ Int.tdiv want 2 ≤ 100000 := by rw [Int.tdiv_eq_ediv_of_nonneg (by omega)]; omega
        obtain ⟨hf, HF⟩ : ∃ hf, Aside0 (Int.tdiv want 2 = hf) := ⟨_, ⟨rfl⟩⟩
        rw [HF.out] at hd1
        have hw3 : wrap64 hf = hf := by unfold wrap64; omega
        have hw4 : IntKind.i64.wrap hf = hf := (i64_w _).trans hw3
        have HGL : Aside0 (gL want = max 2400 hf) := ⟨by unfold gL; rw [HF.out]; split <;> omega⟩
        have HEXP := Aside0.mk hexp
        have HSN := Aside0.mk hsn
        have K1 : Aside0 ([(i : Int)].length = 1) := ⟨rfl⟩
        have hf1 := HF.out
        clear n2 n3 n4 hsn hexp hd1
        go_wp2_with (first | (go_at_call 11; (with_reducible refine (HSN.out).mono ?_); rintro e_ w2 ⟨rfl, v2, h2⟩; have H2 : Aside0 (LP w w1 w2 g (.slice none 0 0) v2 (gT i want 9)) := Aside0.mk h2; clear h2) | (go_at_call 13; (with_reducible refine (HEXP.out w2 v2 H2.out).mono ?_); rintro e_ w3 ⟨va, v3, rfl, h3, hra⟩; obtain ⟨Aa, ca, rfl⟩ := Kd.R_slice hra; obtain ⟨ae, hAe, rws⟩ := el_int (Kd.R_reads' hra).2.2 0 (Int.le_refl _) (show (0 : Int) < 1 from by decide); subst hAe; have xe : w3.cell? ae = some (.int .i64 (i : Int)) := rws w3 (Below.refl _ _); rw [K1.out]; have H3 := Aside0.mk h3; clear h3 hra rws) | (go_at_call 10; (with_reducible refine (window_c g _ _ _ w3 H3.out.lg).mono ?_); rintro e_ w4 ⟨rfl, hd4⟩; have H4 := Aside0.mk (H3.out.drawn hd4); clear hd4; dsimp only; rw [HGL.out]))
        all_goals (first | (have hmx : max 2400 hf = hf := (by omega); rw [hmx]; simp only [beq_self_eq_true]) | (have hmx : max 2400 hf = 2400 := (by omega); rw [hmx]; simp only [beq_self_eq_true]))
        all_goals go_ret
        all_goals exact ⟨rfl, H4.out.bel⟩
    · have M1 : decide ((i : Int) < (xs.length : Int)) = false := decide_eq_false d1
      have M1' : decide (i < xs.length) = false := decide_eq_false (by omega)
      have n2 : i ≤ 100000 := by have := HI.out; omega
      have n3 : 12000 ≤ want := by have := HI.out; omega
      have n4 : want ≤ 100000 := by have := HI.out; omega
      clear d1
      have hsn := sent_c g (gS i want) _ v (i : Int) (i : Int) 9 w w1 wr HD.out HG.out (gS_ok n2 (by decide) (by decide)) (Nat.zero_le _)
      have hexp := fun w2 v2 (h : LP w w1 w2 g (.slice none 0 0) v2 (gT i want 9)) => expire_c w w1 w2 g ((i : Int) + 8) _ v2 (gT i want 9) h HG.out (gT_inv n2 n3 n4 ⟨by decide, by decide⟩) (show 1 ≤ 100000 from by decide)
      simp only [grows_exp n2] at hexp
      have hw1 : wrap64 ((i : Int) + 8) = (i : Int) + 8 := by unfold wrap64; omega
      have hw2 : IntKind.i64.wrap ((i : Int) + 8) = (i : Int) + 8 := (i64_w _).trans hw1
      have hd1 : 0 ≤ Int.tdiv want 2 ∧ Int.tdiv want 2 ≤ 100000 := by rw [Int.tdiv_eq_ediv_of_nonneg (by omega)]; omega
      obtain ⟨hf, HF⟩ : ∃ hf, Aside0 (Int.tdiv want 2 = hf) := ⟨_, ⟨rfl⟩⟩
      rw [HF.out] at hd1
      have hw3 : wrap64 hf = hf := by unfold wrap64; omega
      have hw4 : IntKind.i64.wrap hf = hf := (i64_w _).trans hw3
      have HGL : Aside0 (gL want = max 2400 hf) := ⟨by unfold gL; rw [HF.out]; split <;> omega⟩
      have HEXP := Aside0.mk hexp
      have HSN := Aside0.mk hsn
      have K1 : Aside0 ([(i : Int)].length = 1) := ⟨rfl⟩
      have hf1 := HF.out
      clear n2 n3 n4 hsn hexp hd1
      go_wp2_with (first | (go_at_call 11; (with_reducible refine (HSN.out).mono ?_); rintro e_ w2 ⟨rfl, v2, h2⟩; have H2 : Aside0 (LP w w1 w2 g (.slice none 0 0) v2 (gT i want 9)) := Aside0.mk h2; clear h2) | (go_at_call 13; (with_reducible refine (HEXP.out w2 v2 H2.out).mono ?_); rintro e_ w3 ⟨va, v3, rfl, h3, hra⟩; obtain ⟨Aa, ca, rfl⟩ := Kd.R_slice hra; obtain ⟨ae, hAe, rws⟩ := el_int (Kd.R_reads' hra).2.2 0 (Int.le_refl _) (show (0 : Int) < 1 from by decide); subst hAe; have xe : w3.cell? ae = some (.int .i64 (i : Int)) := rws w3 (Below.refl _ _); rw [K1.out]; have H3 := Aside0.mk h3; clear h3 hra rws) | (go_at_call 10; (with_reducible refine (window_c g _ _ _ w3 H3.out.lg).mono ?_); rintro e_ w4 ⟨rfl, hd4⟩; have H4 := Aside0.mk (H3.out.drawn hd4); clear hd4; dsimp only; rw [HGL.out]))
      all_goals (first | (have hmx : max 2400 hf = hf := (by omega); rw [hmx]; simp only [beq_self_eq_true]) | (have hmx : max 2400 hf = 2400 := (by omega); rw [hmx]; simp only [beq_self_eq_true]))
      all_goals go_ret
      all_goals exact ⟨rfl, H4.out.bel⟩
end Go.Proofs.Ytgdgegkokghedaa.Walk
