/- The walk of AcksWhole. gen/mk_whole08.py writes this text. -/
import Derived.Test.YtanebifiafghnaaWorks08
namespace Go.Proofs.Ytanebifiafghnaa.Walk
open Go.RowKit Go.Deep Go.Proofs.YtanebifiafghnaaW.PrintWords Go.Proofs.YtanebifiafghnaaW.PrintLast Go.Proofs.YtanebifiafghnaaW.PrintMore Go.Proofs.Ytanebifiafghnaa.PAcksRight Go.Proofs.Ytanebifiafghnaa Go.Proofs.Ytanebifiafghnaa.Ack
set_option linter.unusedVariables false
set_option linter.unusedSimpArgs false
theorem el_int {w : World} {A : Option Addr} {xs : List Int} (h : (Kd.int .i64).C w A xs.length xs) (i : Int) (h0 : 0 ≤ i) (h1 : i < xs.length) : ∃ ad, A = some ad ∧ ∀ W, Below w.heap.size w W → W.cell? (ad.add i.toNat) = some (.int .i64 (xs.getD i.toNat 0)) := by
  obtain ⟨ad, c, e, _, hK, hc0⟩ := Kd.C_get h 0 i h0 h1
  refine ⟨ad, e, fun W hb => ?_⟩
  obtain ⟨ad2, c2, e2, _, hK2, hc2⟩ := Kd.C_get (Kd.C_below h hb) 0 i h0 h1
  obtain rfl : ad = ad2 := Option.some.inj (e.symm.trans e2)
  obtain rfl : c2 = [.int .i64 (xs.getD i.toNat 0)] := hK2
  have := hc2 0 _ rfl
  rwa [show i.toNat * (Kd.int .i64).sz + 0 = i.toNat from by show i.toNat * 1 + 0 = _; omega] at this
theorem u_range (y : Int) : 0 ≤ Int.tmod (IntKind.u64.wrap y) 1000 ∧ Int.tmod (IntKind.u64.wrap y) 1000 < 1000 := by
  have h0 : 0 ≤ IntKind.u64.wrap y := by
    show 0 ≤ y % 18446744073709551616
    omega
  rw [Int.tmod_eq_emod_of_nonneg h0]
  omega
theorem m_facts {m : Int} (h0 : 0 ≤ m) (h1 : m < 1000) : IntKind.u64.wrap m = m ∧ wrap64 m = m ∧ IntKind.i64.wrap m = m ∧ fineB ⟨m, m⟩ = true := by
  have h : wrap64 m = m := by unfold wrap64; omega
  exact ⟨by show m % 18446744073709551616 = m; omega, h, (i64_w _).trans h, (fineB_iff _).2 ⟨h0, Int.le_refl _, by show m ≤ _; omega⟩⟩
theorem i_facts {i n : Nat} (h : i < n) (h2 : i < 60) : wrap64 ((i : Int) + 1) = ((i + 1 : Nat) : Int) ∧ IntKind.i64.wrap ((i : Int) + 1) = ((i + 1 : Nat) : Int) ∧ decide ((i : Int) < (n : Int)) = true ∧ decide (i < n) = true ∧ decide ((i : Int) < 60) = true ∧ decide (i < 60) = true ∧ ((i : Int) < (n : Int)) = True ∧ (i < n) = True ∧ ((0 : Int) ≤ (i : Int)) = True := by
  have hw : wrap64 ((i : Int) + 1) = ((i + 1 : Nat) : Int) := by unfold wrap64; omega
  exact ⟨hw, (i64_w _).trans hw, decide_eq_true (by omega), decide_eq_true h, decide_eq_true (by omega), decide_eq_true h2, eq_true (by omega), eq_true h, eq_true (by omega)⟩
set_option maxHeartbeats 8000000 in
set_option maxRecDepth 100000 in
theorem acksWhole_walk {P : Prop} (A : Option Addr) (cap : Nat) (xs : List Int) (w : World) (hr : (Kd.int .i64).C w A xs.length xs) (hc : xs.length ≤ cap) (G0 : P) :
    Calls Try.prog 4 #[.slice A xs.length cap] w fun e w' => e = .returned (.bool true) ∧ Below w.heap.size w w' := by
  have HR := Aside0.mk hr
  clear hr hc G0
  go_enter Try.func4, Try.ntmps4
  go_wp2_with (first | (go_at_call 11; (with_reducible refine (works_c _).mono ?_); rintro e_ w0 ⟨rfl, hb⟩; have HB0 := Aside0.mk hb; clear hb) | (go_at_call 12; (with_reducible refine (new_c _).mono ?_); rintro e_ w1 ⟨g, rfl, hg, hblk, hb⟩; have HG := Aside0.mk (show w.heap.size ≤ g from Nat.le_trans HB0.out.size hg); have H1 := Aside0.mk (SP.start (show SG w.heap.size w1 g [] (.slice none 0 0) from ⟨hblk, Kd.R_nil _ _ _ _ _⟩) (below_step HB0.out hb)); clear hg hblk hb))
  go_loopw [4] (fun v4 wr => ∃ i : Nat, v4 = .int .i64 (i : Int) ∧ Aside0 (i ≤ 60) ∧ ∃ v l, Aside0 (SP w wr wr g v v l) ∧ Aside0 (NF l) ∧ Aside0 (l.length ≤ 16) ∧ Aside0 (Within 0 1000 l)) (fun v4 _ => (60 - intOf v4).toNat)
  case atStart => exact ⟨0, rfl, ⟨by omega⟩, _, [], H1, ⟨NF.nil⟩, ⟨by decide⟩, ⟨fun x hx => by cases hx⟩⟩
  case round =>
    obtain ⟨i, rfl, HI, v, l, HD, HNF, HLN, HWI⟩ := hrel
    by_cases d1 : (i : Int) < (xs.length : Int)
    · by_cases d2 : (i : Int) < 60
      · obtain ⟨ad, hA, rows⟩ := el_int HR.out (i : Int) (by omega) d1
        subst hA
        have x0 := rows wr (below_step HD.out.bel (Below.refl _ _))
        rw [Int.toNat_natCast] at x0
        have hz := u_range (xs.getD i 0)
        generalize xs.getD i 0 = y at x0 hz
        obtain ⟨q, HQ, hz⟩ : ∃ q, Aside0 (IntKind.u64.wrap y = q) ∧ (0 ≤ Int.tmod q 1000 ∧ Int.tmod q 1000 < 1000) := ⟨_, ⟨rfl⟩, hz⟩
        obtain ⟨m, HM, hz⟩ : ∃ m, Aside0 (Int.tmod q 1000 = m) ∧ (0 ≤ m ∧ m < 1000) := ⟨_, ⟨rfl⟩, hz⟩
        have HZ := Aside0.mk hz
        have HJ := Aside0.mk (And.intro d1 d2)
        have hif := i_facts (show i < xs.length by omega) (show i < 60 by omega)
        obtain ⟨w1_, w2_, w3_, hfin⟩ := m_facts hz.1 hz.2
        have hdr : Below wr.heap.size wr wr.drew := below_drew1 (Below.refl _ _)
        have hpd := HD.out.below hdr
        have HAD := Aside0.mk (add_ok w wr.drew wr.drew g _ v l m m (SP.start hpd.lg hpd.bel) HG.out HNF.out HLN.out hfin)
        have HFI := Aside0.mk hfin
        clear d1 d2 rows hz hfin hdr hpd
        obtain ⟨i1, i2, i3, i4, i5, i6, i7, i8, i9⟩ := hif
        have hq := HQ.out
        have hm := HM.out
        go_wp2_with (fail)
        refine Calm.wp_region_phC [(4, fun w_ => w_.cell? (ad.add i) = some (.int .i64 y)), (11, fun w_ => w_.cell? (ad.add i) = some (.int .i64 y))] [([0, 1, 2, 3, 4, 5, 6, 7, 8, 9, 10, 11, 12, 13, 14], [15])] (by kernel_rfl) (by kernel_rfl) ?_
        refine Calm.ph_next ?_ ?_
        · repeat (first | exact Calm.okI_nil | (refine Calm.okI_cons (Or.inl (by decide)) ?_) | (refine Calm.okI_cons (Or.inr (by exact x0)) ?_))
        repeat (first
          | (refine Calm.g_value (v := ?_) (a' := ?_) rfl rfl (by rfl) ?_ ?_ ?_; rotate_left; (· rintro w' hS'; (try simp only [Calm.SC_cons, Calm.SC_nil, Nat.reduceEqDiff, forall_const, false_implies, and_true, true_and] at hS'); (try obtain ⟨hS1, hS2⟩ := hS'); go_simp; with_reducible rfl); rotate_left; (· simp only [Act.put, List.setIfInBounds_toArray, List.set_cons_zero, List.set_cons_succ, i64_w, i32_w]; rfl)))
        refine Calm.g_nil ?_
        refine Calm.c_call rfl rfl Try.func13 (by kernel_rfl) rfl #[.pointer (some ⟨g, 0, none⟩), .int .i64 m, .int .i64 m] (by rfl) rfl (by (try simp only [List.map_toArray, List.map_cons, List.map_nil]); rfl) ?_
        (with_reducible refine (HAD.out).mono ?_)
        rintro e_ w3 ⟨v3, l3, rfl, h3, ha3⟩; have H3 := Aside0.mk h3; have HA3 := Aside0.mk ha3; clear h3 ha3
        refine ⟨_, rfl, ?_, ?_⟩
        · repeat (first | exact Calm.okC_nil | (refine Calm.okC_cons (Or.inl (by decide +kernel)) ?_) | (refine Calm.okC_cons (Or.inr (by fail)) ?_))
        refine Calm.put_to (a' := ?_) ?_ ?_
        rotate_left
        · simp only [Act.put, List.setIfInBounds_toArray, List.set_cons_zero, List.set_cons_succ, i64_w, i32_w]; rfl
        refine Calm.h_nil ?_
        refine Calm.ph_end ?_
        simp only [Exit.inBlock, Exit.then]
        go_wp2_with (fail)
        go_roundw
        case rel =>
          clear w1_ w2_ w3_ i1 i2
          have hnf := HA3.out.nf HNF.out HFI.out
          exact ⟨i + 1, by first | rfl | simp, ⟨by have := HJ.out; omega⟩, v3, l3, ⟨SP.start H3.out.lg H3.out.bel⟩, ⟨hnf.1⟩, ⟨hnf.2⟩, ⟨HA3.out.within HNF.out HWI.out HZ.out.1 (by have := HZ.out; omega) (Int.le_refl _)⟩⟩
        case measure => clear w1_ w2_ w3_ i1 i2; have := HJ.out; simp [intOf]; omega
      · have M1 : decide ((i : Int) < (xs.length : Int)) = true := decide_eq_true d1
        have M1' : decide (i < xs.length) = true := decide_eq_true (by omega)
        have M2 : decide ((i : Int) < 60) = false := decide_eq_false d2
        have M2' : decide (i < 60) = false := decide_eq_false (by omega)
        clear d1 d2
        have HAD := Aside0.mk (add_ok w wr wr g _ v l 0 1000 (SP.start HD.out.lg HD.out.bel) HG.out HNF.out HLN.out (by decide))
        go_wp2_with (first | (go_at_call 13; (with_reducible refine (HAD.out).mono ?_); rintro e_ w3 ⟨v3, l3, rfl, h3, ha3⟩; obtain rfl := ha3.whole HNF.out HWI.out; have H3 := Aside0.mk h3; clear h3 ha3) | (go_at_call 14; (with_reducible refine (ranges_c g w.heap.size _ _ w.heap.size w3 H3.out.lg (by decide) H3.out.bel.size).mono ?_); rintro e_ w5 ⟨v5, rfl, hr, hb⟩; obtain ⟨Aa, ca, rfl⟩ := Kd.R_slice hr; obtain ⟨ae, hAe, ce0, ce1⟩ := first35 (Kd.R_reads' hr).2.2; subst hAe; dsimp only at ce0 ce1; rw [show ([(⟨0, 1000⟩ : S35)] : List S35).length = 1 from rfl]; have H5 := Aside0.mk (SP.below (SP.start H3.out.lg H3.out.bel) hb); clear hr hb))
        go_ret
        exact ⟨rfl, H5.out.bel⟩
    · have M1 : decide ((i : Int) < (xs.length : Int)) = false := decide_eq_false d1
      have M1' : decide (i < xs.length) = false := decide_eq_false (by omega)
      clear d1
      have HAD := Aside0.mk (add_ok w wr wr g _ v l 0 1000 (SP.start HD.out.lg HD.out.bel) HG.out HNF.out HLN.out (by decide))
      go_wp2_with (first | (go_at_call 13; (with_reducible refine (HAD.out).mono ?_); rintro e_ w3 ⟨v3, l3, rfl, h3, ha3⟩; obtain rfl := ha3.whole HNF.out HWI.out; have H3 := Aside0.mk h3; clear h3 ha3) | (go_at_call 14; (with_reducible refine (ranges_c g w.heap.size _ _ w.heap.size w3 H3.out.lg (by decide) H3.out.bel.size).mono ?_); rintro e_ w5 ⟨v5, rfl, hr, hb⟩; obtain ⟨Aa, ca, rfl⟩ := Kd.R_slice hr; obtain ⟨ae, hAe, ce0, ce1⟩ := first35 (Kd.R_reads' hr).2.2; subst hAe; dsimp only at ce0 ce1; rw [show ([(⟨0, 1000⟩ : S35)] : List S35).length = 1 from rfl]; have H5 := Aside0.mk (SP.below (SP.start H3.out.lg H3.out.bel) hb); clear hr hb))
      go_ret
      exact ⟨rfl, H5.out.bel⟩
end Go.Proofs.Ytanebifiafghnaa.Walk
