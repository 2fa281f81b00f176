/- The walk of LedgerEnds. -/
import Derived.Test.YtgdgegkokghedaaWorks10
namespace Go.Proofs.Ytgdgegkokghedaa.Walk
open Go.RowKit Go.Deep Go.Proofs.YtgdgegkokghedaaW.PrintWords Go.Proofs.YtgdgegkokghedaaW.PrintLast Go.Proofs.YtgdgegkokghedaaW.PrintMore Go.Proofs.Ytgdgegkokghedaa.PLedgerKeeps Go.Proofs.Ytgdgegkokghedaa Go.Proofs.Ytgdgegkokghedaa.Led
set_option linter.unusedVariables false
set_option linter.unusedSimpArgs false
theorem el_int {w : World} {A : Option Addr} {xs : List Int} (h : (Kd.int .i64).C w A xs.length xs) (i : Int) (h0 : 0 ≤ i) (h1 : i < xs.length) : ∃ ad, A = some ad ∧ ∀ W, Below w.heap.size w W → W.cell? (ad.add i.toNat) = some (.int .i64 (xs.getD i.toNat 0)) := by
  obtain ⟨ad, c, e, _, hK, hc0⟩ := Kd.C_get h 0 i h0 h1
  refine ⟨ad, e, fun W hb => ?_⟩
  obtain ⟨ad2, c2, e2, _, hK2, hc2⟩ := Kd.C_get (Kd.C_below h hb) 0 i h0 h1
  obtain rfl : ad = ad2 := Option.some.inj (e.symm.trans e2)
  obtain rfl : c2 = [.int .i64 (xs.getD i.toNat 0)] := hK2
  have := hc2 0 _ rfl
  rwa [show i.toNat * (Kd.int .i64).sz + 0 = i.toNat from by show i.toNat * 1 + 0 = _; omega] at this
def sizeOf (y : Int) : Int := 1 + Int.tmod (IntKind.u64.wrap y) 1200
theorem size_range (y : Int) : 0 ≤ Int.tmod (IntKind.u64.wrap y) 1200 ∧ Int.tmod (IntKind.u64.wrap y) 1200 < 1200 := by
  have h0 : 0 ≤ IntKind.u64.wrap y := by
    show 0 ≤ y % 18446744073709551616
    omega
  rw [Int.tmod_eq_emod_of_nonneg h0]
  omega
/-- What stands when n packets have been sent, one each tick. -/
structure SentP (s : LS) (n : Nat) : Prop where
  inv : Inv s
  top : s.top = (n : Int) - 1
  len : s.fl.length = n
  back : s.back = 0
  first : 0 < n → ∃ x ∈ s.fl, x.f1 = 0
theorem sentP_init : SentP initL 0 := ⟨inv_init, rfl, rfl, rfl, fun h => absurd h (by decide)⟩
theorem SentP.ok {s : LS} {n : Nat} (h : SentP s n) (hn : n ≤ 100000) {z : Int} (h0 : 1 ≤ z) (h1 : z ≤ 1200) : sentOk s n z := ⟨by rw [h.top]; omega, by omega, h0, h1⟩
theorem SentP.next {s : LS} {n : Nat} (h : SentP s n) (hn : n ≤ 100000) {z : Int} (h0 : 1 ≤ z) (h1 : z ≤ 1200) : SentP { s with fl := s.fl ++ [⟨(n : Int), (n : Int), z⟩], top := (n : Int) } (n + 1) := by
  refine ⟨inv_sent h.inv (h.ok hn h0 h1), by show (n : Int) = _; omega, by show (s.fl ++ _).length = _; rw [List.length_append, h.len]; rfl, h.back, fun _ => ?_⟩
  by_cases h0 : n = 0
  · subst h0
    exact ⟨⟨((0 : Nat) : Int), ((0 : Nat) : Int), z⟩, List.mem_append_right _ (List.mem_singleton.2 rfl), rfl⟩
  · obtain ⟨x, hx, he⟩ := h.first (by omega)
    exact ⟨x, List.mem_append_left _ hx, he⟩
theorem ends_exp {s : LS} {n : Nat} (h : SentP s n) (hn : n ≤ 100000) : (expR ((n : Int) + 8) s).2.length = n ∧ (expR ((n : Int) + 8) s).1.fl = [] := by
  by_cases h0 : n = 0
  · have hf : s.fl = [] := List.length_eq_zero_iff.1 (by rw [h.len]; exact h0)
    have hd : dueV ((n : Int) + 8) s = false := by unfold dueV; rw [hf]; rfl
    unfold expR
    rw [hd]
    exact ⟨h0.symm, hf⟩
  · have hd : dueV ((n : Int) + 8) s = true := by
      unfold dueV
      rw [List.any_eq_true]
      obtain ⟨x, hx, he⟩ := h.first (by omega)
      refine ⟨x, hx, ?_⟩
      unfold dueP
      rw [he, h.back, show waitV 0 = 8 from rfl, decide_eq_true (show (n : Int) + 8 > 0 by omega), Bool.true_and, decide_eq_true_eq]
      show (8 : Int) % 18446744073709551616 ≤ (((n : Int) + 8) % 18446744073709551616 - 0 % 18446744073709551616) % 18446744073709551616
      omega
    unfold expR
    rw [hd]
    refine ⟨by show (Led.nums s.fl).length = n; unfold Led.nums; rw [List.length_map]; exact h.len, ?_⟩
    show (expS s).fl = []
    unfold expS
    exact (lose_fl _ _).1
theorem ends_ack {s : LS} {n : Nat} (h : SentP s n) (hn : n ≤ 100000) (h0 : 0 < n) : (ackR s [⟨0, (n : Int) - 1⟩]).told.length = n ∧ (ackR s [⟨0, (n : Int) - 1⟩]).lost = [] ∧ (ackR s [⟨0, (n : Int) - 1⟩]).er = 0 ∧ (ackR s [⟨0, (n : Int) - 1⟩]).st.fl = [] := by
  have hc : chkV [⟨0, (n : Int) - 1⟩] = 0 := chkV_one _ ((fineB_iff _).2 ⟨Int.le_refl _, by show (0 : Int) ≤ n - 1; omega, by show (n : Int) - 1 ≤ _; omega⟩)
  have hall : ∀ x ∈ s.fl, anyR x.f0 [⟨0, (n : Int) - 1⟩] = true := fun x hx => by
    have h1 := h.inv.fl x hx
    have h2 := h.top
    unfold anyR
    simp only [List.any_cons, List.any_nil, Bool.or_false]
    unfold inR
    simp only [Bool.and_eq_true, decide_eq_true_eq]
    omega
  have e1 : ackTold s [⟨0, (n : Int) - 1⟩] = s.fl := List.filter_eq_self.2 hall
  have e2 : (ackS0 s [⟨0, (n : Int) - 1⟩]).fl = [] := List.filter_eq_nil_iff.2 (fun x hx => by rw [hall x hx]; simp)
  have e3 : (ackS1 s [⟨0, (n : Int) - 1⟩]).fl = [] := by unfold ackS1; rw [(told_fl _ _).1]; exact e2
  have e4 : ackLost s [⟨0, (n : Int) - 1⟩] = [] := by unfold ackLost; rw [e3]; rfl
  unfold ackR
  rw [if_neg (by rw [hc]; decide), if_neg (by simp), if_neg (show ¬ hiOf [⟨0, (n : Int) - 1⟩] > s.top by rw [h.top]; show ¬ (n : Int) - 1 > _; omega)]
  refine ⟨by show (Led.nums (ackTold s _)).length = n; rw [e1]; unfold Led.nums; rw [List.length_map]; exact h.len, by show Led.nums (ackLost s _) = []; rw [e4]; rfl, rfl, ?_⟩
  show (ackS3 s _).fl = []
  unfold ackS3
  rw [(lose_fl _ _).1]
  show (ackS1 s _).fl.filter _ = []
  rw [e3]
  rfl
set_option maxHeartbeats 8000000 in
set_option maxRecDepth 100000 in
theorem ledgerEnds_walk (A : Option Addr) (cap : Nat) (xs : List Int) (tell : Bool) (w : World) (hr : (Kd.int .i64).C w A xs.length xs) (hc : xs.length ≤ cap) (G0 : xs.length * 8 ≤ 140737488351232 ∧ ∀ y ∈ xs, (Lit.int .i64 y).wf = true) :
    Calls Try.prog 6 #[.slice A xs.length cap, .bool tell] w fun e w' => e = .returned (.bool true) ∧ Below w.heap.size w w' := by
  have HR := Aside0.mk hr
  have HN := Aside0.mk G0.1
  clear hr hc G0
  go_enter Try.func6, Try.ntmps6
  go_wp2_with (first | (go_at_call 8; (with_reducible refine (works_c _).mono ?_); rintro e_ w0 ⟨rfl, hb⟩; have HB0 := Aside0.mk hb; clear hb) | (go_at_call 9; (with_reducible refine (new_c _).mono ?_); rintro e_ w1 ⟨g, rfl, hg, hblk, hb⟩; have HL1 := Aside0.mk (LP.start (lg_new (w0 := w) hblk) (below_step HB0.out hb)); have HG := Aside0.mk (show w.heap.size ≤ g from Nat.le_trans HB0.out.size hg); clear hg hblk hb))
  go_loopw [6, 7] (fun v6 v7 wr => ∃ i : Nat, v6 = .int .i64 (i : Int) ∧ v7 = .int .i64 (i : Int) ∧ Aside0 (i ≤ xs.length ∧ i ≤ 100) ∧ ∃ v s, Aside0 (LP w w1 wr g (.slice none 0 0) v s) ∧ Aside0 (SentP s i)) (fun v6 _ _ => (100 - intOf v6).toNat)
  case atStart => exact ⟨0, rfl, rfl, ⟨by omega⟩, _, _, HL1, ⟨sentP_init⟩⟩
  case round =>
    obtain ⟨i, rfl, rfl, HI, v, s, HD, HS⟩ := hrel
    by_cases d1 : (i : Int) < (xs.length : Int)
    · by_cases d2 : (i : Int) < 100
      · have M1 : decide ((i : Int) < (xs.length : Int)) = true := decide_eq_true d1
        have M1' : decide (i < xs.length) = true := decide_eq_true (by omega)
        have M2 : decide ((i : Int) < 100) = true := decide_eq_true d2
        have M2' : decide (i < 100) = true := decide_eq_true (by omega)
        have n1 : i < xs.length := by omega
        have n2 : i ≤ 100000 := by omega
        obtain ⟨ad, hA, rows⟩ := el_int HR.out (i : Int) (by omega) d1
        subst hA
        have x0 := rows wr (below_step HD.out.bel (Below.refl _ _))
        rw [Int.toNat_natCast] at x0
        have hz := size_range (xs.getD i 0)
        generalize xs.getD i 0 = y at x0 hz
        obtain ⟨q, HQ, hz⟩ : ∃ q, Aside0 (IntKind.u64.wrap y = q) ∧ (0 ≤ Int.tmod q 1200 ∧ Int.tmod q 1200 < 1200) := ⟨_, ⟨rfl⟩, hz⟩
        obtain ⟨m, HM, hz⟩ : ∃ m, Aside0 (Int.tmod q 1200 = m) ∧ (0 ≤ m ∧ m < 1200) := ⟨_, ⟨rfl⟩, hz⟩
        have hz1 : 1 ≤ 1 + m := by omega
        have hz2 : 1 + m ≤ 1200 := by omega
        have hm1 : IntKind.u64.wrap m = m := (by show m % 18446744073709551616 = m; omega)
        have hm2 : wrap64 m = m := by unfold wrap64; omega
        have hm3 : IntKind.i64.wrap m = m := (i64_w _).trans hm2
        have hm4 : wrap64 (1 + m) = 1 + m := by unfold wrap64; omega
        have hm5 : IntKind.i64.wrap (1 + m) = 1 + m := (i64_w _).trans hm4
        have hw1 : wrap64 ((i : Int) + 1) = ((i + 1 : Nat) : Int) := by unfold wrap64; omega
        have hw2 : IntKind.i64.wrap ((i : Int) + 1) = ((i + 1 : Nat) : Int) := (i64_w _).trans hw1
        have hsn := sent_c g s _ v (i : Int) (i : Int) (1 + m) w w1 wr HD.out HG.out (HS.out.ok n2 hz1 hz2) (by rw [HS.out.len]; exact n2)
        have HNX := Aside0.mk (HS.out.next (z := 1 + m) n2 hz1 hz2)
        have HSN := Aside0.mk hsn
        have HJ := Aside0.mk (And.intro d1 d2)
        have p1 := eq_true d1
        have p2 : ((i : Int) < (xs.length : Int)) = True := p1
        have p3 := eq_true n1
        clear d1 d2 n1 n2 hz1 hz2 hsn hz rows
        have hq := HQ.out
        have hm := HM.out
        go_wp2_with (go_at_call 11; (with_reducible refine (HSN.out).mono ?_); rintro e_ w2 ⟨rfl, v2, h2⟩; have H2 := Aside0.mk h2; clear h2)
        go_roundw
        case rel => exact ⟨i + 1, by first | rfl | simp, by first | rfl | simp, ⟨by have := HJ.out; omega⟩, v2, _, H2, HNX⟩
        case measure => have := HJ.out; simp [intOf]; omega
      · have M1 : decide ((i : Int) < (xs.length : Int)) = true := decide_eq_true d1
        have M1' : decide (i < xs.length) = true := decide_eq_true (by omega)
        have M2 : decide ((i : Int) < 100) = false := decide_eq_false d2
        have M2' : decide (i < 100) = false := decide_eq_false (by omega)
        clear d1 d2
        rcases Bool.eq_false_or_eq_true tell with ht | ht
        · by_cases h0 : 0 < i
          · have E1 : decide ((i : Int) > 0) = true := decide_eq_true (by omega)
            have E2 : decide (0 < (i : Int)) = true := decide_eq_true (by omega)
            have E3 : decide (0 < i) = true := decide_eq_true h0
            have hw1 : wrap64 ((i : Int) - 1) = (i : Int) - 1 := by have := HI.out; unfold wrap64; omega
            have hw2 : IntKind.i64.wrap ((i : Int) - 1) = (i : Int) - 1 := (i64_w _).trans hw1
            obtain ⟨k1, k2, k3, k4⟩ := ends_ack HS.out (by have := HI.out; omega) h0
            have hd2 := HD.out.below (below_alloc (Below.refl _ _) (.cells #[.int .i64 0, .int .i64 ((i : Int) - 1)] 34))
            have hne : some wr.heap.size ≠ v.ownBlock := fun he => by have := ((Kd.R_bound HD.out.lg.row).1 _ he.symm).2.2.1; omega
            have hng : wr.heap.size ≠ g := fun he => by have := blk_lt HD.out.lg.blk; omega
            have hack := acked_c w w1 _ g 1 (some ⟨wr.heap.size, 0, none⟩) [⟨0, (i : Int) - 1⟩] _ v s hd2 HG.out (one_keep (blk_new wr (.cells #[.int .i64 0, .int .i64 ((i : Int) - 1)] 34)) hng hne) (by simp) HS.out.inv (by rw [HS.out.len]; have := HI.out; omega)
            generalize ackR s [⟨0, (i : Int) - 1⟩] = R at k1 k2 k3 k4 hack
            obtain ⟨rs, rt, rl, re⟩ := R
            dsimp only [List.length_cons, List.length_nil, Nat.zero_add] at k1 k2 k3 k4 hack
            subst k2 k3
            obtain ⟨fl_, tp_, wn_, th_, mk_, bk_⟩ := rs
            dsimp only at k4
            subst k4
            have HACK := Aside0.mk hack
            have K1 := Aside0.mk k1
            clear hack k1 hd2 hne hng
            subst ht
            clear h0
            go_wp2_with (first | (go_at_call 12; (with_reducible refine (HACK.out).mono ?_); rintro e_ w2 ⟨va, vb, v2, rfl, h2, hra, hrb⟩; obtain ⟨Aa, ca, rfl⟩ := Kd.R_slice hra; obtain ⟨Ab, cb, rfl⟩ := Kd.R_slice hrb; rw [K1.out]; have H2 := Aside0.mk h2; have HFC := Aside0.mk (flight_c g _ _ v2 w w1 w2 h2 (Nat.zero_le _) (fun x hx => by simp at hx)); clear h2 hra hrb) | (go_at_call 19; (with_reducible refine (HFC.out).mono ?_); rintro e_ w3 ⟨rfl, h3⟩; have H3 := Aside0.mk h3; clear h3))
            go_ret
            exact ⟨rfl, H3.out.bel⟩
          · have E1 : decide ((i : Int) > 0) = false := decide_eq_false (by omega)
            have E2 : decide (0 < (i : Int)) = false := decide_eq_false (by omega)
            have E3 : decide (0 < i) = false := decide_eq_false h0
            clear h0
            obtain ⟨k1, k4⟩ := ends_exp HS.out (by have := HI.out; omega)
            have hwt := wait_c g _ s v wr HD.out.lg HS.out.inv.b0 HS.out.inv.b1
            rw [HS.out.back, show waitV 0 = 8 from rfl] at hwt
            have HWT := Aside0.mk hwt
            have hexp := fun w2 (h : LP w w1 w2 g (.slice none 0 0) v s) => expire_c w w1 w2 g ((i : Int) + 8) _ v s h HG.out HS.out.inv (by rw [HS.out.len]; have := HI.out; omega)
            have hw1 : wrap64 ((i : Int) + 8) = (i : Int) + 8 := by have := HI.out; unfold wrap64; omega
            have hw2 : IntKind.i64.wrap ((i : Int) + 8) = (i : Int) + 8 := (i64_w _).trans hw1
            generalize expR ((i : Int) + 8) s = R at k1 k4 hexp
            obtain ⟨⟨fl_, tp_, wn_, th_, mk_, bk_⟩, rl⟩ := R
            dsimp only at k1 k4 hexp
            subst k4
            have HEXP := Aside0.mk hexp
            have K1 := Aside0.mk k1
            clear hexp k1 hwt
            subst ht
            go_wp2_with (first | (go_at_call 21; (with_reducible refine (HWT.out).mono ?_); rintro e_ w2 ⟨rfl, hd⟩; have H2 := Aside0.mk (HD.out.drawn hd); clear hd) | (go_at_call 13; (with_reducible refine (HEXP.out _ H2.out).mono ?_); rintro e_ w3 ⟨va, v2, rfl, h3, hra⟩; obtain ⟨Aa, ca, rfl⟩ := Kd.R_slice hra; rw [K1.out]; have HFC := Aside0.mk (flight_c g _ _ v2 w w1 w3 h3 (Nat.zero_le _) (fun x hx => by simp at hx)); clear h3 hra) | (go_at_call 19; (with_reducible refine (HFC.out).mono ?_); rintro e_ w4 ⟨rfl, h4⟩; have H4 := Aside0.mk h4; clear h4))
            go_ret
            exact ⟨rfl, H4.out.bel⟩
        · obtain ⟨k1, k4⟩ := ends_exp HS.out (by have := HI.out; omega)
          have hwt := wait_c g _ s v wr HD.out.lg HS.out.inv.b0 HS.out.inv.b1
          rw [HS.out.back, show waitV 0 = 8 from rfl] at hwt
          have HWT := Aside0.mk hwt
          have hexp := fun w2 (h : LP w w1 w2 g (.slice none 0 0) v s) => expire_c w w1 w2 g ((i : Int) + 8) _ v s h HG.out HS.out.inv (by rw [HS.out.len]; have := HI.out; omega)
          have hw1 : wrap64 ((i : Int) + 8) = (i : Int) + 8 := by have := HI.out; unfold wrap64; omega
          have hw2 : IntKind.i64.wrap ((i : Int) + 8) = (i : Int) + 8 := (i64_w _).trans hw1
          generalize expR ((i : Int) + 8) s = R at k1 k4 hexp
          obtain ⟨⟨fl_, tp_, wn_, th_, mk_, bk_⟩, rl⟩ := R
          dsimp only at k1 k4 hexp
          subst k4
          have HEXP := Aside0.mk hexp
          have K1 := Aside0.mk k1
          clear hexp k1 hwt
          subst ht
          go_wp2_with (first | (go_at_call 21; (with_reducible refine (HWT.out).mono ?_); rintro e_ w2 ⟨rfl, hd⟩; have H2 := Aside0.mk (HD.out.drawn hd); clear hd) | (go_at_call 13; (with_reducible refine (HEXP.out _ H2.out).mono ?_); rintro e_ w3 ⟨va, v2, rfl, h3, hra⟩; obtain ⟨Aa, ca, rfl⟩ := Kd.R_slice hra; rw [K1.out]; have HFC := Aside0.mk (flight_c g _ _ v2 w w1 w3 h3 (Nat.zero_le _) (fun x hx => by simp at hx)); clear h3 hra) | (go_at_call 19; (with_reducible refine (HFC.out).mono ?_); rintro e_ w4 ⟨rfl, h4⟩; have H4 := Aside0.mk h4; clear h4))
          go_ret
          exact ⟨rfl, H4.out.bel⟩
    · have M1 : decide ((i : Int) < (xs.length : Int)) = false := decide_eq_false d1
      have M1' : decide (i < xs.length) = false := decide_eq_false (by omega)
      clear d1
      rcases Bool.eq_false_or_eq_true tell with ht | ht
      · by_cases h0 : 0 < i
        · have E1 : decide ((i : Int) > 0) = true := decide_eq_true (by omega)
          have E2 : decide (0 < (i : Int)) = true := decide_eq_true (by omega)
          have E3 : decide (0 < i) = true := decide_eq_true h0
          have hw1 : wrap64 ((i : Int) - 1) = (i : Int) - 1 := by have := HI.out; unfold wrap64; omega
          have hw2 : IntKind.i64.wrap ((i : Int) - 1) = (i : Int) - 1 := (i64_w _).trans hw1
          obtain ⟨k1, k2, k3, k4⟩ := ends_ack HS.out (by have := HI.out; omega) h0
          have hd2 := HD.out.below (below_alloc (Below.refl _ _) (.cells #[.int .i64 0, .int .i64 ((i : Int) - 1)] 34))
          have hne : some wr.heap.size ≠ v.ownBlock := fun he => by have := ((Kd.R_bound HD.out.lg.row).1 _ he.symm).2.2.1; omega
          have hng : wr.heap.size ≠ g := fun he => by have := blk_lt HD.out.lg.blk; omega
          have hack := acked_c w w1 _ g 1 (some ⟨wr.heap.size, 0, none⟩) [⟨0, (i : Int) - 1⟩] _ v s hd2 HG.out (one_keep (blk_new wr (.cells #[.int .i64 0, .int .i64 ((i : Int) - 1)] 34)) hng hne) (by simp) HS.out.inv (by rw [HS.out.len]; have := HI.out; omega)
          generalize ackR s [⟨0, (i : Int) - 1⟩] = R at k1 k2 k3 k4 hack
          obtain ⟨rs, rt, rl, re⟩ := R
          dsimp only [List.length_cons, List.length_nil, Nat.zero_add] at k1 k2 k3 k4 hack
          subst k2 k3
          obtain ⟨fl_, tp_, wn_, th_, mk_, bk_⟩ := rs
          dsimp only at k4
          subst k4
          have HACK := Aside0.mk hack
          have K1 := Aside0.mk k1
          clear hack k1 hd2 hne hng
          subst ht
          clear h0
          go_wp2_with (first | (go_at_call 12; (with_reducible refine (HACK.out).mono ?_); rintro e_ w2 ⟨va, vb, v2, rfl, h2, hra, hrb⟩; obtain ⟨Aa, ca, rfl⟩ := Kd.R_slice hra; obtain ⟨Ab, cb, rfl⟩ := Kd.R_slice hrb; rw [K1.out]; have H2 := Aside0.mk h2; have HFC := Aside0.mk (flight_c g _ _ v2 w w1 w2 h2 (Nat.zero_le _) (fun x hx => by simp at hx)); clear h2 hra hrb) | (go_at_call 19; (with_reducible refine (HFC.out).mono ?_); rintro e_ w3 ⟨rfl, h3⟩; have H3 := Aside0.mk h3; clear h3))
          go_ret
          exact ⟨rfl, H3.out.bel⟩
        · have E1 : decide ((i : Int) > 0) = false := decide_eq_false (by omega)
          have E2 : decide (0 < (i : Int)) = false := decide_eq_false (by omega)
          have E3 : decide (0 < i) = false := decide_eq_false h0
          clear h0
          obtain ⟨k1, k4⟩ := ends_exp HS.out (by have := HI.out; omega)
          have hwt := wait_c g _ s v wr HD.out.lg HS.out.inv.b0 HS.out.inv.b1
          rw [HS.out.back, show waitV 0 = 8 from rfl] at hwt
          have HWT := Aside0.mk hwt
          have hexp := fun w2 (h : LP w w1 w2 g (.slice none 0 0) v s) => expire_c w w1 w2 g ((i : Int) + 8) _ v s h HG.out HS.out.inv (by rw [HS.out.len]; have := HI.out; omega)
          have hw1 : wrap64 ((i : Int) + 8) = (i : Int) + 8 := by have := HI.out; unfold wrap64; omega
          have hw2 : IntKind.i64.wrap ((i : Int) + 8) = (i : Int) + 8 := (i64_w _).trans hw1
          generalize expR ((i : Int) + 8) s = R at k1 k4 hexp
          obtain ⟨⟨fl_, tp_, wn_, th_, mk_, bk_⟩, rl⟩ := R
          dsimp only at k1 k4 hexp
          subst k4
          have HEXP := Aside0.mk hexp
          have K1 := Aside0.mk k1
          clear hexp k1 hwt
          subst ht
          go_wp2_with (first | (go_at_call 21; (with_reducible refine (HWT.out).mono ?_); rintro e_ w2 ⟨rfl, hd⟩; have H2 := Aside0.mk (HD.out.drawn hd); clear hd) | (go_at_call 13; (with_reducible refine (HEXP.out _ H2.out).mono ?_); rintro e_ w3 ⟨va, v2, rfl, h3, hra⟩; obtain ⟨Aa, ca, rfl⟩ := Kd.R_slice hra; rw [K1.out]; have HFC := Aside0.mk (flight_c g _ _ v2 w w1 w3 h3 (Nat.zero_le _) (fun x hx => by simp at hx)); clear h3 hra) | (go_at_call 19; (with_reducible refine (HFC.out).mono ?_); rintro e_ w4 ⟨rfl, h4⟩; have H4 := Aside0.mk h4; clear h4))
          go_ret
          exact ⟨rfl, H4.out.bel⟩
      · obtain ⟨k1, k4⟩ := ends_exp HS.out (by have := HI.out; omega)
        have hwt := wait_c g _ s v wr HD.out.lg HS.out.inv.b0 HS.out.inv.b1
        rw [HS.out.back, show waitV 0 = 8 from rfl] at hwt
        have HWT := Aside0.mk hwt
        have hexp := fun w2 (h : LP w w1 w2 g (.slice none 0 0) v s) => expire_c w w1 w2 g ((i : Int) + 8) _ v s h HG.out HS.out.inv (by rw [HS.out.len]; have := HI.out; omega)
        have hw1 : wrap64 ((i : Int) + 8) = (i : Int) + 8 := by have := HI.out; unfold wrap64; omega
        have hw2 : IntKind.i64.wrap ((i : Int) + 8) = (i : Int) + 8 := (i64_w _).trans hw1
        generalize expR ((i : Int) + 8) s = R at k1 k4 hexp
        obtain ⟨⟨fl_, tp_, wn_, th_, mk_, bk_⟩, rl⟩ := R
        dsimp only at k1 k4 hexp
        subst k4
        have HEXP := Aside0.mk hexp
        have K1 := Aside0.mk k1
        clear hexp k1 hwt
        subst ht
        go_wp2_with (first | (go_at_call 21; (with_reducible refine (HWT.out).mono ?_); rintro e_ w2 ⟨rfl, hd⟩; have H2 := Aside0.mk (HD.out.drawn hd); clear hd) | (go_at_call 13; (with_reducible refine (HEXP.out _ H2.out).mono ?_); rintro e_ w3 ⟨va, v2, rfl, h3, hra⟩; obtain ⟨Aa, ca, rfl⟩ := Kd.R_slice hra; rw [K1.out]; have HFC := Aside0.mk (flight_c g _ _ v2 w w1 w3 h3 (Nat.zero_le _) (fun x hx => by simp at hx)); clear h3 hra) | (go_at_call 19; (with_reducible refine (HFC.out).mono ?_); rintro e_ w4 ⟨rfl, h4⟩; have H4 := Aside0.mk h4; clear h4))
        go_ret
        exact ⟨rfl, H4.out.bel⟩
end Go.Proofs.Ytgdgegkokghedaa.Walk
