/- The walk of FairAlone. gen/mk_alone20.py writes this text. -/
import Derived.Test.YtcieopcihbgfdaaWalkFull
namespace Go.Proofs.Ytcieopcihbgfdaa.Walk
open Go.RowKit Go.Proofs.YtcieopcihbgfdaaW.PrintWords Go.Proofs.YtcieopcihbgfdaaW.PrintLast Go.Proofs.YtcieopcihbgfdaaW.PrintMore Go.Proofs.Ytcieopcihbgfdaa.PFairDoes Go.Proofs.Ytcieopcihbgfdaa Go.Proofs.Ytcieopcihbgfdaa.Fair Go.Proofs.Ytcieopcihbgfdaa.Fq
set_option linter.unusedVariables false
set_option linter.unusedSimpArgs false
def al (q : Int) (l : List ByteArray) (i : Nat) : FS := ⟨100, q, if i = 0 then [] else [⟨7, l.take i, 0⟩], false⟩
theorem al_push {q : Int} {l : List ByteArray} {i : Nat} (h : i < l.length) (h2 : i < 40) (hs : (l.getD i ByteArray.empty).size ≤ 500) : pushE (al q l i) 7 (l.getD i ByteArray.empty) = 0 ∧ pushS (al q l i) 7 (l.getD i ByteArray.empty) = al q l (i + 1) := by
  have h0 : ¬ 65535 < (l.getD i ByteArray.empty).size := by omega
  have e : (listOf (al q l i).st 7).length = i := by
    unfold al
    dsimp only
    by_cases hi : i = 0
    · subst hi; rfl
    · rw [if_neg hi]
      unfold listOf
      rw [if_pos rfl, List.length_take]
      omega
  have h1 : ¬ (((listOf (al q l i).st 7).length : Int) = (al q l i).lim) := by
    rw [e]
    show ¬ ((i : Int) = 100)
    omega
  have et : l.take (i + 1) = l.take i ++ [l.getD i ByteArray.empty] := by
    rw [List.getD_eq_getElem?_getD, List.getElem?_eq_getElem h]
    simp
  refine ⟨(if_neg h0).trans (if_neg h1), (if_neg h0).trans ((if_neg h1).trans ?_)⟩
  unfold al
  rw [et]
  dsimp only
  by_cases hi : i = 0
  · subst hi
    rfl
  · rw [if_neg hi, if_neg (by omega)]
    unfold addQ
    rw [if_pos rfl]
theorem al_count {q : Int} {l : List ByteArray} {i : Nat} (h : i ≤ l.length) : countL (al q l i).st = i := by
  unfold al
  dsimp only
  split
  · subst_vars; rfl
  · simp only [countL, List.length_take]; omega
theorem al_len (q : Int) (l : List ByteArray) (i : Nat) : (al q l i).st.length ≤ 100000 := by
  unfold al
  dsimp only
  split
  · decide
  · exact (by decide : 1 ≤ 100000)
/-- What is left of one alone. -/
def AS (l : List ByteArray) (n j : Nat) (s : FS) : Prop := ∃ d, s.st = if j < n then [⟨7, (l.take n).drop j, d⟩] else []
theorem al_as (q : Int) (l : List ByteArray) (n : Nat) : AS l n 0 (al q l n) := by
  refine ⟨0, ?_⟩
  unfold al
  dsimp only
  by_cases h : n = 0
  · subst h; rfl
  · rw [if_neg h, if_pos (by omega), List.drop_zero]
theorem AS.len {l : List ByteArray} {n j : Nat} {s : FS} (h : AS l n j s) : s.st.length ≤ 100000 := by
  obtain ⟨d, h⟩ := h
  rw [h]
  split
  · exact (by decide : 1 ≤ 100000)
  · decide
theorem alone {s : FS} {y : NR × FS} (h : Got s y) : ∀ (i : Int) (l : List ByteArray) (d : Int), s.st = [⟨i, l, d⟩] → y.1 = (i, Fair.hd l, true) ∧ ∃ d', y.2.st = if l.length ≤ 1 then [] else [⟨i, l.tail, d'⟩] := by
  induction h with
  | none h => intro i l d e; rw [h] at e; cases e
  | @wait s x r y hs hw _ ih =>
    intro i l d e
    rw [hs] at e
    injection e with e1 e2
    subst e1; subst e2
    exact ih i l _ rfl
  | @take s x r hs hw =>
    intro i l d e
    rw [hs] at e
    injection e with e1 e2
    subst e1; subst e2
    refine ⟨rfl, ?_⟩
    unfold takeS
    dsimp only
    by_cases hl : l.length ≤ 1
    · rw [if_pos hl]; exact ⟨0, by rw [if_pos hl]⟩
    · rw [if_neg hl]; exact ⟨_, by rw [if_neg hl]⟩
theorem AS.next {l : List ByteArray} {n j : Nat} {s : FS} (h : AS l n j s) (hi : FI s) (hj : j < n) (hn : n ≤ l.length) : ∃ s', nextV s = ((7, l.getD j ByteArray.empty, true), s') ∧ AS l n (j + 1) s' ∧ FI s' := by
  obtain ⟨d, h⟩ := h
  rw [if_pos hj] at h
  obtain ⟨h1, d', h2⟩ := alone (got hi) _ _ _ h
  have hl : ((l.take n).drop j).length = n - j := by rw [List.length_drop, List.length_take]; omega
  have hh : Fair.hd ((l.take n).drop j) = l.getD j ByteArray.empty := by
    have hlt : j < (l.take n).length := by rw [List.length_take]; omega
    rw [List.drop_eq_getElem_cons hlt]
    show (l.take n)[j] = _
    rw [List.getElem_take, List.getD_eq_getElem?_getD, List.getElem?_eq_getElem (by omega)]
    rfl
  rw [hh] at h1
  refine ⟨(nextV s).2, Prod.ext h1 rfl, ⟨d', ?_⟩, hi.next⟩
  rw [h2, hl]
  by_cases hz : n - j ≤ 1
  · rw [if_pos hz, if_neg (by omega)]
  · rw [if_neg hz, if_pos (by omega), List.tail_drop]
theorem AS.last {l : List ByteArray} {n : Nat} {s : FS} (h : AS l n n s) : nextV s = ((0, ByteArray.empty, false), s) := by
  obtain ⟨d, h⟩ := h
  rw [if_neg (by omega)] at h
  exact nextV_none h
theorem u_range3 (y : Int) : 0 ≤ Int.tmod (IntKind.u64.wrap y) 300 ∧ Int.tmod (IntKind.u64.wrap y) 300 < 300 := by
  have h0 : 0 ≤ IntKind.u64.wrap y := by
    show 0 ≤ y % 18446744073709551616
    omega
  rw [Int.tmod_eq_emod_of_nonneg h0]
  omega
theorem el_str {w : World} {A : Option Addr} {xs : List ByteArray} (h : Kd.string.C w A xs.length xs) (i : Nat) (h1 : i < xs.length) : ∃ ad, A = some ad ∧ ∀ W, Below w.heap.size w W → W.cell? (ad.add i) = some (.string (xs.getD i ByteArray.empty)) := by
  obtain ⟨ad, c, e, _, hK, hc0⟩ := Kd.C_get h ByteArray.empty (i : Int) (by omega) (by omega)
  refine ⟨ad, e, fun W hb => ?_⟩
  obtain ⟨ad2, c2, e2, _, hK2, hc2⟩ := Kd.C_get (Kd.C_below h hb) ByteArray.empty (i : Int) (by omega) (by omega)
  obtain rfl : ad = ad2 := Option.some.inj (e.symm.trans e2)
  rw [Int.toNat_natCast] at hK2 hc2
  obtain rfl : c2 = [.string (xs.getD i ByteArray.empty)] := hK2
  have := hc2 0 _ rfl
  rwa [show i * Kd.string.sz + 0 = i from by show i * 1 + 0 = _; omega] at this
theorem ix_facts {i n : Nat} (h : i < n) (h2 : i < 40) : wrap64 ((i : Int) + 1) = ((i + 1 : Nat) : Int) ∧ IntKind.i64.wrap ((i : Int) + 1) = ((i + 1 : Nat) : Int) ∧ decide ((i : Int) < (n : Int)) = true ∧ decide (i < n) = true ∧ decide ((i : Int) < 40) = true ∧ decide (i < 40) = true ∧ ((i : Int) < (n : Int)) = True ∧ (i < n) = True ∧ ((0 : Int) ≤ (i : Int)) = True := by
  have hw : wrap64 ((i : Int) + 1) = ((i + 1 : Nat) : Int) := by unfold wrap64; omega
  exact ⟨hw, (i64_w _).trans hw, decide_eq_true (by omega), decide_eq_true h, decide_eq_true (by omega), decide_eq_true h2, eq_true (by omega), eq_true h, eq_true (by omega)⟩
theorem al_start {m : Int} {q : Int} {l : List ByteArray} {w w1 : World} {g : Nat} (hq : 1 ≤ q ∧ q ≤ 300) (h : FA w w1 g ⟨cutV 100, cutV q, [], false⟩) : FA w w1 g (al q l 0) := by
  have e1 : cutV q = q := cutV_id (by omega) (by omega)
  have e2 : cutV 100 = 100 := by decide
  rw [e1, e2] at h
  exact h
set_option maxHeartbeats 8000000 in
set_option maxRecDepth 100000 in
theorem fairAlone_walk {P : Prop} (a0 : Int) (A : Option Addr) (cap : Nat) (xs : List ByteArray) (w : World) (hr : Kd.string.C w A xs.length xs) (hc : xs.length ≤ cap) (G0 : (Lit.int .i64 a0).wf = true) (G1 : P) :
    Calls Try.prog 4 #[.int .i64 a0, .slice A xs.length cap] w fun e w' => e = .returned (.bool true) ∧ Below w.heap.size w w' := by
  have HR := Aside0.mk hr
  have hz := u_range3 a0
  clear hr hc G0 G1
  obtain ⟨q, hq, hz⟩ : ∃ q, IntKind.u64.wrap a0 = q ∧ (0 ≤ Int.tmod q 300 ∧ Int.tmod q 300 < 300) := ⟨_, rfl, hz⟩
  obtain ⟨m, hm, hz⟩ : ∃ m, Int.tmod q 300 = m ∧ (0 ≤ m ∧ m < 300) := ⟨_, rfl, hz⟩
  obtain ⟨m1, m2, m3, m4⟩ := m_facts hz.1 (show m < 1000 by omega)
  obtain ⟨k, hk, hkb⟩ : ∃ k : Int, (((m + 1).toNat : Nat) : Int) = k ∧ (1 ≤ k ∧ k ≤ 300) := ⟨_, rfl, by clear m1 m2 m3 m4 hm hq; omega⟩
  have HK := Aside0.mk hkb
  rw [hk] at m3 m4
  clear hz hk hkb
  go_enter Try.func4, Try.ntmps4
  go_wp2_with (first | (go_at_call 8; (with_reducible refine (works_c _).mono ?_); rintro e_ w0 ⟨rfl, hb⟩; have HB0 := Aside0.mk hb; clear hb) | (go_at_call 9; (with_reducible refine (new_a 100 _ w w0 HB0.out).mono ?_); rintro e_ w1 ⟨g, rfl, h_⟩; have H1 := Aside0.mk (al_start (m := 0) (l := xs) HK.out h_); clear h_))
  clear m1 m2 m3 m4 hq hm
  have HF0 := Aside0.mk (show FI (al k xs 0) from fi_new (by decide) (by decide) HK.out.1 (by have := HK.out; omega))
  go_loopw [6] (fun v6 wr => ∃ n : Nat, v6 = .int .i64 (n : Int) ∧ Aside0 (n ≤ xs.length ∧ n ≤ 40) ∧ Aside0 (FA w wr g (al k xs n)) ∧ Aside0 (FI (al k xs n))) (fun v6 _ => (40 - intOf v6).toNat)
  case atStart => exact ⟨0, rfl, ⟨by omega⟩, H1, HF0⟩
  case round =>
    clear H1 HB0 HF0
    obtain ⟨n, rfl, HIK, HA, HFI⟩ := hrel
    by_cases d1 : n < xs.length
    · by_cases d2 : n < 40
      · have HD := Aside0.mk (And.intro d1 d2)
        obtain ⟨ad, hA, rows⟩ := el_str HR.out n d1
        subst hA
        have x0 := rows wr HA.out.bel
        have hpu := fun hs => al_push (q := k) d1 d2 hs
        have hct := al_count (q := k) (show n + 1 ≤ xs.length from d1)
        generalize xs.getD n ByteArray.empty = y at x0 hpu
        have HPU := Aside0.mk hpu
        have HCT := Aside0.mk hct
        obtain ⟨i1, i2, i3, i4, i5, i6, i7, i8, i9⟩ := ix_facts d1 d2
        clear d1 d2 rows hpu hct
        by_cases hs : y.size ≤ 500
        · have S1 : decide ((y.size : Int) > 500) = false := decide_eq_false (by clear i1 i2; omega)
          have S2 : decide ((500 : Int) < (y.size : Int)) = false := S1
          have S3 : decide (500 < y.size) = false := decide_eq_false (by clear i1 i2; omega)
          have HS := Aside0.mk hs
          have HF2 := Aside0.mk (show FI (al k xs (n + 1)) by rw [← (HPU.out hs).2]; exact HFI.out.push (by decide))
          clear hs
          go_wp2_with (first | (go_at_call 10; (with_reducible refine (push_b 7 y HA.out HFI.out (by decide) (al_len _ _ _) (HPU.out HS.out).1 (HPU.out HS.out).2).mono ?_); rintro e_ w2 ⟨rfl, h_⟩; have H2 := Aside0.mk h_; clear h_) | (go_at_call 12; (with_reducible refine (count_b H2.out HF2.out (al_len _ _ _) HCT.out).mono ?_); rintro e_ w3 ⟨rfl, h_⟩; have H3 := Aside0.mk h_; clear h_))
          go_roundw
          case rel => exact ⟨n + 1, by first | rfl | simp, ⟨by clear i1 i2; have := HD.out; omega⟩, H3, HF2⟩
          case measure => clear i1 i2; have := HD.out; simp [intOf]; omega
        · have S1 : decide ((y.size : Int) > 500) = true := decide_eq_true (by clear i1 i2; omega)
          have S2 : decide ((500 : Int) < (y.size : Int)) = true := S1
          have S3 : decide (500 < y.size) = true := decide_eq_true (by clear i1 i2; omega)
          clear hs
          go_wp2_with (fail)
          go_ret
          exact ⟨rfl, HA.out.bel⟩
      · have M1 : decide ((n : Int) < (xs.length : Int)) = true := decide_eq_true (by omega)
        have M2 : decide (n < xs.length) = true := decide_eq_true (by omega)
        have M3 : decide ((n : Int) < 40) = false := decide_eq_false (by omega)
        have M4 : decide (n < 40) = false := decide_eq_false (by omega)
        have HN := Aside0.mk (show n ≤ xs.length ∧ n ≤ 40 by have := HIK.out; omega)
        clear d1
        clear d2
        have HEX := Aside0.mk (al_as k xs n)
        go_wp2_with (fail)
        go_loopw [7] (fun v7 wr => ∃ j : Nat, v7 = .int .i64 (j : Int) ∧ Aside0 (j ≤ n) ∧ ∃ s, Aside0 (FA w wr g s) ∧ Aside0 (AS xs n j s) ∧ Aside0 (FI s)) (fun v7 _ => ((n : Int) - intOf v7).toNat)
        case atStart => exact ⟨0, rfl, ⟨by omega⟩, _, HA, HEX, HFI⟩
        case round =>
          clear HA HFI HEX
          obtain ⟨j, rfl, HJN, s, HA, HAS, HFI⟩ := hrel
          by_cases d3 : j < n
          · have HJ := Aside0.mk d3
            obtain ⟨ad, hA, rows⟩ := el_str HR.out j (by have := HN.out; omega)
            subst hA
            have HRW := Aside0.mk rows
            obtain ⟨s', hn', has', hfi'⟩ := HAS.out.next HFI.out d3 HN.out.1
            generalize hy : xs.getD j ByteArray.empty = y at hn' rows
            have HY := Aside0.mk hy
            have HNX := Aside0.mk hn'
            have HAS2 := Aside0.mk has'
            have HFI2 := Aside0.mk hfi'
            obtain ⟨i1, i2, i3, i4, i5, i6, i7, i8, i9⟩ := ix_facts (show j < xs.length by have := HN.out; omega) (show j < 40 by have := HN.out; omega)
            clear d3 rows hn' has' hfi' hy
            go_wp2_with (go_at_call 11; (with_reducible refine (next_a HA.out HFI.out HAS.out.len HNX.out).mono ?_); rintro e_ w2 ⟨rfl, h_⟩; have H2 := Aside0.mk h_; have x1 := HRW.out w2 h_.bel; rw [HY.out] at x1; clear h_)
            go_roundw
            case rel => exact ⟨j + 1, by first | rfl | simp, ⟨by have := HJ.out; omega⟩, _, H2, HAS2, HFI2⟩
            case measure => clear i1 i2; have := HJ.out; simp [intOf]; omega
          · have hjn : j = n := by have := HJN.out; omega
            subst hjn
            have HNX := Aside0.mk HAS.out.last
            clear d3
            go_wp2_with (go_at_call 11; (with_reducible refine (next_a HA.out HFI.out HAS.out.len HNX.out).mono ?_); rintro e_ w2 ⟨rfl, h_⟩; have H2 := Aside0.mk h_; clear h_)
            go_ret
            exact ⟨rfl, H2.out.bel⟩
    · have M1 : decide ((n : Int) < (xs.length : Int)) = false := decide_eq_false (by omega)
      have M2 : decide (n < xs.length) = false := decide_eq_false (by omega)
      have HN := Aside0.mk (show n ≤ xs.length ∧ n ≤ 40 by have := HIK.out; omega)
      clear d1
      have HEX := Aside0.mk (al_as k xs n)
      go_wp2_with (fail)
      go_loopw [7] (fun v7 wr => ∃ j : Nat, v7 = .int .i64 (j : Int) ∧ Aside0 (j ≤ n) ∧ ∃ s, Aside0 (FA w wr g s) ∧ Aside0 (AS xs n j s) ∧ Aside0 (FI s)) (fun v7 _ => ((n : Int) - intOf v7).toNat)
      case atStart => exact ⟨0, rfl, ⟨by omega⟩, _, HA, HEX, HFI⟩
      case round =>
        clear HA HFI HEX
        obtain ⟨j, rfl, HJN, s, HA, HAS, HFI⟩ := hrel
        by_cases d3 : j < n
        · have HJ := Aside0.mk d3
          obtain ⟨ad, hA, rows⟩ := el_str HR.out j (by have := HN.out; omega)
          subst hA
          have HRW := Aside0.mk rows
          obtain ⟨s', hn', has', hfi'⟩ := HAS.out.next HFI.out d3 HN.out.1
          generalize hy : xs.getD j ByteArray.empty = y at hn' rows
          have HY := Aside0.mk hy
          have HNX := Aside0.mk hn'
          have HAS2 := Aside0.mk has'
          have HFI2 := Aside0.mk hfi'
          obtain ⟨i1, i2, i3, i4, i5, i6, i7, i8, i9⟩ := ix_facts (show j < xs.length by have := HN.out; omega) (show j < 40 by have := HN.out; omega)
          clear d3 rows hn' has' hfi' hy
          go_wp2_with (go_at_call 11; (with_reducible refine (next_a HA.out HFI.out HAS.out.len HNX.out).mono ?_); rintro e_ w2 ⟨rfl, h_⟩; have H2 := Aside0.mk h_; have x1 := HRW.out w2 h_.bel; rw [HY.out] at x1; clear h_)
          go_roundw
          case rel => exact ⟨j + 1, by first | rfl | simp, ⟨by have := HJ.out; omega⟩, _, H2, HAS2, HFI2⟩
          case measure => clear i1 i2; have := HJ.out; simp [intOf]; omega
        · have hjn : j = n := by have := HJN.out; omega
          subst hjn
          have HNX := Aside0.mk HAS.out.last
          clear d3
          go_wp2_with (go_at_call 11; (with_reducible refine (next_a HA.out HFI.out HAS.out.len HNX.out).mono ?_); rintro e_ w2 ⟨rfl, h_⟩; have H2 := Aside0.mk h_; clear h_)
          go_ret
          exact ⟨rfl, H2.out.bel⟩
end Go.Proofs.Ytcieopcihbgfdaa.Walk
