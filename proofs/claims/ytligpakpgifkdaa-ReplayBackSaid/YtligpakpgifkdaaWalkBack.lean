/- ReplayBack: the walk. -/
import Derived.Test.YtligpakpgifkdaaPureReplayBack
import Derived.Test.YtligpakpgifkdaaBMap
import Derived.Carry
import Derived.LoopN
namespace Go.Proofs.Ytligpakpgifkdaa.Walk
open Go.RowKit Go.Proofs.YtligpakpgifkdaaW.PrintWords Go.Proofs.YtligpakpgifkdaaW.PrintLast Go.Proofs.YtligpakpgifkdaaW.PrintMore Go.Proofs.Ytligpakpgifkdaa.PReplayBack Go.Proofs.Ytligpakpgifkdaa
set_option linter.unusedVariables false
set_option linter.unusedSimpArgs false
/-- An element of a row of numbers. -/
theorem el {w : World} {A : Option Addr} {xs : List Int} (h : (Kd.int .i64).C w A xs.length xs) (hg : ∀ y ∈ xs, (Lit.int .i64 y).wf = true) (i : Int) (h0 : 0 ≤ i) (h1 : i < xs.length) : ∃ ad, ∃ x : Int, A = some ad ∧ (-9223372036854775808 ≤ x ∧ x ≤ 9223372036854775807) ∧ ∀ W, Below w.heap.size w W → W.cell? (ad.add i.toNat) = some (.int .i64 x) := by
  obtain ⟨ad, e, hc0⟩ := (Kd.reads_of_C (d := (0 : Int)) h).at_ i h0 h1
  have hx : rdOf 0 xs i ∈ xs := by
    unfold rdOf
    have hi : i.toNat < xs.length := by omega
    rw [List.getD_eq_getElem?_getD, List.getElem?_eq_getElem hi]
    exact List.getElem_mem hi
  have hw : IntKind.i64.min ≤ rdOf 0 xs i ∧ rdOf 0 xs i ≤ IntKind.i64.max := by simpa [Lit.wf] using hg _ hx
  refine ⟨ad, rdOf 0 xs i, e, hw, fun W hb => ?_⟩
  obtain ⟨ad2, e2, hc⟩ := (Kd.reads_of_C (d := (0 : Int)) (Kd.C_below h hb)).at_ i h0 h1
  obtain rfl : ad = ad2 := Option.some.inj (e.symm.trans e2)
  exact hc
theorem see_k {w W : World} {gw : Nat} {t : Int} {b : Nat} (h : IsS43 w W gw t (b : Int)) (hB : Below w.heap.size w W) (hr : Pure.Win t b) (n : Int) (hn : -9223372036854775808 ≤ n ∧ n ≤ 9223372036854775807) {e' : Int} {t' : Int} {b' : Nat} (he : Pure.wsee t b n = (e', t', b')) :
    Calls Try.prog 10 #[.pointer (some ⟨gw, 0, none⟩), .int .i64 n] W fun e w' => e = .returned (.int .i64 e') ∧ IsS43 w w' gw t' (b' : Int) ∧ Below w.heap.size w w' ∧ KeepBut W w' gw none := by
  obtain ⟨k, hk⟩ := (Pure.see_ev t n b hr hn.1 hn.2).rounds
  rw [he] at hk
  exact replay_Window_See.calls k gw t b n _ _ _ w W h hB hk
set_option maxHeartbeats 8000000 in
set_option maxRecDepth 100000 in
theorem replayBack_walk (a0 : Int) (A : Option Addr) (cap : Nat) (xs : List Int) (w : World) (hr : (Kd.int .i64).C w A xs.length xs) (hc : xs.length ≤ cap) (G0 : (Lit.int .i64 a0).wf = true) (G1 : xs.length * 8 ≤ 140737488351232 ∧ ∀ y ∈ xs, (Lit.int .i64 y).wf = true) :
    Calls Try.prog 6 #[.int .i64 a0, .slice A xs.length cap] w fun e w' => e = .returned (.bool true) ∧ Below w.heap.size w w' := by
  have HR := Aside0.mk hr
  have HG := Aside0.mk G1
  have HB := Aside0.mk (Below.refl w.heap.size w)
  clear hr hc G0 G1
  obtain ⟨kw, hkw⟩ := Pure.works_ev.rounds
  have HKW := Aside0.mk hkw
  clear hkw
  have hu0 : 0 ≤ IntKind.u64.wrap a0 := (Pure.u64_range a0).1
  obtain ⟨K, hK⟩ : ∃ K : Int, IntKind.u64.wrap a0 % 1152921504606846976 = K := ⟨_, rfl⟩
  have hK0 : 0 ≤ K ∧ K < 1152921504606846976 := by omega
  have ht : Int.tmod (IntKind.u64.wrap a0) 1152921504606846976 = K := by rw [Int.tmod_eq_emod_of_nonneg hu0, hK]
  have hwk : wrap64 K = K := Pure.wrap_in _ (by omega) (by omega)
  obtain ⟨T, hT⟩ : ∃ T : Int, 100 + K = T := ⟨_, rfl⟩
  have hwt : wrap64 (100 + K) = T := by rw [← hT]; exact Pure.wrap_in _ (by omega) (by omega)
  have hTr : 100 ≤ T ∧ T ≤ 2305843009213693952 := by omega
  obtain ⟨hs0, hbr0⟩ := Pure.back_new T (by omega) (by unfold Pure.M; omega)
  have HS0 := Aside0.mk hs0
  have HBR0 := Aside0.mk hbr0
  have HTR := Aside0.mk hTr
  have HWF := Aside0.mk (Pure.i64_of (x := T) (by omega))
  clear hs0 hbr0 hTr hK hK0 hT hu0
  have hmm := @run_makeMap Try.prog
  go_enter Try.func6, Try.ntmps6
  go_wp2_with (first | (go_at_call 7; (with_reducible refine (vizardlaw07_works.calls kw true _ HKW.out).mono ?_); rintro e w1 ⟨rfl, hb⟩; have HB1 := Aside0.mk hb; clear hb HB) | (go_at_call 8; (with_reducible refine (replay_New.calls 0 0 w _ HB1.out rfl).mono ?_); rintro e w2 ⟨gw, rfl, hI, hB1, -⟩; have HI1 := Aside0.mk hI; have HB2 := Aside0.mk hB1; clear hI hB1 HB1) | (go_at_call 10; (with_reducible refine (see_k HI1.out HB2.out Pure.new_win T (by have := HTR.out; omega) HS0.out).mono ?_); rintro e w3 ⟨rfl, hI, hB1, -⟩; have HI2 := Aside0.mk hI; have HB3 := Aside0.mk hB1; have HNE := Aside0.mk (show gw ≠ w3.heap.size from Nat.ne_of_lt (blk_lt hI.1)); have HGE := Aside0.mk hB1.size; clear hI hB1 HB2 HI1) | (refine BMap.update_arm rfl _ _ _ (.inr rfl) (n := 0) (f := fun _ => false) (BMap.made w3) (by unfold maxLen; omega) T (HWF.out) true rfl rfl rfl ?_; intro w4 hm_ hg_; have HM := Aside0.mk hm_; have HI := Aside0.mk ((HI2.out.alloc (.map #[] 0)).grown hg_ (by simpa using HNE.out)); have HBB := Aside0.mk ((below_alloc HB3.out (.map #[] 0)).grown hg_ (below_alloc HB3.out (.map #[] 0)).size (fun j hj => by cases hj; exact HGE.out)); clear hm_ hg_ HI2 HB3))
  obtain ⟨gm, hgm⟩ : ∃ gm, w3.heap.size = gm := ⟨_, rfl⟩
  rw [hgm] at HM HNE HGE ⊢
  clear hgm
  go_loopw [7] (fun v7 wr => ∃ (i : Int) (b : Nat) (f : Int → Bool), v7 = .int .i64 i ∧ Aside0 (0 ≤ i ∧ i ≤ 100) ∧ Aside0 (Pure.BRel T b f) ∧ Aside0 (IsS43 w wr gw T (b : Int)) ∧ Aside0 (BMap.BMap wr gm (i.toNat + 1) f) ∧ Aside0 (Below w.heap.size w wr)) (fun v7 _ => (100 - intOf v7).toNat)
  case atStart => exact ⟨0, 1, _, rfl, ⟨by omega⟩, HBR0, HI, HM, HBB⟩
  case round =>
    clear HI HM HBB
    obtain ⟨i, b, f, rfl, hi, hrl, HI, HM, HB⟩ := hrel
    have hi0 := hi.out.1
    by_cases c1 : i < (xs.length : Int)
    rotate_left
    · have C1 : decide (i < (xs.length : Int)) = false := decide_eq_false c1
      clear c1
      have hTT : (T == T) = true := beq_self_eq_true T
      have hb0 : ((b : Int) != 0) = true := bne_iff_ne.mpr (by have := hrl.out.ne; omega)
      go_wp2_with (go_at_call 13; (with_reducible refine (replay_Window_Top.calls gw T b T ((b : Int) != 0) T b w _ HI.out HB.out rfl).mono ?_); rintro e w6 ⟨rfl, hI, hB1, -⟩; have HB6 := Aside0.mk hB1; clear hI hB1)
      go_ret
      exact ⟨by first | rfl | (rw [hb0]), HB6.out⟩
    have C1 : decide (i < (xs.length : Int)) = true := decide_eq_true c1
    by_cases c2 : i < 100
    rotate_left
    · have C2 : decide (i < 100) = false := decide_eq_false c2
      clear c1 c2
      have hTT : (T == T) = true := beq_self_eq_true T
      have hb0 : ((b : Int) != 0) = true := bne_iff_ne.mpr (by have := hrl.out.ne; omega)
      go_wp2_with (go_at_call 13; (with_reducible refine (replay_Window_Top.calls gw T b T ((b : Int) != 0) T b w _ HI.out HB.out rfl).mono ?_); rintro e w6 ⟨rfl, hI, hB1, -⟩; have HB6 := Aside0.mk hB1; clear hI hB1)
      go_ret
      exact ⟨by first | rfl | (rw [hb0]), HB6.out⟩
    have C2 : decide (i < 100) = true := decide_eq_true c2
    obtain ⟨ad, x, hA, hx, rows⟩ := el HR.out HG.out.2 i hi0 c1
    subst hA
    have p0 := eq_true hi0
    have p1 := eq_true c1
    have hw1 : wrap64 (i + 1) = i + 1 := by unfold wrap64; omega
    have hw2 : IntKind.i64.wrap (i + 1) = i + 1 := (i64_w _).trans hw1
    have HIX := Aside0.mk (And.intro hi0 c2)
    have e0 := rows wr HB.out
    have hu0 : 0 ≤ IntKind.u64.wrap x := (Pure.u64_range x).1
    obtain ⟨d, hd⟩ : ∃ d : Int, IntKind.u64.wrap x % 70 = d := ⟨_, rfl⟩
    have hd0 : 0 ≤ d ∧ d < 70 := by omega
    have ht1 : Int.tmod (IntKind.u64.wrap x) 70 = d := by rw [Int.tmod_eq_emod_of_nonneg hu0, hd]
    have hwd : wrap64 d = d := Pure.wrap_in _ (by omega) (by omega)
    have hTr := HTR.out
    obtain ⟨n, hn⟩ : ∃ n : Int, T - d = n := ⟨_, rfl⟩
    have hwn : wrap64 (T - d) = n := by rw [← hn]; exact Pure.wrap_in _ (by omega) (by omega)
    have hw64 : wrap64 (T - 64) = T - 64 := Pure.wrap_in _ (by omega) (by omega)
    have HNR := Aside0.mk (show -9223372036854775808 ≤ n ∧ n ≤ 9223372036854775807 by omega)
    have HWN := Aside0.mk (Pure.i64_of (x := n) (by omega))
    have hst := Pure.back_step hrl.out n (by omega) (by omega)
    have h1i : (i + 1).toNat + 1 = i.toNat + 1 + 1 := by omega
    have H1I := Aside0.mk h1i
    clear c1 c2 hi0 hi hx rows hu0 hd hd0 hTr hn h1i
    rcases hst with ⟨hge, hse, hr'⟩ | ⟨hlt, hf, hse, hr'⟩ | ⟨hlt, hf, b', hse, hr'⟩
    · have HC := Aside0.mk hge
      have hgt : decide (n > T - 64) = false := decide_eq_false (by omega)
      have hgt' : decide (T - 64 < n) = false := decide_eq_false (by omega)
      clear hge
      obtain ⟨q, hq⟩ : ∃ q, f n = q := ⟨_, rfl⟩
      rw [hq] at hr'
      cases q
      · have HSE := Aside0.mk hse
        have HRL := Aside0.mk hr'
        clear hse hr'
        go_wp2_with (first | (go_at_call 10; (with_reducible refine (see_k HI.out HB.out hrl.out.win n HNR.out HSE.out).mono ?_); rintro e w5 ⟨rfl, hI, hB1, hk⟩; have HI5 := Aside0.mk hI; have HB5 := Aside0.mk hB1; have HM5 := Aside0.mk (HM.out.same (hk.2 gm HM.out.lt HNE.out.symm (by simp))); clear hI hB1 hk HI HB HM) | (at_lookup; refine BMap.lookup_arm rfl _ _ rfl HM5.out n HWN.out rfl rfl ?_) | (at_mapUpdate; refine BMap.update_arm rfl _ _ _ (.inl rfl) (n := i.toNat + 1) (f := f) HM5.out (by unfold maxLen; have := HIX.out; omega) n HWN.out false rfl rfl rfl ?_; intro w7 hm_ hg_; have HM7 := Aside0.mk hm_; have HI7 := Aside0.mk (HI5.out.grown hg_ (by simpa using HNE.out)); have HB7 := Aside0.mk (HB5.out.grown hg_ HB5.out.size (fun j hj => by cases hj; exact HGE.out)); clear hm_ hg_))
        go_roundw
        case rel => exact ⟨i + 1, b, _, rfl, ⟨by have := HIX.out; omega⟩, HRL, HI7, ⟨by rw [H1I.out]; exact HM7.out⟩, HB7⟩
        case measure => have := HIX.out; simp [intOf]; omega
      · have HSE := Aside0.mk hse
        have HRL := Aside0.mk hr'
        clear hse hr'
        go_wp2_with (first | (go_at_call 10; (with_reducible refine (see_k HI.out HB.out hrl.out.win n HNR.out HSE.out).mono ?_); rintro e w5 ⟨rfl, hI, hB1, hk⟩; have HI5 := Aside0.mk hI; have HB5 := Aside0.mk hB1; have HM5 := Aside0.mk (HM.out.same (hk.2 gm HM.out.lt HNE.out.symm (by simp))); clear hI hB1 hk HI HB HM) | (at_lookup; refine BMap.lookup_arm rfl _ _ rfl HM5.out n HWN.out rfl rfl ?_) | (at_mapUpdate; refine BMap.update_arm rfl _ _ _ (.inl rfl) (n := i.toNat + 1) (f := f) HM5.out (by unfold maxLen; have := HIX.out; omega) n HWN.out true rfl rfl rfl ?_; intro w7 hm_ hg_; have HM7 := Aside0.mk hm_; have HI7 := Aside0.mk (HI5.out.grown hg_ (by simpa using HNE.out)); have HB7 := Aside0.mk (HB5.out.grown hg_ HB5.out.size (fun j hj => by cases hj; exact HGE.out)); clear hm_ hg_))
        go_roundw
        case rel => exact ⟨i + 1, b, _, rfl, ⟨by have := HIX.out; omega⟩, HRL, HI7, ⟨by rw [H1I.out]; exact HM7.out⟩, HB7⟩
        case measure => have := HIX.out; simp [intOf]; omega
    · have hgt : decide (n > T - 64) = true := decide_eq_true (by omega)
      have hgt' : decide (T - 64 < n) = true := decide_eq_true (by omega)
      have hq := hf
      clear hlt hf
      have HSE := Aside0.mk hse
      have HRL := Aside0.mk hr'
      clear hse hr'
      go_wp2_with (first | (go_at_call 10; (with_reducible refine (see_k HI.out HB.out hrl.out.win n HNR.out HSE.out).mono ?_); rintro e w5 ⟨rfl, hI, hB1, hk⟩; have HI5 := Aside0.mk hI; have HB5 := Aside0.mk hB1; have HM5 := Aside0.mk (HM.out.same (hk.2 gm HM.out.lt HNE.out.symm (by simp))); clear hI hB1 hk HI HB HM) | (at_lookup; refine BMap.lookup_arm rfl _ _ rfl HM5.out n HWN.out rfl rfl ?_) | (at_mapUpdate; refine BMap.update_arm rfl _ _ _ (.inl rfl) (n := i.toNat + 1) (f := f) HM5.out (by unfold maxLen; have := HIX.out; omega) n HWN.out true rfl rfl rfl ?_; intro w7 hm_ hg_; have HM7 := Aside0.mk hm_; have HI7 := Aside0.mk (HI5.out.grown hg_ (by simpa using HNE.out)); have HB7 := Aside0.mk (HB5.out.grown hg_ HB5.out.size (fun j hj => by cases hj; exact HGE.out)); clear hm_ hg_))
      go_roundw
      case rel => exact ⟨i + 1, b, _, rfl, ⟨by have := HIX.out; omega⟩, HRL, HI7, ⟨by rw [H1I.out]; exact HM7.out⟩, HB7⟩
      case measure => have := HIX.out; simp [intOf]; omega
    · have hgt : decide (n > T - 64) = true := decide_eq_true (by omega)
      have hgt' : decide (T - 64 < n) = true := decide_eq_true (by omega)
      have hq := hf
      clear hlt hf
      have HSE := Aside0.mk hse
      have HRL := Aside0.mk hr'
      clear hse hr'
      go_wp2_with (first | (go_at_call 10; (with_reducible refine (see_k HI.out HB.out hrl.out.win n HNR.out HSE.out).mono ?_); rintro e w5 ⟨rfl, hI, hB1, hk⟩; have HI5 := Aside0.mk hI; have HB5 := Aside0.mk hB1; have HM5 := Aside0.mk (HM.out.same (hk.2 gm HM.out.lt HNE.out.symm (by simp))); clear hI hB1 hk HI HB HM) | (at_lookup; refine BMap.lookup_arm rfl _ _ rfl HM5.out n HWN.out rfl rfl ?_) | (at_mapUpdate; refine BMap.update_arm rfl _ _ _ (.inl rfl) (n := i.toNat + 1) (f := f) HM5.out (by unfold maxLen; have := HIX.out; omega) n HWN.out true rfl rfl rfl ?_; intro w7 hm_ hg_; have HM7 := Aside0.mk hm_; have HI7 := Aside0.mk (HI5.out.grown hg_ (by simpa using HNE.out)); have HB7 := Aside0.mk (HB5.out.grown hg_ HB5.out.size (fun j hj => by cases hj; exact HGE.out)); clear hm_ hg_))
      go_roundw
      case rel => exact ⟨i + 1, b', _, rfl, ⟨by have := HIX.out; omega⟩, HRL, HI7, ⟨by rw [H1I.out]; exact HM7.out⟩, HB7⟩
      case measure => have := HIX.out; simp [intOf]; omega
end Go.Proofs.Ytligpakpgifkdaa.Walk
