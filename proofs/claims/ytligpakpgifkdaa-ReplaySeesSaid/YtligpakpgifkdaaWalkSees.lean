/- ReplaySees: the walk. -/
import Derived.Test.YtligpakpgifkdaaPureReplaySees
import Derived.Test.YtligpakpgifkdaaCalm
import Derived.LoopN
namespace Go.Proofs.Ytligpakpgifkdaa.Walk
open Go.RowKit Go.Proofs.YtligpakpgifkdaaW.PrintWords Go.Proofs.YtligpakpgifkdaaW.PrintLast Go.Proofs.YtligpakpgifkdaaW.PrintMore Go.Proofs.Ytligpakpgifkdaa.PReplaySees Go.Proofs.Ytligpakpgifkdaa
set_option linter.unusedVariables false
set_option linter.unusedSimpArgs false
/-- An element of a row of numbers. -/
theorem el {w : World} {A : Option Addr} {xs : List Int} (h : (Kd.int .i64).C w A xs.length xs) (hg : ∀ y ∈ xs, (Lit.int .i64 y).wf = true) (i : Int) (h0 : 0 ≤ i) (h1 : i < xs.length) : ∃ ad, ∃ x : Int, A = some ad ∧ (-9223372036854775808 ≤ x ∧ x ≤ 9223372036854775807) ∧ ∀ W, Below w.heap.size w W → W.cell? (ad.add i.toNat) = some (.int .i64 x) := by
  obtain ⟨ad, e, hc0⟩ := (Kd.reads_of_C (d := (0 : Int)) h).at_ i h0 h1
  have hx : rdOf 0 xs i ∈ xs := by
    unfold rdOf
    have hi : i.toNat < xs.length := by omega
    rw [List.getD_eq_getElem?_getD, List.getElem?_eq_getElem hi]
    exact List.getElem_mem hi
  have hw : IntKind.i64.min ≤ rdOf 0 xs i ∧ rdOf 0 xs i ≤ IntKind.i64.max := by simpa [Lit.wf] using hg _ hx
  refine ⟨ad, rdOf 0 xs i, e, hw, fun W hb => ?_⟩
  obtain ⟨ad2, e2, hc⟩ := (Kd.reads_of_C (d := (0 : Int)) (Kd.C_below h hb)).at_ i h0 h1
  obtain rfl : ad = ad2 := Option.some.inj (e.symm.trans e2)
  exact hc
/-- The two windows, apart. -/
structure St (w W : World) (gw gr : Nat) (t : Int) (b : Nat) (xs : List Int) : Prop where
  is : IsS43 w W gw t (b : Int)
  rw : Hand.RW w.heap.size W gw gr xs
  bel : Below w.heap.size w W
theorem St.drew {w W : World} {gw gr : Nat} {t : Int} {b : Nat} {xs : List Int} (h : St w W gw gr t b xs) : St w W.drew gw gr t b xs := ⟨h.is.drew, h.rw.drew, below_drew1 h.bel⟩
theorem check_st {w W : World} {gw gr : Nat} {t : Int} {b : Nat} {xs : List Int} (h : St w W gw gr t b xs) (hne : gr ≠ gw) (hr : Pure.Win t b) (n : Int) (hn : -9223372036854775808 ≤ n ∧ n ≤ 9223372036854775807) :
    Calls Try.prog 9 #[.pointer (some ⟨gw, 0, none⟩), .int .i64 n] W fun e w' => e = .returned (.int .i64 (Pure.wck t b n)) ∧ St w w' gw gr t b xs := by
  obtain ⟨k, hk⟩ := (Pure.check_ev t n b hr hn.1 hn.2).rounds
  refine (replay_Window_Check.calls k gw t b n _ _ _ w W h.is h.bel hk).mono ?_
  rintro e w' ⟨he, h1, h2, h3⟩
  exact ⟨he, h1, h.rw.keep h3 hne, h2⟩
theorem see_st {w W : World} {gw gr : Nat} {t : Int} {b : Nat} {xs : List Int} (h : St w W gw gr t b xs) (hne : gr ≠ gw) (hr : Pure.Win t b) (n : Int) (hn : -9223372036854775808 ≤ n ∧ n ≤ 9223372036854775807) :
    Calls Try.prog 10 #[.pointer (some ⟨gw, 0, none⟩), .int .i64 n] W fun e w' => e = .returned (.int .i64 (Pure.wsee t b n).1) ∧ St w w' gw gr (Pure.wsee t b n).2.1 (Pure.wsee t b n).2.2 xs := by
  obtain ⟨k, hk⟩ := (Pure.see_ev t n b hr hn.1 hn.2).rounds
  refine (replay_Window_See.calls k gw t b n _ _ _ w W h.is h.bel hk).mono ?_
  rintro e w' ⟨he, h1, h2, h3⟩
  exact ⟨he, h1, h.rw.keep h3 hne, h2⟩
theorem top_st {w W : World} {gw gr : Nat} {t : Int} {b : Nat} {xs : List Int} (h : St w W gw gr t b xs) (hne : gr ≠ gw) :
    Calls Try.prog 13 #[.pointer (some ⟨gw, 0, none⟩)] W fun e w' => e = .returned (.tuple #[.int .i64 t, .bool ((b : Int) != 0)]) ∧ St w w' gw gr t b xs := by
  refine (replay_Window_Top.calls gw t b t ((b : Int) != 0) t b w W h.is h.bel rfl).mono ?_
  rintro e w' ⟨he, h1, h2, h3⟩
  exact ⟨he, h1, h.rw.keep h3 hne, h2⟩
theorem rcheck_st {w W : World} {gw gr : Nat} {t : Int} {b : Nat} {xs : List Int} (h : St w W gw gr t b xs) (n : Int) :
    Calls Try.prog 11 #[.pointer (some ⟨gr, 0, none⟩), .int .i64 n] W fun e w' => e = .returned (.int .i64 (Hand.rck xs n)) ∧ St w w' gw gr t b xs := by
  obtain ⟨A, c, hb, hR⟩ := h.rw
  obtain ⟨-, -, hC⟩ := Kd.R_reads' hR
  refine (Hand.rcheck_c gr c A xs n W hb hC).mono ?_
  rintro e w' ⟨he, hw⟩
  refine ⟨he, ?_⟩
  rcases hw with rfl | rfl
  · exact h
  · exact h.drew
theorem rtop_st {w W : World} {gw gr : Nat} {t : Int} {b : Nat} {xs : List Int} (h : St w W gw gr t b xs) :
    Calls Try.prog 14 #[.pointer (some ⟨gr, 0, none⟩)] W fun e w' => e = .returned (.tuple #[.int .i64 (Hand.tops xs xs.length), .bool (decide (0 < xs.length))]) ∧ St w w' gw gr t b xs := by
  obtain ⟨A, c, hb, hR⟩ := h.rw
  obtain ⟨-, -, hC⟩ := Kd.R_reads' hR
  refine (Hand.top_c gr xs.length c A xs W hb hC).mono ?_
  rintro e w' ⟨he, rfl⟩
  exact ⟨he, h.drew⟩
theorem rsee_st {w W : World} {gw gr : Nat} {t : Int} {b : Nat} {xs : List Int} (h : St w W gw gr t b xs) (hne : gw ≠ gr) (hg : w.heap.size ≤ gr) (hl : xs.length ≤ 1000) (n : Int) :
    Calls Try.prog 12 #[.pointer (some ⟨gr, 0, none⟩), .int .i64 n] W fun e w' => e = .returned (.int .i64 (Hand.rck xs n)) ∧ St w w' gw gr t b (if Hand.rck xs n = 0 then xs ++ [n] else xs) := by
  refine (Hand.rsee_c gw gr xs n w W h.rw h.bel hg (blk_lt h.is.1) hne hl).mono ?_
  rintro e w' ⟨he, h1, h2, h3, h4⟩
  exact ⟨he, ⟨h4.trans h.is.1, h.is.2⟩, h1, h2⟩
set_option maxHeartbeats 8000000 in
set_option maxRecDepth 100000 in
theorem replaySees_walk (A0 : Option Addr) (cap0 : Nat) (x0 : List Int) (A1 : Option Addr) (cap1 : Nat) (x1 : List Int) (w : World) (hr0 : (Kd.int .i64).C w A0 x0.length x0) (hc0 : x0.length ≤ cap0) (hr1 : (Kd.int .i64).C w A1 x1.length x1) (hc1 : x1.length ≤ cap1)
    (G0 : x0.length * 8 ≤ 140737488351232 ∧ ∀ y ∈ x0, (Lit.int .i64 y).wf = true) (G1 : x1.length * 8 ≤ 140737488351232 ∧ ∀ y ∈ x1, (Lit.int .i64 y).wf = true) :
    Calls Try.prog 5 #[.slice A0 x0.length cap0, .slice A1 x1.length cap1] w fun e w' => e = .returned (.bool true) ∧ Below w.heap.size w w' := by
  have HR0 := Aside0.mk hr0
  have HR1 := Aside0.mk hr1
  have HG0 := Aside0.mk G0
  have HG1 := Aside0.mk G1
  have HB := Aside0.mk (Below.refl w.heap.size w)
  clear hr0 hr1 hc0 hc1 G0 G1
  go_enter Try.func5, Try.ntmps5
  go_wp2_with (first | (go_at_call 8; (with_reducible refine (replay_New.calls 0 0 w _ HB.out rfl).mono ?_); rintro e w1 ⟨gw, rfl, hI, hB1, -⟩; have HI := Aside0.mk hI; have HB1 := Aside0.mk hB1; clear hI hB1 HB) | ((with_reducible refine gate_dst (N := 14) rfl ?_); refine box_event ?hg (N := 14) ?hd (cs := #[.slice none 0 0]) (t := 33) ?hr ?_; (case hd => rfl); (case hg => rfl); (case hr => first | (go_simp; done) | (go_simp; rfl)); intro gr hgr w2 hbox hb; have BK := Aside0.mk hbox; have HGE := Aside0.mk (show w.heap.size ≤ gr by rw [hgr]; exact HB1.out.size); have HNE := Aside0.mk (show gw ≠ gr from by have := blk_lt HI.out.1; omega); have HI2 := Aside0.mk (HI.out.below hb); have HB2 := Aside0.mk (below_step HB1.out hb); clear HI HB1 hgr hbox hb))
  have hst : St w w2 gw gr 0 0 [] := ⟨HI2.out, ⟨none, 0, BK.out, Kd.R_nil _ _ _ _ _⟩, HB2.out⟩
  have HS0 := Aside0.mk hst
  clear hst HI2 HB2 BK
  go_loopw [7] (fun v7 wr => ∃ (i : Int) (t : Int) (b : Nat) (xs : List Int), v7 = .int .i64 i ∧ Aside0 (0 ≤ i ∧ i ≤ 200) ∧ Aside0 (Pure.Rel t b xs ∧ (xs.length : Int) ≤ i) ∧ Aside0 (St w wr gw gr t b xs)) (fun v7 _ => (200 - intOf v7).toNat)
  case atStart => exact ⟨0, 0, 0, [], rfl, ⟨by omega⟩, ⟨Pure.rel_new, by simp⟩, HS0⟩
  case round =>
    obtain ⟨i, t, b, xs, rfl, hi, hrl, hs⟩ := hrel
    have hi0 := hi.out.1
    by_cases c1 : i < (x0.length : Int)
    rotate_left
    · have C1 : decide (i < (x0.length : Int)) = false := decide_eq_false c1
      clear c1
      go_wp2_with (fail)
      go_ret
      exact ⟨rfl, hs.out.bel⟩
    have C1 : decide (i < (x0.length : Int)) = true := decide_eq_true c1
    by_cases c2 : i < 200
    rotate_left
    · have C2 : decide (i < 200) = false := decide_eq_false c2
      clear c1 c2
      go_wp2_with (fail)
      go_ret
      exact ⟨rfl, hs.out.bel⟩
    have C2 : decide (i < 200) = true := decide_eq_true c2
    obtain ⟨ad0, n0, hA, hn0, rows0⟩ := el HR0.out HG0.out.2 i hi0 c1
    subst hA
    have p0 := eq_true hi0
    have p1 := eq_true c1
    have hw1 : wrap64 (i + 1) = i + 1 := by unfold wrap64; omega
    have hw2 : IntKind.i64.wrap (i + 1) = i + 1 := (i64_w _).trans hw1
    have HI := Aside0.mk (And.intro hi0 c2)
    have HN0 := Aside0.mk hn0
    have HW0 := Aside0.mk rows0
    clear c1 c2 hn0 rows0
    by_cases c3 : i < (x1.length : Int)
    · obtain ⟨ad1, n1, hA, hn1, rows1⟩ := el HR1.out HG1.out.2 i HI.out.1 c3
      subst hA
      have p3 := eq_true c3
      have HN1 := Aside0.mk hn1
      have HW1 := Aside0.mk rows1
      clear c3 hn1 rows1
      obtain ⟨v1, hv1⟩ : ∃ v, Pure.wck t b n1 = v := ⟨_, rfl⟩
      have HV1 := Aside0.mk hv1
      clear hv1
      go_wp2_with (fail)
      refine Calm.wp_region_calm_then (fun w' => w'.cell? (ad1.add i.toNat) = some (.int .i64 n1)) [0, 1, 2, 3, 4, 5, 6, 7, 8, 9, 11, 12, 13, 14, 15] [10, 16, 17, 18] (by kernel_rfl) (by kernel_rfl) (by exact HW1.out _ hs.out.drew.bel) ?_
      repeat (refine Calm.value_ (v := ?_) (a' := ?_) rfl rfl (by rfl) ?_ ?_ ?_; rotate_left; (· rintro w' hS'; go_simp; with_reducible rfl); rotate_left; (· simp only [Act.put, List.setIfInBounds_toArray, List.set_cons_zero, List.set_cons_succ, i64_w, i32_w]; rfl))
      refine Calm.nil_ ?_
      have hc := check_st hs.out.drew HNE.out.symm hrl.out.1.win n1 HN1.out
      rw [HV1.out] at hc
      refine Calm.t_call rfl rfl Try.func9 (by kernel_rfl) rfl #[.pointer (some ⟨gw, 0, none⟩), .int .i64 n1] (by rfl) rfl (by (try simp only [List.map_toArray, List.map_cons, List.map_nil]); rfl) ?_
      refine hc.mono ?_
      rintro e w3 ⟨rfl, hs3⟩
      have Hhs3 := Aside0.mk hs3
      refine ⟨_, rfl, HW1.out w3 hs3.bel, ?_⟩
      simp only [Act.put, List.setIfInBounds_toArray, List.set_cons_zero, List.set_cons_succ]
      clear hc hs3
      have hc := rcheck_st Hhs3.out n1
      rw [Pure.rel_check hrl.out.1, HV1.out] at hc
      refine Calm.t_call rfl rfl Try.func11 (by kernel_rfl) rfl #[.pointer (some ⟨gr, 0, none⟩), .int .i64 n1] (by rfl) rfl (by (try simp only [List.map_toArray, List.map_cons, List.map_nil]); rfl) ?_
      refine hc.mono ?_
      rintro e w4 ⟨rfl, hs4⟩
      have Hhs4 := Aside0.mk hs4
      refine ⟨_, rfl, HW1.out w4 hs4.bel, ?_⟩
      simp only [Act.put, List.setIfInBounds_toArray, List.set_cons_zero, List.set_cons_succ]
      clear hc hs4
      (refine Calm.t_value (v := ?_) (w1 := ?_) (a' := ?_) rfl rfl (by rfl) ?_ ?_ ?_ ?_; rotate_left; rotate_left; (· go_simp; first | (refine And.intro ?_ ?_ <;> rfl) | rfl); (· exact HW1.out _ Hhs4.out.bel); rotate_left; (· simp only [Act.put, List.setIfInBounds_toArray, List.set_cons_zero, List.set_cons_succ, i64_w, i32_w]; rfl))
      (refine Calm.t_value (v := ?_) (w1 := ?_) (a' := ?_) rfl rfl (by rfl) ?_ ?_ ?_ ?_; rotate_left; rotate_left; (· go_simp; first | (refine And.intro ?_ ?_ <;> rfl) | rfl); (· exact HW1.out _ Hhs4.out.bel); rotate_left; (· simp only [Act.put, List.setIfInBounds_toArray, List.set_cons_zero, List.set_cons_succ, i64_w, i32_w]; rfl))
      refine Calm.t_nil ?_
      clear hs Hhs3
      obtain ⟨v0, hv0⟩ : ∃ v, Pure.wck t b n0 = v := ⟨_, rfl⟩
      obtain ⟨t', ht'⟩ : ∃ v, (Pure.wsee t b n0).2.1 = v := ⟨_, rfl⟩
      obtain ⟨b', hb'⟩ : ∃ v, (Pure.wsee t b n0).2.2 = v := ⟨_, rfl⟩
      obtain ⟨xs', hx'⟩ : ∃ v, (if v0 = 0 then xs ++ [n0] else xs) = v := ⟨_, rfl⟩
      obtain ⟨hr', hv'⟩ := Pure.rel_see hrl.out.1 n0
      rw [ht', hb', hv0, hx'] at hr'
      rw [hv0] at hv'
      have hl' : (xs'.length : Int) ≤ i + 1 := by
        have := hrl.out.2
        rw [← hx']
        split <;> simp <;> omega
      have HE := Aside0.mk (And.intro hv0 (And.intro ht' (And.intro hb' (And.intro hx' hv'))))
      have HRL := Aside0.mk (And.intro hr' hl')
      clear hv0 ht' hb' hx' hv' hr' hl'
      go_wp2_with (fail)
      refine Calm.wp_region_calm_then (fun w' => w'.cell? (ad0.add i.toNat) = some (.int .i64 n0)) [0, 1, 2, 3, 4, 6, 7, 8, 9, 10] [5, 11, 12] (by kernel_rfl) (by kernel_rfl) (by exact HW0.out _ Hhs4.out.drew.bel) ?_
      repeat (refine Calm.value_ (v := ?_) (a' := ?_) rfl rfl (by rfl) ?_ ?_ ?_; rotate_left; (· rintro w' hS'; go_simp; with_reducible rfl); rotate_left; (· simp only [Act.put, List.setIfInBounds_toArray, List.set_cons_zero, List.set_cons_succ, i64_w, i32_w]; rfl))
      refine Calm.nil_ ?_
      have hc := see_st Hhs4.out.drew HNE.out.symm hrl.out.1.win n0 HN0.out
      rw [HE.out.2.2.2.2, HE.out.2.1, HE.out.2.2.1] at hc
      refine Calm.t_call rfl rfl Try.func10 (by kernel_rfl) rfl #[.pointer (some ⟨gw, 0, none⟩), .int .i64 n0] (by rfl) rfl (by (try simp only [List.map_toArray, List.map_cons, List.map_nil]); rfl) ?_
      refine hc.mono ?_
      rintro e w5 ⟨rfl, hs5⟩
      have Hhs5 := Aside0.mk hs5
      refine ⟨_, rfl, HW0.out w5 hs5.bel, ?_⟩
      simp only [Act.put, List.setIfInBounds_toArray, List.set_cons_zero, List.set_cons_succ]
      clear hc hs5
      have hc := rsee_st Hhs5.out HNE.out HGE.out (by have := hrl.out.2; have := HI.out; omega) n0
      rw [Pure.rel_check hrl.out.1, HE.out.1, HE.out.2.2.2.1] at hc
      refine Calm.t_call rfl rfl Try.func12 (by kernel_rfl) rfl #[.pointer (some ⟨gr, 0, none⟩), .int .i64 n0] (by rfl) rfl (by (try simp only [List.map_toArray, List.map_cons, List.map_nil]); rfl) ?_
      refine hc.mono ?_
      rintro e w6 ⟨rfl, hs6⟩
      have Hhs6 := Aside0.mk hs6
      refine ⟨_, rfl, HW0.out w6 hs6.bel, ?_⟩
      simp only [Act.put, List.setIfInBounds_toArray, List.set_cons_zero, List.set_cons_succ]
      clear hc hs6
      (refine Calm.t_value (v := ?_) (w1 := ?_) (a' := ?_) rfl rfl (by rfl) ?_ ?_ ?_ ?_; rotate_left; rotate_left; (· go_simp; first | (refine And.intro ?_ ?_ <;> rfl) | rfl); (· exact HW0.out _ Hhs6.out.bel); rotate_left; (· simp only [Act.put, List.setIfInBounds_toArray, List.set_cons_zero, List.set_cons_succ, i64_w, i32_w]; rfl))
      refine Calm.t_nil ?_
      clear Hhs4 Hhs5 HE
      obtain ⟨q, hq⟩ : ∃ q, ((b' : Int) != 0) = q := ⟨_, rfl⟩
      have hq2 : decide (0 < xs'.length) = q := by
        rw [← hq]
        have := Pure.rel_len HRL.out.1
        by_cases hb : b' = 0
        · subst hb
          have : ¬ 0 < xs'.length := by
            intro h
            exact (this.1 (by omega)) rfl
          simp [this]
        · have h1 := this.2 hb
          have h2 : 0 < xs'.length := by omega
          have h3 : ((b' : Int) != 0) = true := bne_iff_ne.mpr (by omega)
          rw [h3]
          exact decide_eq_true h2
      have HQ := Aside0.mk (And.intro hq hq2)
      clear hq hq2
      go_wp2_with (first | (go_at_call 13; (have hc := top_st Hhs6.out HNE.out.symm; rw [HQ.out.1] at hc; with_reducible refine hc.mono ?_); rintro e w7 ⟨rfl, hs7⟩; have Hhs7 := Aside0.mk hs7; clear hs7 hc) | (go_at_call 14; (have hc := rtop_st Hhs7.out; rw [HQ.out.2, HRL.out.1.top] at hc; with_reducible refine hc.mono ?_); rintro e w8 ⟨rfl, hs8⟩; have Hhs8 := Aside0.mk hs8; clear hs8 hc))
      go_roundw
      case rel => exact ⟨i + 1, t', b', xs', rfl, ⟨by have := HI.out; omega⟩, HRL, Hhs8⟩
      case measure => have := HI.out; simp [intOf]; omega
    · have C3 : decide (i < (x1.length : Int)) = false := decide_eq_false c3
      clear c3
      go_wp2_with (fail)
      refine Calm.wp_region_calm_then (fun _ => True) [0, 1, 2, 3, 4, 5, 6, 7, 8, 9, 10, 11, 12, 13, 14, 15, 16, 17, 18] [] (by kernel_rfl) (by kernel_rfl) trivial ?_
      repeat (first | (refine Calm.value_ (v := ?_) (a' := ?_) rfl rfl (by rfl) ?_ ?_ ?_; rotate_left; (· rintro w' _; go_simp; with_reducible rfl); rotate_left; (· simp only [Act.put, List.setIfInBounds_toArray, List.set_cons_zero, List.set_cons_succ, i64_w, i32_w]; rfl)) | (refine Calm.off_ (a' := ?_) rfl rfl (by rfl) ?_ ?_; rotate_left; (· simp only [Act.put, List.setIfInBounds_toArray, List.set_cons_zero, List.set_cons_succ, i64_w, i32_w]; rfl)))
      refine Calm.nil_ ?_
      refine Calm.t_nil ?_
      have Hhs4 := Aside0.mk hs.out.drew
      clear hs
      obtain ⟨v0, hv0⟩ : ∃ v, Pure.wck t b n0 = v := ⟨_, rfl⟩
      obtain ⟨t', ht'⟩ : ∃ v, (Pure.wsee t b n0).2.1 = v := ⟨_, rfl⟩
      obtain ⟨b', hb'⟩ : ∃ v, (Pure.wsee t b n0).2.2 = v := ⟨_, rfl⟩
      obtain ⟨xs', hx'⟩ : ∃ v, (if v0 = 0 then xs ++ [n0] else xs) = v := ⟨_, rfl⟩
      obtain ⟨hr', hv'⟩ := Pure.rel_see hrl.out.1 n0
      rw [ht', hb', hv0, hx'] at hr'
      rw [hv0] at hv'
      have hl' : (xs'.length : Int) ≤ i + 1 := by
        have := hrl.out.2
        rw [← hx']
        split <;> simp <;> omega
      have HE := Aside0.mk (And.intro hv0 (And.intro ht' (And.intro hb' (And.intro hx' hv'))))
      have HRL := Aside0.mk (And.intro hr' hl')
      clear hv0 ht' hb' hx' hv' hr' hl'
      go_wp2_with (fail)
      refine Calm.wp_region_calm_then (fun w' => w'.cell? (ad0.add i.toNat) = some (.int .i64 n0)) [0, 1, 2, 3, 4, 6, 7, 8, 9, 10] [5, 11, 12] (by kernel_rfl) (by kernel_rfl) (by exact HW0.out _ Hhs4.out.drew.bel) ?_
      repeat (refine Calm.value_ (v := ?_) (a' := ?_) rfl rfl (by rfl) ?_ ?_ ?_; rotate_left; (· rintro w' hS'; go_simp; with_reducible rfl); rotate_left; (· simp only [Act.put, List.setIfInBounds_toArray, List.set_cons_zero, List.set_cons_succ, i64_w, i32_w]; rfl))
      refine Calm.nil_ ?_
      have hc := see_st Hhs4.out.drew HNE.out.symm hrl.out.1.win n0 HN0.out
      rw [HE.out.2.2.2.2, HE.out.2.1, HE.out.2.2.1] at hc
      refine Calm.t_call rfl rfl Try.func10 (by kernel_rfl) rfl #[.pointer (some ⟨gw, 0, none⟩), .int .i64 n0] (by rfl) rfl (by (try simp only [List.map_toArray, List.map_cons, List.map_nil]); rfl) ?_
      refine hc.mono ?_
      rintro e w5 ⟨rfl, hs5⟩
      have Hhs5 := Aside0.mk hs5
      refine ⟨_, rfl, HW0.out w5 hs5.bel, ?_⟩
      simp only [Act.put, List.setIfInBounds_toArray, List.set_cons_zero, List.set_cons_succ]
      clear hc hs5
      have hc := rsee_st Hhs5.out HNE.out HGE.out (by have := hrl.out.2; have := HI.out; omega) n0
      rw [Pure.rel_check hrl.out.1, HE.out.1, HE.out.2.2.2.1] at hc
      refine Calm.t_call rfl rfl Try.func12 (by kernel_rfl) rfl #[.pointer (some ⟨gr, 0, none⟩), .int .i64 n0] (by rfl) rfl (by (try simp only [List.map_toArray, List.map_cons, List.map_nil]); rfl) ?_
      refine hc.mono ?_
      rintro e w6 ⟨rfl, hs6⟩
      have Hhs6 := Aside0.mk hs6
      refine ⟨_, rfl, HW0.out w6 hs6.bel, ?_⟩
      simp only [Act.put, List.setIfInBounds_toArray, List.set_cons_zero, List.set_cons_succ]
      clear hc hs6
      (refine Calm.t_value (v := ?_) (w1 := ?_) (a' := ?_) rfl rfl (by rfl) ?_ ?_ ?_ ?_; rotate_left; rotate_left; (· go_simp; first | (refine And.intro ?_ ?_ <;> rfl) | rfl); (· exact HW0.out _ Hhs6.out.bel); rotate_left; (· simp only [Act.put, List.setIfInBounds_toArray, List.set_cons_zero, List.set_cons_succ, i64_w, i32_w]; rfl))
      refine Calm.t_nil ?_
      clear Hhs4 Hhs5 HE
      obtain ⟨q, hq⟩ : ∃ q, ((b' : Int) != 0) = q := ⟨_, rfl⟩
      have hq2 : decide (0 < xs'.length) = q := by
        rw [← hq]
        have := Pure.rel_len HRL.out.1
        by_cases hb : b' = 0
        · subst hb
          have : ¬ 0 < xs'.length := by
            intro h
            exact (this.1 (by omega)) rfl
          simp [this]
        · have h1 := this.2 hb
          have h2 : 0 < xs'.length := by omega
          have h3 : ((b' : Int) != 0) = true := bne_iff_ne.mpr (by omega)
          rw [h3]
          exact decide_eq_true h2
      have HQ := Aside0.mk (And.intro hq hq2)
      clear hq hq2
      go_wp2_with (first | (go_at_call 13; (have hc := top_st Hhs6.out HNE.out.symm; rw [HQ.out.1] at hc; with_reducible refine hc.mono ?_); rintro e w7 ⟨rfl, hs7⟩; have Hhs7 := Aside0.mk hs7; clear hs7 hc) | (go_at_call 14; (have hc := rtop_st Hhs7.out; rw [HQ.out.2, HRL.out.1.top] at hc; with_reducible refine hc.mono ?_); rintro e w8 ⟨rfl, hs8⟩; have Hhs8 := Aside0.mk hs8; clear hs8 hc))
      go_roundw
      case rel => exact ⟨i + 1, t', b', xs', rfl, ⟨by have := HI.out; omega⟩, HRL, Hhs8⟩
      case measure => have := HI.out; simp [intOf]; omega
end Go.Proofs.Ytligpakpgifkdaa.Walk
