/- h3.Pairs: the closure, slices.IndexFunc, slices.ContainsFunc. -/
import Derived.Test.YtnnmdocdiedgiaaDoorPureH3Writes
import Derived.LoopN
namespace Go.Proofs.YtnnmdocdiedgiaaDoor.Pairs
open Go.RowKit Go.Proofs.YtnnmdocdiedgiaaDoorW.PrintWords Go.Proofs.YtnnmdocdiedgiaaDoorW.PrintLast Go.Proofs.YtnnmdocdiedgiaaDoorW.PrintMore Go.Proofs.YtnnmdocdiedgiaaDoor.PH3Writes Go.Proofs.YtnnmdocdiedgiaaDoor Go.Proofs.YtnnmdocdiedgiaaDoor.Pure
set_option linter.unusedVariables false
set_option linter.unusedSimpArgs false
set_option maxHeartbeats 8000000 in
set_option maxRecDepth 100000 in
theorem eqlow_c (lo hi p0 : Int) (gp : Nat) (W : World) (h0 : W.cell? ⟨gp, 0, none⟩ = some (.int .i64 p0)) (hlt : gp < W.heap.size) :
    Calls Tryd.prog 20 #[.agg #[.int .i64 lo, .int .i64 hi], .pointer (some ⟨gp, 0, none⟩)] W fun e w' => e = .returned (.bool (lo == p0)) ∧ Below W.heap.size W w' := by
  have HB := Aside0.mk (Below.refl W.heap.size W)
  have HL := Aside0.mk hlt
  have H0 := Aside0.mk h0
  clear hlt h0
  go_enter Tryd.func20, Tryd.ntmps20
  go_wp2_with ((with_reducible refine gate_dst (N := 2) rfl ?_); refine box_event ?hg (N := 2) ?hd (cs := #[.int .i64 lo, .int .i64 hi]) (t := 53) ?hr ?_; (case hd => rfl); (case hg => rfl); (case hr => first | (go_simp; done) | (go_simp; rfl)); intro gb hgb w1 hbox hb; have hc0 := (show _ = some (Value.int .i64 lo) from (blk_cell hbox 0).trans rfl); have hp0 : w1.cell? ⟨gp, 0, none⟩ = some (.int .i64 p0) := (hb.cell HL.out).trans H0.out; have HB1 := Aside0.mk hb; clear hgb hbox hb)
  go_ret
  exact ⟨rfl, HB1.out⟩
/-- A row of ranges: its element. -/
theorem rng_at {w : World} {A : Option Addr} {xs : List S53} (h : Kd.C k53 w A xs.length xs) (i : Int) (h0 : 0 ≤ i) (h1 : i < xs.length) : ∃ ad, ∃ x : S53, x ∈ xs ∧ xs.getD i.toNat z53 = x ∧ A = some ad ∧ ∀ W, Below w.heap.size w W → W.cell? (ad.add (i.toNat * 2)) = some (.int .i64 x.f0) ∧ W.cell? ⟨(ad.add (i.toNat * 2)).block, (ad.add (i.toNat * 2)).off + 1, none⟩ = some (.int .i64 x.f1) := by
  obtain ⟨ad, c, e, _, hK, hc0⟩ := Kd.C_get h z53 i h0 h1
  refine ⟨ad, xs.getD i.toNat z53, ?_, rfl, e, fun W hb => ?_⟩
  · rw [List.getD_eq_getElem?_getD, List.getElem?_eq_getElem (by omega)]
    exact List.getElem_mem _
  obtain ⟨ad2, c2, e2, _, hK2, hc2⟩ := Kd.C_get (Kd.C_below h hb) z53 i h0 h1
  obtain rfl : ad = ad2 := Option.some.inj (e.symm.trans e2)
  have hc : ∀ j u, c2[j]? = some u → W.cell? (ad.add (i.toNat * 2 + j)) = some u := hc2
  obtain rfl := k53_open hK2
  exact ⟨hc 0 _ rfl, by rw [← add_field _ _ 1 (by omega)]; exact hc 1 _ rfl⟩
set_option maxHeartbeats 8000000 in
set_option maxRecDepth 100000 in
theorem index_c (p0 : Int) (gp c : Nat) (A : Option Addr) (xs : List S53) (W : World) (h0 : W.cell? ⟨gp, 0, none⟩ = some (.int .i64 p0)) (hlt : gp < W.heap.size) (hC : Kd.C k53 W A xs.length xs) :
    Calls Tryd.prog 29 #[.slice A xs.length c, .func (.func 20) #[] #[.pointer (some ⟨gp, 0, none⟩)]] W fun e w' => ∃ i : Int, e = .returned (.int .i64 i) ∧ decide (i ≥ 0) = lows xs p0 xs.length ∧ Below W.heap.size W w' := by
  have HB := Aside0.mk (Below.refl W.heap.size W)
  have HL := Aside0.mk hlt
  have H0 := Aside0.mk h0
  have HC := Aside0.mk hC
  have HM := Aside0.mk (Kd.C_max hC)
  clear hlt h0 hC
  go_enter Tryd.func29, Tryd.ntmps29
  go_wp2_with (fail)
  go_loopw [8] (fun v8 wr => ∃ i : Int, v8 = .int .i64 i ∧ Aside0 (0 ≤ i ∧ i ≤ xs.length ∧ lows xs p0 i.toNat = false) ∧ Aside0 (Below W.heap.size W wr)) (fun v8 _ => ((xs.length : Int) - intOf v8).toNat)
  case atStart => exact ⟨0, rfl, ⟨by omega, by omega, rfl⟩, HB⟩
  case round =>
    clear HB
    obtain ⟨i, rfl, hi, HB⟩ := hrel
    have hi0 := hi.out.1
    by_cases c1 : i < (xs.length : Int)
    · have C1 : decide (i < (xs.length : Int)) = true := decide_eq_true c1
      obtain ⟨ad, x, hm, hx, hA, rows⟩ := rng_at HC.out i hi0 c1
      subst hA
      obtain ⟨e0, e1⟩ := rows wr HB.out
      have p0_ := eq_true hi0
      have p1_ := eq_true c1
      have hmx := HM.out
      have hw1 : wrap64 (i + 1) = i + 1 := by unfold wrap64; omega
      have hw2 : IntKind.i64.wrap (i + 1) = i + 1 := (i64_w _).trans hw1
      have HI := Aside0.mk (And.intro hi0 c1)
      have HLO := Aside0.mk hi.out.2.2
      have hst : lows xs p0 (i.toNat + 1) = (lows xs p0 i.toNat || x.f0 == p0) := by
        show (lows xs p0 i.toNat || (xs.getD i.toNat z53).f0 == p0) = _
        rw [hx]
      have HST := Aside0.mk hst
      obtain ⟨lo, hi_⟩ := x
      dsimp only at e0 e1
      clear c1 hi0 hi hmx hst hm hx rows
      have HP := Aside0.mk (show wr.cell? ⟨gp, 0, none⟩ = some (.int .i64 p0) from (HB.out.cell HL.out).trans H0.out)
      have HLT := Aside0.mk (show gp < wr.heap.size from Nat.lt_of_lt_of_le HL.out HB.out.size)
      by_cases hq : lo = p0
      · have E : (lo == p0) = true := beq_iff_eq.mpr hq
        have hres : lows xs p0 (i.toNat + 1) = true := by rw [HST.out]; simp [hq]
        have HRES := Aside0.mk hres
        clear hq hres
        go_wp2_with (go_at_call 20; (with_reducible refine (eqlow_c lo hi_ p0 gp _ HP.out HLT.out).mono ?_); rintro e w2 ⟨rfl, hb⟩; have HB2 := Aside0.mk (below_step HB.out hb); clear hb)
        go_ret
        refine ⟨i, rfl, ?_, HB2.out⟩
        have hmono : ∀ d : Nat, lows xs p0 (i.toNat + 1 + d) = true := by
          intro d
          induction d with
          | zero => exact HRES.out
          | succ d ih =>
            show (lows xs p0 (i.toNat + 1 + d) || _) = true
            rw [ih]
            rfl
        have h1 := hmono (xs.length - (i.toNat + 1))
        have h2 := HI.out
        rw [show i.toNat + 1 + (xs.length - (i.toNat + 1)) = xs.length by omega] at h1
        rw [h1]
        exact decide_eq_true (by omega)
      · have E : (lo == p0) = false := beq_eq_false_iff_ne.mpr hq
        have hres : lows xs p0 (i + 1).toNat = false := by
          rw [show (i + 1).toNat = i.toNat + 1 by have := HI.out; omega, HST.out, HLO.out]
          exact E
        have HRES := Aside0.mk hres
        clear hq hres
        go_wp2_with (go_at_call 20; (with_reducible refine (eqlow_c lo hi_ p0 gp _ HP.out HLT.out).mono ?_); rintro e w2 ⟨rfl, hb⟩; have HB2 := Aside0.mk (below_step HB.out hb); clear hb)
        go_roundw
        case rel => exact ⟨i + 1, rfl, ⟨by have := HI.out; omega, by have := HI.out; omega, HRES.out⟩, HB2⟩
        case measure => have := HI.out; simp [intOf]; omega
    · have C1 : decide (i < (xs.length : Int)) = false := decide_eq_false c1
      have hend : lows xs p0 xs.length = false := by
        have h := hi.out
        rw [show xs.length = i.toNat by omega]
        exact h.2.2
      have HEND := Aside0.mk hend
      clear c1 hi0 hi hend
      go_wp2_with (fail)
      go_ret
      exact ⟨-1, rfl, by rw [HEND.out]; rfl, HB.out⟩
theorem contains_c (p0 : Int) (gp c : Nat) (A : Option Addr) (xs : List S53) (W : World) (h0 : W.cell? ⟨gp, 0, none⟩ = some (.int .i64 p0)) (hlt : gp < W.heap.size) (hC : Kd.C k53 W A xs.length xs) :
    Calls Tryd.prog 19 #[.slice A xs.length c, .func (.func 20) #[] #[.pointer (some ⟨gp, 0, none⟩)]] W fun e w' => e = .returned (.bool (lows xs p0 xs.length)) ∧ Below W.heap.size W w' := by
  have hidx := index_c p0 gp c A xs W h0 hlt hC
  have HI := Aside0.mk hidx
  clear hidx h0 hlt hC
  go_enter Tryd.func19, Tryd.ntmps19
  go_wp2_with (go_at_call 29; (with_reducible refine (HI.out).mono ?_); rintro e w1 ⟨i, rfl, hd, hb⟩; have HD := Aside0.mk hd; have HB := Aside0.mk hb; clear hd hb)
  go_ret
  exact ⟨by rw [← HD.out]; first | rfl | simp, HB.out⟩
end Go.Proofs.YtnnmdocdiedgiaaDoor.Pairs
