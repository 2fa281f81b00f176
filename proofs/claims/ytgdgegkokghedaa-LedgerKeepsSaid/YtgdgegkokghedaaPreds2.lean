/- The function values of ledger.Ledger.Acked and Expire: the rest. -/
import Derived.Test.YtgdgegkokghedaaPreds
namespace Go.Proofs.Ytgdgegkokghedaa.Led
open Go.RowKit Go.Deep Go.Proofs.YtgdgegkokghedaaW.PrintWords Go.Proofs.YtgdgegkokghedaaW.PrintLast Go.Proofs.YtgdgegkokghedaaW.PrintMore Go.Proofs.Ytgdgegkokghedaa.PLedgerKeeps Go.Proofs.Ytgdgegkokghedaa
set_option linter.unusedVariables false
set_option linter.unusedSimpArgs false
theorem add_nil (ad : Addr) : ad.add 0 = ad := by unfold Addr.add; cases ad; simp
def farP (hi : Int) (x : S58) : Bool := decide (wrap64 (hi - x.f0) ≥ 3)
set_option maxHeartbeats 8000000 in
set_option maxRecDepth 100000 in
theorem acked2_p {own : Option Nat} {W : World} {bR cr : Nat} {Ar : Option Addr} {r : List S34} (h : RdR own W bR cr Ar r) (hr : 0 < r.length) : PredC 29 #[.pointer (some ⟨bR, 0, none⟩)] (farP (r.getD 0 z34).f1) own W := by
  refine ⟨fun args w => by go_simp, fun x w ha => ?_⟩
  have hbk := (ha.2 bR (blk_lt h.blk) h.ne).trans h.blk
  have hc := (blk_cell hbk 0).trans (rfl : _ = some (Value.slice Ar r.length cr))
  have HLB := Aside0.mk (blk_lt hbk)
  obtain ⟨ad, hA, rows⟩ := crow34 (h.row w ha) 0 (by omega) (by omega)
  subst hA
  rw [show ad.add ((0 : Int).toNat * 2) = ad from add_nil ad] at rows
  have ROWS := Aside0.mk rows
  have hr1 := eq_true (show (0 : Int) < (r.length : Int) by omega)
  have hr2 := eq_true hr
  have hr3 := eq_false (show ¬ r.length = 0 by omega)
  clear h ha hbk rows
  unfold pk farP
  obtain ⟨n, a, z⟩ := x
  dsimp only
  obtain ⟨b, hb0⟩ : ∃ b, decide (wrap64 ((r.getD 0 z34).f1 - n) ≥ 3) = b := ⟨_, rfl⟩
  have hb1 : decide (3 ≤ wrap64 ((r.getD 0 z34).f1 - n)) = b := hb0
  rw [hb0]
  rw [show (0 : Int).toNat = 0 from rfl] at ROWS
  generalize r.getD 0 z34 = y at hb0 hb1 ROWS
  obtain ⟨lo, hi⟩ := y
  dsimp only at hb0 hb1 ROWS
  go_enter Try.func29, Try.ntmps29
  go_wp2_with ((with_reducible refine gate_dst (N := 2) rfl ?_); refine box_event ?hg (N := 2) ?hd (cs := [.int .i64 n, .int .i64 a, .int .i64 z].toArray) (t := 58) ?hr ?_; (case hd => rfl); (case hg => rfl); (case hr => first | (go_simp; done) | (go_simp; rfl)); intro gb hgb w1 hbox hb; have hc1 := (hb.cell HLB.out).trans hc; obtain ⟨e0, e1⟩ := ROWS.out _ hb; have g0 := (blk_cell hbox 0).trans (rfl : _ = some (Value.int .i64 n)); have HB1 := Aside0.mk hb; clear hgb hbox hb)
  go_region
  simp only [Exit.then]
  go_wp2_with (fail)
  go_ret
  exact ⟨rfl, by first | exact HB1.out | exact below_drew1 HB1.out⟩
set_option maxHeartbeats 8000000 in
set_option maxRecDepth 100000 in
theorem wait_b (g : Nat) (s : LS) (v : Value) (W : World) (h : W.heap[g]? = some (.cells (lcells v s) 56 (0, 0))) (h0 : 0 ≤ s.back) (h6 : s.back ≤ 6) : Calls Try.prog 21 #[.pointer (some ⟨g, 0, none⟩)] W fun e w' => e = .returned (.int .i64 (waitV s.back)) ∧ Drawn0 W w' := by
  have c5 := (blk_cell h 5).trans (rfl : _ = some (Value.int .i64 s.back))
  clear h
  have hb : s.back = 0 ∨ s.back = 1 ∨ s.back = 2 ∨ s.back = 3 ∨ s.back = 4 ∨ s.back = 5 ∨ s.back = 6 := by omega
  clear h0 h6
  rcases hb with hb | hb | hb | hb | hb | hb | hb <;> rw [hb] at c5 ⊢ <;> clear hb <;>
  · go_enter Try.func21, Try.ntmps21
    go_wp2_with (fail)
    go_ret
    exact ⟨rfl, by repeat (first | exact Drawn0.refl _ | apply Drawn0.step)⟩
set_option maxHeartbeats 8000000 in
set_option maxRecDepth 100000 in
theorem idxP_c (W : World) (K n c : Nat) (A : Option Addr) (caps : Array Value) (p : S58 → Bool) (fl : List S58) (own : Option Nat) (hp : PredC K caps p own W) (hC : Kd.C k58 W A fl.length fl) (hn : n = fl.length) :
    Calls Try.prog 42 #[.slice A n c, .func (.func K) #[] caps] W fun e w' => ∃ i : Int, e = .returned (.int .i64 i) ∧ decide (i ≥ 0) = fl.any p ∧ Below W.heap.size W w' := by
  subst hn
  obtain ⟨eg, hp⟩ := hp
  have HP := Aside0.mk hp
  have HC := Aside0.mk hC
  have HM := Aside0.mk (Kd.C_max hC)
  have HB := Aside0.mk (Below.refl W.heap.size W)
  clear hp hC
  go_enter Try.func42, Try.ntmps42
  go_wp2_with (fail)
  go_loopw [8] (fun v8 wr => ∃ i : Int, v8 = .int .i64 i ∧ Aside0 (0 ≤ i ∧ i ≤ fl.length ∧ (fl.take i.toNat).any p = false) ∧ Aside0 (Below W.heap.size W wr)) (fun v8 _ => ((fl.length : Int) - intOf v8).toNat)
  case atStart => exact ⟨0, rfl, ⟨by omega, by omega, rfl⟩, HB⟩
  case round =>
    clear HB
    obtain ⟨i, rfl, HI, HB⟩ := hrel
    have hi0 := HI.out.1
    by_cases d1 : i < (fl.length : Int)
    · have M1 : decide (i < (fl.length : Int)) = true := decide_eq_true d1
      obtain ⟨ad, hA, rows⟩ := crow58 HC.out i hi0 d1
      subst hA
      obtain ⟨x0, x1, x2⟩ := rows wr HB.out
      have p0 := eq_true hi0
      have p1 := eq_true d1
      have hw1 : wrap64 (i + 1) = i + 1 := by have := HM.out; unfold wrap64; omega
      have hw2 : IntKind.i64.wrap (i + 1) = i + 1 := (i64_w _).trans hw1
      have hcall := HP.out (fl.getD i.toNat z58) wr ⟨HB.out.size, fun k hk _ => HB.out.block k hk⟩
      have HI2 := Aside0.mk (And.intro hi0 d1)
      have hst : (fl.take (i.toNat + 1)).any p = ((fl.take i.toNat).any p || p (fl.getD i.toNat z58)) := by rw [take58 fl i.toNat (by omega), List.any_append]; simp
      have HST := Aside0.mk hst
      generalize fl.getD i.toNat z58 = x at x0 x1 x2 hcall HST
      obtain ⟨f0, f1, f2⟩ := x
      unfold pk at hcall
      dsimp only at x0 x1 x2 hcall
      cases hq : p ⟨f0, f1, f2⟩ with
      | true =>
        rw [hq] at hcall
        have HX := Aside0.mk hcall
        have HRS := Aside0.mk (show fl.any p = true from by
          have h1 : (fl.take (i.toNat + 1)).any p = true := by rw [HST.out, hq]; simp
          rw [List.any_eq_true] at h1 ⊢
          obtain ⟨y, hy, hy2⟩ := h1
          exact ⟨y, List.mem_of_mem_take hy, hy2⟩)
        clear hq hcall d1 hi0 rows hst
        go_wp2_with ((with_reducible refine (HX.out).mono ?_); rintro e w3 ⟨rfl, hb3⟩; have HB3 := Aside0.mk (below_step HB.out hb3); clear hb3)
        go_ret
        exact ⟨i, rfl, by rw [HRS.out]; exact decide_eq_true HI2.out.1, HB3.out⟩
      | false =>
        rw [hq] at hcall
        have HX := Aside0.mk hcall
        have HRS := Aside0.mk (show (fl.take (i + 1).toNat).any p = false by rw [show (i + 1).toNat = i.toNat + 1 by omega, HST.out, hq, HI.out.2.2]; rfl)
        clear hq hcall d1 hi0 rows hst
        go_wp2_with ((with_reducible refine (HX.out).mono ?_); rintro e w3 ⟨rfl, hb3⟩; have HB3 := Aside0.mk (below_step HB.out hb3); clear hb3)
        go_roundw
        case rel => exact ⟨i + 1, rfl, ⟨by have := HI2.out; omega, by have := HI2.out; omega, HRS.out⟩, HB3⟩
        case measure => have := HI2.out; simp [intOf]; omega
    · have M1 : decide (i < (fl.length : Int)) = false := decide_eq_false d1
      have HEN := Aside0.mk (show fl.any p = false by rw [← HI.out.2.2, List.take_of_length_le (by have := HI.out; omega)])
      clear d1 hi0
      go_wp2_with (fail)
      go_ret
      exact ⟨-1, rfl, by rw [HEN.out]; rfl, HB.out⟩
set_option maxHeartbeats 8000000 in
set_option maxRecDepth 100000 in
theorem conP_c (W : World) (K n c : Nat) (A : Option Addr) (caps : Array Value) (p : S58 → Bool) (fl : List S58) (own : Option Nat) (hp : PredC K caps p own W) (hC : Kd.C k58 W A fl.length fl) (hn : n = fl.length) :
    Calls Try.prog 32 #[.slice A n c, .func (.func K) #[] caps] W fun e w' => e = .returned (.bool (fl.any p)) ∧ Below W.heap.size W w' := by
  have HI := Aside0.mk (idxP_c W K n c A caps p fl own hp hC hn)
  clear hp hC hn
  go_enter Try.func32, Try.ntmps32
  go_wp2_with (go_at_call 42; (with_reducible refine (HI.out).mono ?_); rintro e w1 ⟨i, rfl, hd, hb⟩; have HD := Aside0.mk hd; have HB := Aside0.mk hb; clear hd hb)
  go_ret
  exact ⟨by rw [← HD.out]; first | rfl | simp, HB.out⟩
end Go.Proofs.Ytgdgegkokghedaa.Led
