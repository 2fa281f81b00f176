/- The function values of ledger.Ledger.Acked and Expire. -/
import Derived.Test.YtgdgegkokghedaaTakeC
namespace Go.Proofs.Ytgdgegkokghedaa.Led
open Go.RowKit Go.Deep Go.Proofs.YtgdgegkokghedaaW.PrintWords Go.Proofs.YtgdgegkokghedaaW.PrintLast Go.Proofs.YtgdgegkokghedaaW.PrintMore Go.Proofs.Ytgdgegkokghedaa.PLedgerKeeps Go.Proofs.Ytgdgegkokghedaa
set_option linter.unusedVariables false
set_option linter.unusedSimpArgs false
def inR (n : Int) (y : S34) : Bool := decide (n ≥ y.f0) && decide (n ≤ y.f1)
theorem in_c (lo hi n a z : Int) (gp : Nat) (W : World) (h0 : W.heap[gp]? = some (.cells #[.int .i64 n, .int .i64 a, .int .i64 z] 58 (0, 0))) :
    Calls Try.prog 27 #[.agg #[.int .i64 lo, .int .i64 hi], .pointer (some ⟨gp, 0, none⟩)] W fun e w' => e = .returned (.bool (inR n ⟨lo, hi⟩)) ∧ Below W.heap.size W w' := by
  have HL := Aside0.mk (blk_lt h0)
  have c0 := (blk_cell h0 0).trans (rfl : _ = some (Value.int .i64 n))
  have H0 := Aside0.mk h0
  clear h0
  unfold inR
  dsimp only
  by_cases h1 : n ≥ lo
  · have E1 : decide (n ≥ lo) = true := decide_eq_true h1
    have E1' : decide (lo ≤ n) = true := decide_eq_true h1
    obtain ⟨b, hb⟩ : ∃ b, decide (n ≤ hi) = b := ⟨_, rfl⟩
    rw [E1, hb]
    clear h1
    cases b <;>
    · go_enter Try.func27, Try.ntmps27
      go_wp2_with ((with_reducible refine gate_dst (N := 2) rfl ?_); refine box_event ?hg (N := 2) ?hd (cs := [.int .i64 lo, .int .i64 hi].toArray) (t := 34) ?hr ?_; (case hd => rfl); (case hg => rfl); (case hr => first | (go_simp; done) | (go_simp; rfl)); intro gb hgb w1 hbox hb; have hc0 := (show _ = some (Value.int .i64 lo) from (blk_cell hbox 0).trans rfl); have hc1 := (show _ = some (Value.int .i64 hi) from (blk_cell hbox 1).trans rfl); have hp0 : w1.cell? ⟨gp, 0, none⟩ = some (.int .i64 n) := (hb.cell HL.out).trans c0; have HB1 := Aside0.mk hb; clear hgb hbox hb)
      go_ret
      exact ⟨rfl, HB1.out⟩
  · have E1 : decide (n ≥ lo) = false := decide_eq_false h1
    have E1' : decide (lo ≤ n) = false := decide_eq_false h1
    rw [E1]
    clear h1
    go_enter Try.func27, Try.ntmps27
    go_wp2_with ((with_reducible refine gate_dst (N := 2) rfl ?_); refine box_event ?hg (N := 2) ?hd (cs := [.int .i64 lo, .int .i64 hi].toArray) (t := 34) ?hr ?_; (case hd => rfl); (case hg => rfl); (case hr => first | (go_simp; done) | (go_simp; rfl)); intro gb hgb w1 hbox hb; have hc0 := (show _ = some (Value.int .i64 lo) from (blk_cell hbox 0).trans rfl); have hc1 := (show _ = some (Value.int .i64 hi) from (blk_cell hbox 1).trans rfl); have hp0 : w1.cell? ⟨gp, 0, none⟩ = some (.int .i64 n) := (hb.cell HL.out).trans c0; have HB1 := Aside0.mk hb; clear hgb hbox hb)
    go_ret
    exact ⟨rfl, HB1.out⟩
def anyR (n : Int) (xs : List S34) : Bool := xs.any (inR n)
theorem any_step (n : Int) (xs : List S34) (i : Nat) (h : i < xs.length) : (xs.take (i + 1)).any (inR n) = ((xs.take i).any (inR n) || inR n (xs.getD i z34)) := by
  rw [List.take_add_one, List.getElem?_eq_getElem h, List.any_append, List.getD_eq_getElem?_getD, List.getElem?_eq_getElem h]
  simp
theorem any_up (n : Int) (xs : List S34) (i : Nat) (h : (xs.take i).any (inR n) = true) : xs.any (inR n) = true := by
  rw [List.any_eq_true] at h ⊢
  obtain ⟨x, hx, hq⟩ := h
  exact ⟨x, List.mem_of_mem_take hx, hq⟩
theorem crow34 {w : World} {A : Option Addr} {xs : List S34} (h : Kd.C k34 w A xs.length xs) (i : Int) (h0 : 0 ≤ i) (h1 : i < xs.length) : ∃ ad, A = some ad ∧ ∀ W, Below w.heap.size w W → W.cell? (ad.add (i.toNat * 2)) = some (.int .i64 (xs.getD i.toNat z34).f0) ∧ W.cell? ⟨(ad.add (i.toNat * 2)).block, (ad.add (i.toNat * 2)).off + 1, none⟩ = some (.int .i64 (xs.getD i.toNat z34).f1) := by
  obtain ⟨ad, e, _⟩ := at_T34 h i h0 h1
  refine ⟨ad, e, fun W hb => ?_⟩
  obtain ⟨ad2, e2, hc⟩ := at_T34 (Kd.C_below h hb) i h0 h1
  obtain rfl : ad = ad2 := Option.some.inj (e.symm.trans e2)
  exact hc
set_option maxHeartbeats 8000000 in
set_option maxRecDepth 100000 in
theorem idxR_c (n a z : Int) (gp c : Nat) (A : Option Addr) (xs : List S34) (W : World) (h0 : W.heap[gp]? = some (.cells #[.int .i64 n, .int .i64 a, .int .i64 z] 58 (0, 0))) (hC : Kd.C k34 W A xs.length xs) :
    Calls Try.prog 41 #[.slice A xs.length c, .func (.func 27) #[] #[.pointer (some ⟨gp, 0, none⟩)]] W fun e w' => ∃ i : Int, e = .returned (.int .i64 i) ∧ decide (i ≥ 0) = anyR n xs ∧ Below W.heap.size W w' := by
  have HB := Aside0.mk (Below.refl W.heap.size W)
  have H0 := Aside0.mk h0
  have HC := Aside0.mk hC
  have HM := Aside0.mk (Kd.C_max hC)
  clear h0 hC
  unfold anyR
  go_enter Try.func41, Try.ntmps41
  go_wp2_with (fail)
  go_loopw [8] (fun v8 wr => ∃ i : Int, v8 = .int .i64 i ∧ Aside0 (0 ≤ i ∧ i ≤ xs.length ∧ (xs.take i.toNat).any (inR n) = false) ∧ Aside0 (Below W.heap.size W wr)) (fun v8 _ => ((xs.length : Int) - intOf v8).toNat)
  case atStart => exact ⟨0, rfl, ⟨by omega, by omega, rfl⟩, HB⟩
  case round =>
    clear HB
    obtain ⟨i, rfl, hi, HB⟩ := hrel
    have hi0 := hi.out.1
    by_cases c1 : i < (xs.length : Int)
    · have C1 : decide (i < (xs.length : Int)) = true := decide_eq_true c1
      obtain ⟨ad, hA, rows⟩ := crow34 HC.out i hi0 c1
      subst hA
      obtain ⟨e0, e1⟩ := rows wr HB.out
      have p0_ := eq_true hi0
      have p1_ := eq_true c1
      have hmx := HM.out
      have hw1 : wrap64 (i + 1) = i + 1 := by unfold wrap64; omega
      have hw2 : IntKind.i64.wrap (i + 1) = i + 1 := (i64_w _).trans hw1
      have HI := Aside0.mk (And.intro hi0 c1)
      have HLO := Aside0.mk hi.out.2.2
      have HST := Aside0.mk (any_step n xs i.toNat (by omega))
      generalize xs.getD i.toNat z34 = x at e0 e1 HST
      obtain ⟨lo, hi_⟩ := x
      dsimp only at e0 e1
      clear c1 hi0 hi hmx rows
      have HP := Aside0.mk (blk_below H0.out HB.out)
      cases hq : inR n ⟨lo, hi_⟩ with
      | true =>
        have hcall := in_c lo hi_ n a z gp wr HP.out
        rw [hq] at hcall
        have HX := Aside0.mk hcall
        have hres : xs.any (inR n) = true := any_up n xs (i.toNat + 1) (by rw [HST.out, hq]; simp)
        have HRS := Aside0.mk hres
        clear hq hres hcall
        go_wp2_with (go_at_call 27; (with_reducible refine (HX.out).mono ?_); rintro e w2 ⟨rfl, hb⟩; have HB2 := Aside0.mk (below_step HB.out hb); clear hb)
        go_ret
        exact ⟨i, rfl, by rw [HRS.out]; exact decide_eq_true HI.out.1, HB2.out⟩
      | false =>
        have hcall := in_c lo hi_ n a z gp wr HP.out
        rw [hq] at hcall
        have HX := Aside0.mk hcall
        have HRES := Aside0.mk (show (xs.take (i + 1).toNat).any (inR n) = false by rw [show (i + 1).toNat = i.toNat + 1 by have := HI.out; omega, HST.out, hq, HLO.out]; rfl)
        clear hq hcall
        go_wp2_with (go_at_call 27; (with_reducible refine (HX.out).mono ?_); rintro e w2 ⟨rfl, hb⟩; have HB2 := Aside0.mk (below_step HB.out hb); clear hb)
        go_roundw
        case rel => exact ⟨i + 1, rfl, ⟨by have := HI.out; omega, by have := HI.out; omega, HRES.out⟩, HB2⟩
        case measure => have := HI.out; simp [intOf]; omega
    · have C1 : decide (i < (xs.length : Int)) = false := decide_eq_false c1
      have hend : xs.any (inR n) = false := by
        have h := hi.out
        rw [← h.2.2, show i.toNat = xs.length by omega, List.take_length]
      have HEN := Aside0.mk hend
      clear c1 hi0 hi hend
      go_wp2_with (fail)
      go_ret
      exact ⟨-1, rfl, by rw [HEN.out]; rfl, HB.out⟩
set_option maxHeartbeats 8000000 in
set_option maxRecDepth 100000 in
theorem conR_c (n a z : Int) (gp c : Nat) (A : Option Addr) (xs : List S34) (W : World) (h0 : W.heap[gp]? = some (.cells #[.int .i64 n, .int .i64 a, .int .i64 z] 58 (0, 0))) (hC : Kd.C k34 W A xs.length xs) :
    Calls Try.prog 26 #[.slice A xs.length c, .func (.func 27) #[] #[.pointer (some ⟨gp, 0, none⟩)]] W fun e w' => e = .returned (.bool (anyR n xs)) ∧ Below W.heap.size W w' := by
  have HI := Aside0.mk (idxR_c n a z gp c A xs W h0 hC)
  clear h0 hC
  go_enter Try.func26, Try.ntmps26
  go_wp2_with (go_at_call 41; (with_reducible refine (HI.out).mono ?_); rintro e w1 ⟨i, rfl, hd, hb⟩; have HD := Aside0.mk hd; have HB := Aside0.mk hb; clear hd hb)
  go_ret
  exact ⟨by rw [← HD.out]; first | rfl | simp, HB.out⟩
/-- What the function values of Acked read. -/
structure RdR (own : Option Nat) (W : World) (bR cr : Nat) (Ar : Option Addr) (r : List S34) : Prop where
  blk : W.heap[bR]? = some (.cells #[.slice Ar r.length cr] 35 (0, 0))
  ne : some bR ≠ own
  row : ∀ w, Apart own W w → Kd.C k34 w Ar r.length r
set_option maxHeartbeats 8000000 in
set_option maxRecDepth 100000 in
theorem acked1_p {own : Option Nat} {W : World} {bR cr : Nat} {Ar : Option Addr} {r : List S34} (h : RdR own W bR cr Ar r) : PredC 25 #[.pointer (some ⟨bR, 0, none⟩)] (fun x => anyR x.f0 r) own W := by
  refine ⟨fun args w => by go_simp, fun x w ha => ?_⟩
  have hbk := (ha.2 bR (blk_lt h.blk) h.ne).trans h.blk
  have hc := (blk_cell hbk 0).trans (rfl : _ = some (Value.slice Ar r.length cr))
  have HBK := Aside0.mk hbk
  have HR := Aside0.mk (h.row w ha)
  clear h ha hbk
  unfold pk
  obtain ⟨n, a, z⟩ := x
  go_enter Try.func25, Try.ntmps25
  go_wp2_with (first | ((with_reducible refine gate_dst (N := 2) rfl ?_); refine box_event ?hg (N := 2) ?hd (cs := [.int .i64 n, .int .i64 a, .int .i64 z].toArray) (t := 58) ?hr ?_; (case hd => rfl); (case hg => rfl); (case hr => first | (go_simp; done) | (go_simp; rfl)); intro gb hgb w1 hbox hb; have hc1 := (hb.cell (blk_lt HBK.out)).trans hc; have HX := Aside0.mk hbox; have HB1 := Aside0.mk hb; clear hgb hbox hb) | (go_at_call 26; (with_reducible refine (conR_c n a z gb cr Ar r _ HX.out (Kd.C_below HR.out HB1.out)).mono ?_); rintro e w2 ⟨rfl, hb2⟩; have HB2 := Aside0.mk (below_step HB1.out hb2); clear hb2))
  go_ret
  exact ⟨rfl, HB2.out⟩
theorem expire2_p (own : Option Nat) (W : World) : PredC 34 #[] (fun _ => true) own W := by
  refine ⟨fun args w => by go_simp, fun x w ha => ?_⟩
  clear ha
  unfold pk
  obtain ⟨n, a, z⟩ := x
  go_enter Try.func34, Try.ntmps34
  go_wp2_with ((with_reducible refine gate_dst (N := 1) rfl ?_); refine box_event ?hg (N := 1) ?hd (cs := [.int .i64 n, .int .i64 a, .int .i64 z].toArray) (t := 58) ?hr ?_; (case hd => rfl); (case hg => rfl); (case hr => first | (go_simp; done) | (go_simp; rfl)); intro gb hgb w1 hbox hb; have HB1 := Aside0.mk hb; clear hgb hbox hb)
  go_ret
  exact ⟨rfl, HB1.out⟩
end Go.Proofs.Ytgdgegkokghedaa.Led
