/- H3Strange: the walk. -/
import Derived.Test.YtnnmdocdiedgiaaDoorStrangePure
namespace Go.Proofs.YtnnmdocdiedgiaaDoor.Walk
open Go.RowKit Go.Proofs.YtnnmdocdiedgiaaDoorW.PrintWords Go.Proofs.YtnnmdocdiedgiaaDoorW.PrintLast Go.Proofs.YtnnmdocdiedgiaaDoorW.PrintMore Go.Proofs.YtnnmdocdiedgiaaDoor.PH3Writes Go.Proofs.YtnnmdocdiedgiaaDoor Go.Proofs.YtnnmdocdiedgiaaDoor.Pure Go.Proofs.YtnnmdocdiedgiaaDoor.Pairs Go.Proofs.YtnnmdocdiedgiaaDoor.Reader
set_option linter.unusedVariables false
set_option linter.unusedSimpArgs false
/-- An element of a row of strings. -/
theorem el_str {w : World} {A : Option Addr} {xs : List ByteArray} (h : Kd.string.C w A xs.length xs) (i : Int) (h0 : 0 ≤ i) (h1 : i < xs.length) : ∃ ad, A = some ad ∧ ∀ W, Below w.heap.size w W → W.cell? (ad.add i.toNat) = some (.string (xs.getD i.toNat (⟨#[]⟩ : ByteArray))) := by
  obtain ⟨ad, c, e, _, hK, hc0⟩ := Kd.C_get h (⟨#[]⟩ : ByteArray) i h0 h1
  refine ⟨ad, e, fun W hb => ?_⟩
  obtain ⟨ad2, c2, e2, _, hK2, hc2⟩ := Kd.C_get (Kd.C_below h hb) (⟨#[]⟩ : ByteArray) i h0 h1
  obtain rfl : ad = ad2 := Option.some.inj (e.symm.trans e2)
  have hc := hc2 0 (.string (xs.getD i.toNat (⟨#[]⟩ : ByteArray))) (by rw [show c2 = [.string (xs.getD i.toNat (⟨#[]⟩ : ByteArray))] from hK2]; rfl)
  have hsz : Kd.string.sz = 1 := rfl
  simpa [hsz] using hc
/-- Two rows of the same events. -/
structure TwoR (w wr : World) (Aa Ab : Option Addr) (ca cb : Nat) (ev : List S39) (ok1 ok2 : Nat → Prop) : Prop where
  ra : Kd.R k39 39 wr w.heap.size ok1 (.slice Aa ev.length ca) ev
  rb : Kd.R k39 39 wr w.heap.size ok2 (.slice Ab ev.length cb) ev
  bel : Below w.heap.size w wr
theorem TwoR.drew {w wr : World} {Aa Ab : Option Addr} {ca cb : Nat} {ev : List S39} {ok1 ok2 : Nat → Prop} (h : TwoR w wr Aa Ab ca cb ev ok1 ok2) : TwoR w wr.drew Aa Ab ca cb ev ok1 ok2 := ⟨Kd.R_drew h.ra, Kd.R_drew h.rb, below_drew1 h.bel⟩
theorem TwoR.drawn {w wr w2 : World} {Aa Ab : Option Addr} {ca cb : Nat} {ev : List S39} {ok1 ok2 : Nat → Prop} (h : TwoR w wr Aa Ab ca cb ev ok1 ok2) (hd : Drawn0 wr w2) : TwoR w w2 Aa Ab ca cb ev ok1 ok2 := by
  obtain ⟨n, rfl⟩ := hd
  exact ⟨Kd.R_drewN h.ra n, Kd.R_drewN h.rb n, pw_below_drewN h.bel n⟩
set_option maxHeartbeats 32000000 in
set_option maxRecDepth 100000 in
theorem h3Strange_walk (ctl : Bool) (A : Option Addr) (cap : Nat) (xs : List ByteArray) (strange : Int) (w : World) (hr : Kd.string.C w A xs.length xs) (hc : xs.length ≤ cap) (hT : Kd.C (Kd.int .i64) w (some ⟨0, 0, none⟩) 4 ([1, 2, 4, 8] : List Int)) (G1 : xs.length * 16 ≤ 140737488351232 ∧ ∀ y ∈ xs, y.size ≤ 140737488351232) (G2 : (Lit.int .i64 strange).wf = true) :
    Calls Tryd.prog 6 #[.bool ctl, .slice A xs.length cap, .int .i64 strange] w fun e w' => e = .returned (.bool true) ∧ Below w.heap.size w w' := by
  have HT := Aside0.mk hT
  have HRow := Aside0.mk hr
  clear hT hr hc G1 G2
  obtain ⟨st, hst, hs0, hs1⟩ : ∃ st, wrap64 (33 + wrap64 ((IntKind.u64.wrap strange).tmod 100000)) = st ∧ 33 ≤ st ∧ st ≤ 4611686018427387903 := by
    have hu := u64_range strange
    refine ⟨_, rfl, ?_, ?_⟩ <;> rw [Int.tmod_eq_emod_of_nonneg hu.1, wrap_in (IntKind.u64.wrap strange % 100000) (by omega) (by omega), wrap_in _ (by omega) (by omega)] <;> omega
  have hst2 : IntKind.i64.wrap (33 + IntKind.i64.wrap ((IntKind.u64.wrap strange).tmod 100000)) = st := by rw [i64_w, i64_w]; exact hst
  have HST := Aside0.mk (And.intro hs0 hs1)
  clear hs0 hs1
  cases ctl
  · obtain ⟨k1, hk1⟩ := (frame_ev 1 (⟨#[104]⟩ : ByteArray) (by decide)).rounds
    have hz1 := framev_size 1 (⟨#[104]⟩ : ByteArray) (by decide)
    have hfz := fst0_size false
    have hff : fst0 false = framev 1 (⟨#[104]⟩ : ByteArray) := rfl
    generalize framev 1 (⟨#[104]⟩ : ByteArray) = f1 at *
    have Hk1 := Aside0.mk hk1
    have HFF := Aside0.mk hff
    have HFZ := Aside0.mk hfz
    clear hk1 hz1 hff hfz
    go_enter Tryd.func6, Tryd.ntmps6
    go_wp2_with (first | (go_at_call 13; (with_reducible refine (works_c w HT.out).mono ?_); rintro e_ w1 ⟨rfl, hb⟩; have HB := Aside0.mk hb; clear hb) | (go_at_call 14; (with_reducible refine (new_c false _).mono ?_); rintro e_ w2 ⟨ga, rfl, hg, hb, hB⟩; have HGa := Aside0.mk (Nat.le_trans HB.out.size hg); have HNa := Aside0.mk hb; have HB2 := Aside0.mk (below_step HB.out hB); clear hg hb hB) | (go_at_call 14; (with_reducible refine (new_c false _).mono ?_); rintro e_ w3 ⟨gb, rfl, hg, hb, hB⟩; have HNE := Aside0.mk (show ga ≠ gb from Nat.ne_of_lt (Nat.lt_of_lt_of_le (blk_lt HNa.out) hg)); have HGb := Aside0.mk (Nat.le_trans HB2.out.size hg); have HB3 := Aside0.mk (show Below w.heap.size w w3 ∧ w3.heap[ga]? = _ ∧ w3.heap[gb]? = _ from ⟨below_step HB2.out hB, blk_below HNa.out hB, hb⟩); clear hg hb hB HNa HB2) | (go_at_call 10; (with_reducible refine (h3_Frame.calls k1 1 (⟨#[104]⟩ : ByteArray) _ _ (Kd.C_below HT.out HB3.out.1) Hk1.out).mono ?_); rintro e_ w_ ⟨rfl, hb⟩; have n0_ := Aside0.mk (show Below w.heap.size w w_ ∧ w_.heap[ga]? = _ ∧ w_.heap[gb]? = _ from ⟨below_step HB3.out.1 hb, blk_below HB3.out.2.1 hb, blk_below HB3.out.2.2 hb⟩); clear hb; have HB4 := n0_; clear n0_))
    obtain ⟨s0, hs0⟩ : ∃ s, fst0 false = s := ⟨_, rfl⟩
    rw [hs0] at HFF HFZ
    obtain rfl := HFF.out
    have HS0 := Aside0.mk hs0
    clear hs0 HFF
    go_loopw [10, 11, 12] (fun v10 v11 v12 wr => ∃ (sb tb : ByteArray) (i : Int), v10 = .string sb ∧ v11 = .string tb ∧ v12 = .int .i64 i ∧ Aside0 (0 ≤ i ∧ i ≤ 12 ∧ i ≤ xs.length ∧ (∀ y ∈ xs.take i.toNat, y.size ≤ 500) ∧ sb = s0 ++ sbd false (xs.take i.toNat) ∧ tb = s0 ++ tbd false st (xs.take i.toNat)) ∧ Aside0 (Below w.heap.size w wr ∧ wr.heap[ga]? = some (.cells (rcells ga (initR false)) 60 (0, 0)) ∧ wr.heap[gb]? = some (.cells (rcells gb (initR false)) 60 (0, 0)))) (fun _ _ v12 _ => (12 - intOf v12).toNat)
    case atStart => exact ⟨s0, s0, 0, rfl, rfl, rfl, ⟨by omega, by omega, by omega, (by intro y hy; simp at hy), (app_nil s0).symm, (app_nil s0).symm⟩, HB4⟩
    case round =>
      clear HB4
      obtain ⟨sb, tb, i, rfl, rfl, rfl, HI, HW⟩ := hrel
      have hi0 := HI.out.1
      by_cases c1 : i < (xs.length : Int)
      rotate_left
      · have D1 : decide (i < (xs.length : Int)) = false := decide_eq_false c1
        clear c1 hi0
        go_wp2_with (fail)
        obtain ⟨ev, hev⟩ : ∃ e, (ev0 false :: evx false (xs.take i.toNat)) = e := ⟨_, rfl⟩
        obtain ⟨sg1, hr1⟩ := runs_sbd false (xs.take i.toNat) false HI.out.2.2.2.1
        obtain ⟨sg2, hr2⟩ := runs_tbd false st HST.out.1 HST.out.2 (xs.take i.toNat) false HI.out.2.2.2.1
        have hrun1 := runs_first false _ hr1
        have hrun2 := runs_first false _ hr2
        rw [HS0.out, ← HI.out.2.2.2.2.1, hev] at hrun1
        rw [HS0.out, ← HI.out.2.2.2.2.2, hev] at hrun2
        have h2 : (xs.take i.toNat).length ≤ 12 := by rw [List.length_take]; have := HI.out; omega
        have h3 : (initR false).rest.size = 0 := rfl
        have h4 := HFZ.out
        have hsz1 : (initR false).rest.size + sb.size ≤ 100000 := by have h1 := sbd_size false (xs.take i.toNat) HI.out.2.2.2.1; rw [HI.out.2.2.2.2.1, ByteArray.size_append]; omega
        have hsz2 : (initR false).rest.size + tb.size ≤ 100000 := by have h1 := tbd_size false st (xs.take i.toNat) HI.out.2.2.2.1; rw [HI.out.2.2.2.2.2, ByteArray.size_append]; omega
        have hel : ev.length ≤ 1000 := by have := evx_len false (xs.take i.toNat); rw [← hev, List.length_cons]; omega
        have HR1 := Aside0.mk hrun1
        have HR2 := Aside0.mk hrun2
        have HZ1 := Aside0.mk hsz1
        have HZ2 := Aside0.mk hsz2
        have HEL := Aside0.mk hel
        clear hr1 hr2 hrun1 hrun2 h2 h3 h4 hsz1 hsz2 hel hev
        go_wp2_with (first | (go_at_call 15; (with_reducible refine (feed_c ga (initR false) sb ev _ w _ HW.out.2.1 HGa.out HW.out.1 HT.out rfl (inv_init false) HR1.out HZ1.out).mono ?_); rintro e_ w6 ⟨v6, rfl, hf⟩; obtain ⟨Aa, ca, rfl⟩ := Kd.R_slice hf.rr; have HF1 := Aside0.mk hf; have HBb := Aside0.mk (hf.keep.blk HW.out.2.2 HNE.out.symm (by simp)); have HLT := Aside0.mk (blk_lt HW.out.2.2); clear hf) | (go_at_call 15; (with_reducible refine (feed_c gb (initR false) tb ev _ w _ HBb.out HGb.out HF1.out.bel HT.out rfl (inv_init false) HR2.out HZ2.out).mono ?_); rintro e_ w7 ⟨v7, rfl, hf⟩; obtain ⟨Ab, cb, rfl⟩ := Kd.R_slice hf.rr; have HTW := Aside0.mk (show TwoR w w7 Aa Ab ca cb ev _ _ from ⟨Kd.R_keep (Kd.R_bound HF1.out.rr) hf.keep (fun k hk he => by subst he; have h1 := hk.1.2; have h2 := HLT.out; omega), hf.rr, hf.bel⟩); have HEa := Aside0.mk (hf.keep.blk HF1.out.rb HNE.out (by simp)); have HEb := Aside0.mk hf.rb; clear hf) | (go_at_call 17; (with_reducible refine (end_c ga _ _ HEa.out).mono ?_); rintro e_ w8 ⟨rfl, hd_⟩; have n0_ := Aside0.mk (HTW.out.drawn hd_); have n1_ := Aside0.mk (show w8.heap[gb]? = _ from (by obtain ⟨n_, rfl⟩ := hd_; exact HEb.out)); clear hd_ HTW HEb; have HTW := n0_; have HEb := n1_; clear n0_ n1_) | (go_at_call 17; (with_reducible refine (end_c gb _ _ HEb.out).mono ?_); rintro e_ w8 ⟨rfl, hd_⟩; have n0_ := Aside0.mk (HTW.out.drawn hd_); have n1_ := Aside0.mk (show w8.heap[gb]? = _ from (by obtain ⟨n_, rfl⟩ := hd_; exact HEb.out)); clear hd_ HTW HEb; have HTW := n0_; have HEb := n1_; clear n0_ n1_))
        go_loopw [18] (fun v18 wr2 => ∃ k : Int, v18 = .int .i64 k ∧ Aside0 (0 ≤ k ∧ k ≤ ev.length) ∧ Aside0 (TwoR w wr2 Aa Ab ca cb ev _ _)) (fun v18 _ => ((ev.length : Int) - intOf v18).toNat)
        case atStart => exact ⟨0, rfl, ⟨by omega⟩, HTW⟩
        case round =>
          clear HTW
          obtain ⟨k, rfl, HKK, HQ⟩ := hrel
          have k0 := HKK.out.1
          by_cases d1 : k < (ev.length : Int)
          rotate_left
          · have M1 : decide (k < (ev.length : Int)) = false := decide_eq_false d1
            clear d1 k0
            go_wp2_with (fail)
            go_ret
            exact ⟨rfl, HQ.out.bel⟩
          have M1 : decide (k < (ev.length : Int)) = true := decide_eq_true d1
          have hdr := HQ.out.drew
          obtain ⟨ad1, hA1, x0, x1⟩ := ev_at hdr.ra k k0 d1
          obtain ⟨ad2, hA2, y0, y1⟩ := ev_at hdr.rb k k0 d1
          generalize (ev.getD k.toNat z39).f0 = e0 at x0 y0
          generalize (ev.getD k.toNat z39).f1 = e1 at x1 y1
          subst hA1 hA2
          have r0 := eq_true k0
          have r1 := eq_true d1
          have hv1 : wrap64 (k + 1) = k + 1 := by have := HEL.out; unfold wrap64; omega
          have hv2 : IntKind.i64.wrap (k + 1) = k + 1 := (i64_w _).trans hv1
          have HKD := Aside0.mk (And.intro k0 d1)
          have HQD := Aside0.mk hdr
          clear d1 k0 hdr
          go_wp2_with (fail)
          refine wp_region_still_lit (by kernel_rfl) (by kernel_rfl) ?_
          change wpStill _ _ (World.drew _) (fun a' => _) _ _
          repeat (first | still_step)
          refine wpStill_nil ?_
          go_wp2_with (fail)
          go_roundw
          case rel => exact ⟨_, _, _, _, _, _, _, _, _, _, _, _, _, _, _, _, _, ⟨k + 1, rfl, ⟨by have := HKD.out; omega⟩, HQD⟩, rfl⟩
          case measure => have := HKD.out; simp [intOf]; omega
      have D1 : decide (i < (xs.length : Int)) = true := decide_eq_true c1
      by_cases c2 : i < 12
      rotate_left
      · have D2 : decide (i < 12) = false := decide_eq_false c2
        clear c1 c2 hi0
        go_wp2_with (fail)
        obtain ⟨ev, hev⟩ : ∃ e, (ev0 false :: evx false (xs.take i.toNat)) = e := ⟨_, rfl⟩
        obtain ⟨sg1, hr1⟩ := runs_sbd false (xs.take i.toNat) false HI.out.2.2.2.1
        obtain ⟨sg2, hr2⟩ := runs_tbd false st HST.out.1 HST.out.2 (xs.take i.toNat) false HI.out.2.2.2.1
        have hrun1 := runs_first false _ hr1
        have hrun2 := runs_first false _ hr2
        rw [HS0.out, ← HI.out.2.2.2.2.1, hev] at hrun1
        rw [HS0.out, ← HI.out.2.2.2.2.2, hev] at hrun2
        have h2 : (xs.take i.toNat).length ≤ 12 := by rw [List.length_take]; have := HI.out; omega
        have h3 : (initR false).rest.size = 0 := rfl
        have h4 := HFZ.out
        have hsz1 : (initR false).rest.size + sb.size ≤ 100000 := by have h1 := sbd_size false (xs.take i.toNat) HI.out.2.2.2.1; rw [HI.out.2.2.2.2.1, ByteArray.size_append]; omega
        have hsz2 : (initR false).rest.size + tb.size ≤ 100000 := by have h1 := tbd_size false st (xs.take i.toNat) HI.out.2.2.2.1; rw [HI.out.2.2.2.2.2, ByteArray.size_append]; omega
        have hel : ev.length ≤ 1000 := by have := evx_len false (xs.take i.toNat); rw [← hev, List.length_cons]; omega
        have HR1 := Aside0.mk hrun1
        have HR2 := Aside0.mk hrun2
        have HZ1 := Aside0.mk hsz1
        have HZ2 := Aside0.mk hsz2
        have HEL := Aside0.mk hel
        clear hr1 hr2 hrun1 hrun2 h2 h3 h4 hsz1 hsz2 hel hev
        go_wp2_with (first | (go_at_call 15; (with_reducible refine (feed_c ga (initR false) sb ev _ w _ HW.out.2.1 HGa.out HW.out.1 HT.out rfl (inv_init false) HR1.out HZ1.out).mono ?_); rintro e_ w6 ⟨v6, rfl, hf⟩; obtain ⟨Aa, ca, rfl⟩ := Kd.R_slice hf.rr; have HF1 := Aside0.mk hf; have HBb := Aside0.mk (hf.keep.blk HW.out.2.2 HNE.out.symm (by simp)); have HLT := Aside0.mk (blk_lt HW.out.2.2); clear hf) | (go_at_call 15; (with_reducible refine (feed_c gb (initR false) tb ev _ w _ HBb.out HGb.out HF1.out.bel HT.out rfl (inv_init false) HR2.out HZ2.out).mono ?_); rintro e_ w7 ⟨v7, rfl, hf⟩; obtain ⟨Ab, cb, rfl⟩ := Kd.R_slice hf.rr; have HTW := Aside0.mk (show TwoR w w7 Aa Ab ca cb ev _ _ from ⟨Kd.R_keep (Kd.R_bound HF1.out.rr) hf.keep (fun k hk he => by subst he; have h1 := hk.1.2; have h2 := HLT.out; omega), hf.rr, hf.bel⟩); have HEa := Aside0.mk (hf.keep.blk HF1.out.rb HNE.out (by simp)); have HEb := Aside0.mk hf.rb; clear hf) | (go_at_call 17; (with_reducible refine (end_c ga _ _ HEa.out).mono ?_); rintro e_ w8 ⟨rfl, hd_⟩; have n0_ := Aside0.mk (HTW.out.drawn hd_); have n1_ := Aside0.mk (show w8.heap[gb]? = _ from (by obtain ⟨n_, rfl⟩ := hd_; exact HEb.out)); clear hd_ HTW HEb; have HTW := n0_; have HEb := n1_; clear n0_ n1_) | (go_at_call 17; (with_reducible refine (end_c gb _ _ HEb.out).mono ?_); rintro e_ w8 ⟨rfl, hd_⟩; have n0_ := Aside0.mk (HTW.out.drawn hd_); have n1_ := Aside0.mk (show w8.heap[gb]? = _ from (by obtain ⟨n_, rfl⟩ := hd_; exact HEb.out)); clear hd_ HTW HEb; have HTW := n0_; have HEb := n1_; clear n0_ n1_))
        go_loopw [18] (fun v18 wr2 => ∃ k : Int, v18 = .int .i64 k ∧ Aside0 (0 ≤ k ∧ k ≤ ev.length) ∧ Aside0 (TwoR w wr2 Aa Ab ca cb ev _ _)) (fun v18 _ => ((ev.length : Int) - intOf v18).toNat)
        case atStart => exact ⟨0, rfl, ⟨by omega⟩, HTW⟩
        case round =>
          clear HTW
          obtain ⟨k, rfl, HKK, HQ⟩ := hrel
          have k0 := HKK.out.1
          by_cases d1 : k < (ev.length : Int)
          rotate_left
          · have M1 : decide (k < (ev.length : Int)) = false := decide_eq_false d1
            clear d1 k0
            go_wp2_with (fail)
            go_ret
            exact ⟨rfl, HQ.out.bel⟩
          have M1 : decide (k < (ev.length : Int)) = true := decide_eq_true d1
          have hdr := HQ.out.drew
          obtain ⟨ad1, hA1, x0, x1⟩ := ev_at hdr.ra k k0 d1
          obtain ⟨ad2, hA2, y0, y1⟩ := ev_at hdr.rb k k0 d1
          generalize (ev.getD k.toNat z39).f0 = e0 at x0 y0
          generalize (ev.getD k.toNat z39).f1 = e1 at x1 y1
          subst hA1 hA2
          have r0 := eq_true k0
          have r1 := eq_true d1
          have hv1 : wrap64 (k + 1) = k + 1 := by have := HEL.out; unfold wrap64; omega
          have hv2 : IntKind.i64.wrap (k + 1) = k + 1 := (i64_w _).trans hv1
          have HKD := Aside0.mk (And.intro k0 d1)
          have HQD := Aside0.mk hdr
          clear d1 k0 hdr
          go_wp2_with (fail)
          refine wp_region_still_lit (by kernel_rfl) (by kernel_rfl) ?_
          change wpStill _ _ (World.drew _) (fun a' => _) _ _
          repeat (first | still_step)
          refine wpStill_nil ?_
          go_wp2_with (fail)
          go_roundw
          case rel => exact ⟨_, _, _, _, _, _, _, _, _, _, _, _, _, _, _, _, _, ⟨k + 1, rfl, ⟨by have := HKD.out; omega⟩, HQD⟩, rfl⟩
          case measure => have := HKD.out; simp [intOf]; omega
      have D2 : decide (i < 12) = true := decide_eq_true c2
      obtain ⟨ad, hA, rows⟩ := el_str HRow.out i hi0 c1
      subst hA
      have htk := take_one xs i.toNat (by omega)
      obtain ⟨x, hx⟩ : ∃ x, xs.getD i.toNat (⟨#[]⟩ : ByteArray) = x := ⟨_, rfl⟩
      rw [hx] at rows htk
      have r0 := eq_true hi0
      have r1 := eq_true c1
      have xr := rows _ HW.out.1
      have hv1 : wrap64 (i + 1) = i + 1 := by have := HI.out; unfold wrap64; omega
      have hv2 : IntKind.i64.wrap (i + 1) = i + 1 := (i64_w _).trans hv1
      by_cases c3 : x.size > 500
      · have Ea : decide ((x.size : Int) > 500) = true := decide_eq_true (by omega)
        have Eb : decide (500 < (x.size : Int)) = true := decide_eq_true (by omega)
        have Ec : decide (500 < x.size) = true := decide_eq_true (by omega)
        clear c1 c2 c3 hi0 htk hx
        go_wp2_with (fail)
        go_ret
        exact ⟨rfl, HW.out.1⟩
      have Ea : decide ((x.size : Int) > 500) = false := decide_eq_false (by omega)
      have Eb : decide (500 < (x.size : Int)) = false := decide_eq_false (by omega)
      have Ec : decide (500 < x.size) = false := decide_eq_false (by omega)
      obtain ⟨k3, hk3⟩ := (frame_ev 0 x (by omega)).rounds
      obtain ⟨k4, hk4⟩ := (frame_ev st x (by omega)).rounds
      obtain ⟨k5, hk5⟩ := (frame_ev st (⟨#[]⟩ : ByteArray) (by decide)).rounds
      have hs1 := sbd_app false (xs.take i.toNat) x
      have ht1 := tbd_app false st (xs.take i.toNat) x
      have hxz := fx_size false x (by omega)
      have hz4 := framev_size st x (by omega)
      have hz5 := framev_size st (⟨#[]⟩ : ByteArray) (by decide)
      have hz0 : (⟨#[]⟩ : ByteArray).size = 0 := rfl
      have hfx : fx false x = framev 0 x := rfl
      rw [hfx] at hs1 ht1 hxz
      generalize framev st x = g2 at *
      generalize framev st (⟨#[]⟩ : ByteArray) = g3 at *
      generalize framev 0 x = g1 at *
      have h2 : (xs.take i.toNat).length ≤ 12 := by rw [List.length_take]; have := HI.out; omega
      have h4 := HFZ.out
      have hsb : sb.size ≤ 50000 := by have h1 := sbd_size false (xs.take i.toNat) HI.out.2.2.2.1; rw [HI.out.2.2.2.2.1, ByteArray.size_append]; omega
      have htb : tb.size ≤ 50000 := by have h1 := tbd_size false st (xs.take i.toNat) HI.out.2.2.2.1; rw [HI.out.2.2.2.2.2, ByteArray.size_append]; omega
      have ra1 := eq_true (show sb.size + g1.size ≤ 9223372036854775807 by omega)
      have ra2 : decide (sb.size + g1.size ≤ 9223372036854775807) = true := decide_eq_true (by omega)
      have ra3 : (9223372036854775807 < sb.size + g1.size) = False := eq_false (by omega)
      have rb1 := eq_true (show tb.size + g2.size ≤ 9223372036854775807 by omega)
      have rb2 : decide (tb.size + g2.size ≤ 9223372036854775807) = true := decide_eq_true (by omega)
      have rb3 : (9223372036854775807 < tb.size + g2.size) = False := eq_false (by omega)
      have rc1 := eq_true (show tb.size + g2.size + g1.size ≤ 9223372036854775807 by omega)
      have rc2 : decide (tb.size + g2.size + g1.size ≤ 9223372036854775807) = true := decide_eq_true (by omega)
      have rc3 : (9223372036854775807 < tb.size + g2.size + g1.size) = False := eq_false (by omega)
      have rd1 := eq_true (show tb.size + g2.size + g1.size + g3.size ≤ 9223372036854775807 by omega)
      have rd2 : decide (tb.size + g2.size + g1.size + g3.size ≤ 9223372036854775807) = true := decide_eq_true (by omega)
      have rd3 : (9223372036854775807 < tb.size + g2.size + g1.size + g3.size) = False := eq_false (by omega)
      have Hk3 := Aside0.mk hk3
      have Hk4 := Aside0.mk hk4
      have Hk5 := Aside0.mk hk5
      have HROWS := Aside0.mk rows
      have HTK := Aside0.mk (And.intro htk (And.intro hs1 (And.intro ht1 (And.intro (show x.size ≤ 500 by omega) (And.intro c1 c2)))))
      clear c1 c2 c3 hi0 htk hx hs1 ht1 hk3 hk4 hk5 hxz hz4 hz5 hz0 hfx h2 h4 hsb htb rows
      go_wp2_with (first | (go_at_call 10; (with_reducible refine (h3_Frame.calls k3 0 x _ _ (Kd.C_below HT.out HW.out.1) Hk3.out).mono ?_); rintro e_ w_ ⟨rfl, hb⟩; have HW2 := Aside0.mk (show Below w.heap.size w w_ ∧ w_.heap[ga]? = _ ∧ w_.heap[gb]? = _ from ⟨below_step HW.out.1 hb, blk_below HW.out.2.1 hb, blk_below HW.out.2.2 hb⟩); have xr := HROWS.out _ HW2.out.1; clear hb) | (go_at_call 10; (with_reducible refine (h3_Frame.calls k4 st x _ _ (Kd.C_below HT.out HW2.out.1) Hk4.out).mono ?_); rintro e_ w_ ⟨rfl, hb⟩; have HW4 := Aside0.mk (show Below w.heap.size w w_ ∧ w_.heap[ga]? = _ ∧ w_.heap[gb]? = _ from ⟨below_step HW2.out.1 hb, blk_below HW2.out.2.1 hb, blk_below HW2.out.2.2 hb⟩); have xr := HROWS.out _ HW4.out.1; clear hb) | (go_at_call 10; (with_reducible refine (h3_Frame.calls k5 st (⟨#[]⟩ : ByteArray) _ _ (Kd.C_below HT.out HW4.out.1) Hk5.out).mono ?_); rintro e_ w_ ⟨rfl, hb⟩; have HW5 := Aside0.mk (show Below w.heap.size w w_ ∧ w_.heap[ga]? = _ ∧ w_.heap[gb]? = _ from ⟨below_step HW4.out.1 hb, blk_below HW4.out.2.1 hb, blk_below HW4.out.2.2 hb⟩); have xr := HROWS.out _ HW5.out.1; clear hb))
      go_roundw
      case rel => exact ⟨sb ++ g1, tb ++ g2 ++ g1 ++ g3, i + 1, rfl, rfl, rfl, ⟨by have := HTK.out; have := HI.out; omega, by have := HTK.out; omega, by have := HTK.out; omega, by have h0 := HI.out.1; rw [show (i + 1).toNat = i.toNat + 1 by omega, HTK.out.1]; intro y hy; rcases List.mem_append.1 hy with h | h; exact HI.out.2.2.2.1 y h; rw [List.mem_singleton] at h; rw [h]; exact HTK.out.2.2.2.1, by have h0 := HI.out.1; rw [show (i + 1).toNat = i.toNat + 1 by omega, HTK.out.1, HTK.out.2.1, HI.out.2.2.2.2.1, ByteArray.append_assoc], by have h0 := HI.out.1; rw [show (i + 1).toNat = i.toNat + 1 by omega, HTK.out.1, HTK.out.2.2.1, HI.out.2.2.2.2.2]; simp only [ByteArray.append_assoc]⟩, HW5⟩
      case measure => have := HTK.out; have := HI.out; simp [intOf]; omega
  · obtain ⟨k1, hk1⟩ := (frame_ev 1 (⟨#[104]⟩ : ByteArray) (by decide)).rounds
    have hz1 := framev_size 1 (⟨#[104]⟩ : ByteArray) (by decide)
    obtain ⟨k2, hk2⟩ := (frame_ev 4 (⟨#[6, 1]⟩ : ByteArray) (by decide)).rounds
    have hz2 := framev_size 4 (⟨#[6, 1]⟩ : ByteArray) (by decide)
    have hfz := fst0_size true
    have hff : fst0 true = (⟨#[0]⟩ : ByteArray) ++ framev 4 (⟨#[6, 1]⟩ : ByteArray) := rfl
    generalize framev 1 (⟨#[104]⟩ : ByteArray) = f1 at *
    generalize framev 4 (⟨#[6, 1]⟩ : ByteArray) = f2 at *
    have hz0 : (⟨#[0]⟩ : ByteArray).size = 1 := rfl
    have hz00 : (⟨#[6, 1]⟩ : ByteArray).size = 2 := rfl
    have rm1 := eq_true (show (⟨#[0]⟩ : ByteArray).size + f2.size ≤ 9223372036854775807 by omega)
    have rm2 : decide ((⟨#[0]⟩ : ByteArray).size + f2.size ≤ 9223372036854775807) = true := decide_eq_true (by omega)
    have rm3 : (9223372036854775807 < (⟨#[0]⟩ : ByteArray).size + f2.size) = False := eq_false (by omega)
    have rn1 := eq_true (show 1 + f2.size ≤ 9223372036854775807 by omega)
    have rn2 : decide (1 + f2.size ≤ 9223372036854775807) = true := decide_eq_true (by omega)
    have rn3 : (9223372036854775807 < 1 + f2.size) = False := eq_false (by omega)
    have Hk2 := Aside0.mk hk2
    clear hk2 hz2 hz0 hz00
    have Hk1 := Aside0.mk hk1
    have HFF := Aside0.mk hff
    have HFZ := Aside0.mk hfz
    clear hk1 hz1 hff hfz
    go_enter Tryd.func6, Tryd.ntmps6
    go_wp2_with (first | (go_at_call 13; (with_reducible refine (works_c w HT.out).mono ?_); rintro e_ w1 ⟨rfl, hb⟩; have HB := Aside0.mk hb; clear hb) | (go_at_call 14; (with_reducible refine (new_c true _).mono ?_); rintro e_ w2 ⟨ga, rfl, hg, hb, hB⟩; have HGa := Aside0.mk (Nat.le_trans HB.out.size hg); have HNa := Aside0.mk hb; have HB2 := Aside0.mk (below_step HB.out hB); clear hg hb hB) | (go_at_call 14; (with_reducible refine (new_c true _).mono ?_); rintro e_ w3 ⟨gb, rfl, hg, hb, hB⟩; have HNE := Aside0.mk (show ga ≠ gb from Nat.ne_of_lt (Nat.lt_of_lt_of_le (blk_lt HNa.out) hg)); have HGb := Aside0.mk (Nat.le_trans HB2.out.size hg); have HB3 := Aside0.mk (show Below w.heap.size w w3 ∧ w3.heap[ga]? = _ ∧ w3.heap[gb]? = _ from ⟨below_step HB2.out hB, blk_below HNa.out hB, hb⟩); clear hg hb hB HNa HB2) | (go_at_call 10; (with_reducible refine (h3_Frame.calls k1 1 (⟨#[104]⟩ : ByteArray) _ _ (Kd.C_below HT.out HB3.out.1) Hk1.out).mono ?_); rintro e_ w_ ⟨rfl, hb⟩; have n0_ := Aside0.mk (show Below w.heap.size w w_ ∧ w_.heap[ga]? = _ ∧ w_.heap[gb]? = _ from ⟨below_step HB3.out.1 hb, blk_below HB3.out.2.1 hb, blk_below HB3.out.2.2 hb⟩); clear hb; have HB4 := n0_; clear n0_) | (go_at_call 10; (with_reducible refine (h3_Frame.calls k2 4 (⟨#[6, 1]⟩ : ByteArray) _ _ (Kd.C_below HT.out HB4.out.1) Hk2.out).mono ?_); rintro e_ w_ ⟨rfl, hb⟩; have n0_ := Aside0.mk (show Below w.heap.size w w_ ∧ w_.heap[ga]? = _ ∧ w_.heap[gb]? = _ from ⟨below_step HB4.out.1 hb, blk_below HB4.out.2.1 hb, blk_below HB4.out.2.2 hb⟩); clear hb; have HB5 := n0_; clear n0_))
    clear rm1 rm2 rm3 rn1 rn2 rn3
    obtain ⟨s0, hs0⟩ : ∃ s, fst0 true = s := ⟨_, rfl⟩
    rw [hs0] at HFF HFZ
    rw [← HFF.out]
    have HS0 := Aside0.mk hs0
    clear hs0 HFF
    go_loopw [10, 11, 12] (fun v10 v11 v12 wr => ∃ (sb tb : ByteArray) (i : Int), v10 = .string sb ∧ v11 = .string tb ∧ v12 = .int .i64 i ∧ Aside0 (0 ≤ i ∧ i ≤ 12 ∧ i ≤ xs.length ∧ (∀ y ∈ xs.take i.toNat, y.size ≤ 500) ∧ sb = s0 ++ sbd true (xs.take i.toNat) ∧ tb = s0 ++ tbd true st (xs.take i.toNat)) ∧ Aside0 (Below w.heap.size w wr ∧ wr.heap[ga]? = some (.cells (rcells ga (initR true)) 60 (0, 0)) ∧ wr.heap[gb]? = some (.cells (rcells gb (initR true)) 60 (0, 0)))) (fun _ _ v12 _ => (12 - intOf v12).toNat)
    case atStart => exact ⟨s0, s0, 0, rfl, rfl, rfl, ⟨by omega, by omega, by omega, (by intro y hy; simp at hy), (app_nil s0).symm, (app_nil s0).symm⟩, HB5⟩
    case round =>
      clear HB5
      obtain ⟨sb, tb, i, rfl, rfl, rfl, HI, HW⟩ := hrel
      have hi0 := HI.out.1
      by_cases c1 : i < (xs.length : Int)
      rotate_left
      · have D1 : decide (i < (xs.length : Int)) = false := decide_eq_false c1
        clear c1 hi0
        go_wp2_with (fail)
        obtain ⟨ev, hev⟩ : ∃ e, (ev0 true :: evx true (xs.take i.toNat)) = e := ⟨_, rfl⟩
        obtain ⟨sg1, hr1⟩ := runs_sbd true (xs.take i.toNat) false HI.out.2.2.2.1
        obtain ⟨sg2, hr2⟩ := runs_tbd true st HST.out.1 HST.out.2 (xs.take i.toNat) false HI.out.2.2.2.1
        have hrun1 := runs_first true _ hr1
        have hrun2 := runs_first true _ hr2
        rw [HS0.out, ← HI.out.2.2.2.2.1, hev] at hrun1
        rw [HS0.out, ← HI.out.2.2.2.2.2, hev] at hrun2
        have h2 : (xs.take i.toNat).length ≤ 12 := by rw [List.length_take]; have := HI.out; omega
        have h3 : (initR true).rest.size = 0 := rfl
        have h4 := HFZ.out
        have hsz1 : (initR true).rest.size + sb.size ≤ 100000 := by have h1 := sbd_size true (xs.take i.toNat) HI.out.2.2.2.1; rw [HI.out.2.2.2.2.1, ByteArray.size_append]; omega
        have hsz2 : (initR true).rest.size + tb.size ≤ 100000 := by have h1 := tbd_size true st (xs.take i.toNat) HI.out.2.2.2.1; rw [HI.out.2.2.2.2.2, ByteArray.size_append]; omega
        have hel : ev.length ≤ 1000 := by have := evx_len true (xs.take i.toNat); rw [← hev, List.length_cons]; omega
        have HR1 := Aside0.mk hrun1
        have HR2 := Aside0.mk hrun2
        have HZ1 := Aside0.mk hsz1
        have HZ2 := Aside0.mk hsz2
        have HEL := Aside0.mk hel
        clear hr1 hr2 hrun1 hrun2 h2 h3 h4 hsz1 hsz2 hel hev
        go_wp2_with (first | (go_at_call 15; (with_reducible refine (feed_c ga (initR true) sb ev _ w _ HW.out.2.1 HGa.out HW.out.1 HT.out rfl (inv_init true) HR1.out HZ1.out).mono ?_); rintro e_ w6 ⟨v6, rfl, hf⟩; obtain ⟨Aa, ca, rfl⟩ := Kd.R_slice hf.rr; have HF1 := Aside0.mk hf; have HBb := Aside0.mk (hf.keep.blk HW.out.2.2 HNE.out.symm (by simp)); have HLT := Aside0.mk (blk_lt HW.out.2.2); clear hf) | (go_at_call 15; (with_reducible refine (feed_c gb (initR true) tb ev _ w _ HBb.out HGb.out HF1.out.bel HT.out rfl (inv_init true) HR2.out HZ2.out).mono ?_); rintro e_ w7 ⟨v7, rfl, hf⟩; obtain ⟨Ab, cb, rfl⟩ := Kd.R_slice hf.rr; have HTW := Aside0.mk (show TwoR w w7 Aa Ab ca cb ev _ _ from ⟨Kd.R_keep (Kd.R_bound HF1.out.rr) hf.keep (fun k hk he => by subst he; have h1 := hk.1.2; have h2 := HLT.out; omega), hf.rr, hf.bel⟩); have HEa := Aside0.mk (hf.keep.blk HF1.out.rb HNE.out (by simp)); have HEb := Aside0.mk hf.rb; clear hf) | (go_at_call 17; (with_reducible refine (end_c ga _ _ HEa.out).mono ?_); rintro e_ w8 ⟨rfl, hd_⟩; have n0_ := Aside0.mk (HTW.out.drawn hd_); have n1_ := Aside0.mk (show w8.heap[gb]? = _ from (by obtain ⟨n_, rfl⟩ := hd_; exact HEb.out)); clear hd_ HTW HEb; have HTW := n0_; have HEb := n1_; clear n0_ n1_) | (go_at_call 17; (with_reducible refine (end_c gb _ _ HEb.out).mono ?_); rintro e_ w8 ⟨rfl, hd_⟩; have n0_ := Aside0.mk (HTW.out.drawn hd_); have n1_ := Aside0.mk (show w8.heap[gb]? = _ from (by obtain ⟨n_, rfl⟩ := hd_; exact HEb.out)); clear hd_ HTW HEb; have HTW := n0_; have HEb := n1_; clear n0_ n1_))
        go_loopw [18] (fun v18 wr2 => ∃ k : Int, v18 = .int .i64 k ∧ Aside0 (0 ≤ k ∧ k ≤ ev.length) ∧ Aside0 (TwoR w wr2 Aa Ab ca cb ev _ _)) (fun v18 _ => ((ev.length : Int) - intOf v18).toNat)
        case atStart => exact ⟨0, rfl, ⟨by omega⟩, HTW⟩
        case round =>
          clear HTW
          obtain ⟨k, rfl, HKK, HQ⟩ := hrel
          have k0 := HKK.out.1
          by_cases d1 : k < (ev.length : Int)
          rotate_left
          · have M1 : decide (k < (ev.length : Int)) = false := decide_eq_false d1
            clear d1 k0
            go_wp2_with (fail)
            go_ret
            exact ⟨rfl, HQ.out.bel⟩
          have M1 : decide (k < (ev.length : Int)) = true := decide_eq_true d1
          have hdr := HQ.out.drew
          obtain ⟨ad1, hA1, x0, x1⟩ := ev_at hdr.ra k k0 d1
          obtain ⟨ad2, hA2, y0, y1⟩ := ev_at hdr.rb k k0 d1
          generalize (ev.getD k.toNat z39).f0 = e0 at x0 y0
          generalize (ev.getD k.toNat z39).f1 = e1 at x1 y1
          subst hA1 hA2
          have r0 := eq_true k0
          have r1 := eq_true d1
          have hv1 : wrap64 (k + 1) = k + 1 := by have := HEL.out; unfold wrap64; omega
          have hv2 : IntKind.i64.wrap (k + 1) = k + 1 := (i64_w _).trans hv1
          have HKD := Aside0.mk (And.intro k0 d1)
          have HQD := Aside0.mk hdr
          clear d1 k0 hdr
          go_wp2_with (fail)
          refine wp_region_still_lit (by kernel_rfl) (by kernel_rfl) ?_
          change wpStill _ _ (World.drew _) (fun a' => _) _ _
          repeat (first | still_step)
          refine wpStill_nil ?_
          go_wp2_with (fail)
          go_roundw
          case rel => exact ⟨_, _, _, _, _, _, _, _, _, _, _, _, _, _, _, _, _, ⟨k + 1, rfl, ⟨by have := HKD.out; omega⟩, HQD⟩, rfl⟩
          case measure => have := HKD.out; simp [intOf]; omega
      have D1 : decide (i < (xs.length : Int)) = true := decide_eq_true c1
      by_cases c2 : i < 12
      rotate_left
      · have D2 : decide (i < 12) = false := decide_eq_false c2
        clear c1 c2 hi0
        go_wp2_with (fail)
        obtain ⟨ev, hev⟩ : ∃ e, (ev0 true :: evx true (xs.take i.toNat)) = e := ⟨_, rfl⟩
        obtain ⟨sg1, hr1⟩ := runs_sbd true (xs.take i.toNat) false HI.out.2.2.2.1
        obtain ⟨sg2, hr2⟩ := runs_tbd true st HST.out.1 HST.out.2 (xs.take i.toNat) false HI.out.2.2.2.1
        have hrun1 := runs_first true _ hr1
        have hrun2 := runs_first true _ hr2
        rw [HS0.out, ← HI.out.2.2.2.2.1, hev] at hrun1
        rw [HS0.out, ← HI.out.2.2.2.2.2, hev] at hrun2
        have h2 : (xs.take i.toNat).length ≤ 12 := by rw [List.length_take]; have := HI.out; omega
        have h3 : (initR true).rest.size = 0 := rfl
        have h4 := HFZ.out
        have hsz1 : (initR true).rest.size + sb.size ≤ 100000 := by have h1 := sbd_size true (xs.take i.toNat) HI.out.2.2.2.1; rw [HI.out.2.2.2.2.1, ByteArray.size_append]; omega
        have hsz2 : (initR true).rest.size + tb.size ≤ 100000 := by have h1 := tbd_size true st (xs.take i.toNat) HI.out.2.2.2.1; rw [HI.out.2.2.2.2.2, ByteArray.size_append]; omega
        have hel : ev.length ≤ 1000 := by have := evx_len true (xs.take i.toNat); rw [← hev, List.length_cons]; omega
        have HR1 := Aside0.mk hrun1
        have HR2 := Aside0.mk hrun2
        have HZ1 := Aside0.mk hsz1
        have HZ2 := Aside0.mk hsz2
        have HEL := Aside0.mk hel
        clear hr1 hr2 hrun1 hrun2 h2 h3 h4 hsz1 hsz2 hel hev
        go_wp2_with (first | (go_at_call 15; (with_reducible refine (feed_c ga (initR true) sb ev _ w _ HW.out.2.1 HGa.out HW.out.1 HT.out rfl (inv_init true) HR1.out HZ1.out).mono ?_); rintro e_ w6 ⟨v6, rfl, hf⟩; obtain ⟨Aa, ca, rfl⟩ := Kd.R_slice hf.rr; have HF1 := Aside0.mk hf; have HBb := Aside0.mk (hf.keep.blk HW.out.2.2 HNE.out.symm (by simp)); have HLT := Aside0.mk (blk_lt HW.out.2.2); clear hf) | (go_at_call 15; (with_reducible refine (feed_c gb (initR true) tb ev _ w _ HBb.out HGb.out HF1.out.bel HT.out rfl (inv_init true) HR2.out HZ2.out).mono ?_); rintro e_ w7 ⟨v7, rfl, hf⟩; obtain ⟨Ab, cb, rfl⟩ := Kd.R_slice hf.rr; have HTW := Aside0.mk (show TwoR w w7 Aa Ab ca cb ev _ _ from ⟨Kd.R_keep (Kd.R_bound HF1.out.rr) hf.keep (fun k hk he => by subst he; have h1 := hk.1.2; have h2 := HLT.out; omega), hf.rr, hf.bel⟩); have HEa := Aside0.mk (hf.keep.blk HF1.out.rb HNE.out (by simp)); have HEb := Aside0.mk hf.rb; clear hf) | (go_at_call 17; (with_reducible refine (end_c ga _ _ HEa.out).mono ?_); rintro e_ w8 ⟨rfl, hd_⟩; have n0_ := Aside0.mk (HTW.out.drawn hd_); have n1_ := Aside0.mk (show w8.heap[gb]? = _ from (by obtain ⟨n_, rfl⟩ := hd_; exact HEb.out)); clear hd_ HTW HEb; have HTW := n0_; have HEb := n1_; clear n0_ n1_) | (go_at_call 17; (with_reducible refine (end_c gb _ _ HEb.out).mono ?_); rintro e_ w8 ⟨rfl, hd_⟩; have n0_ := Aside0.mk (HTW.out.drawn hd_); have n1_ := Aside0.mk (show w8.heap[gb]? = _ from (by obtain ⟨n_, rfl⟩ := hd_; exact HEb.out)); clear hd_ HTW HEb; have HTW := n0_; have HEb := n1_; clear n0_ n1_))
        go_loopw [18] (fun v18 wr2 => ∃ k : Int, v18 = .int .i64 k ∧ Aside0 (0 ≤ k ∧ k ≤ ev.length) ∧ Aside0 (TwoR w wr2 Aa Ab ca cb ev _ _)) (fun v18 _ => ((ev.length : Int) - intOf v18).toNat)
        case atStart => exact ⟨0, rfl, ⟨by omega⟩, HTW⟩
        case round =>
          clear HTW
          obtain ⟨k, rfl, HKK, HQ⟩ := hrel
          have k0 := HKK.out.1
          by_cases d1 : k < (ev.length : Int)
          rotate_left
          · have M1 : decide (k < (ev.length : Int)) = false := decide_eq_false d1
            clear d1 k0
            go_wp2_with (fail)
            go_ret
            exact ⟨rfl, HQ.out.bel⟩
          have M1 : decide (k < (ev.length : Int)) = true := decide_eq_true d1
          have hdr := HQ.out.drew
          obtain ⟨ad1, hA1, x0, x1⟩ := ev_at hdr.ra k k0 d1
          obtain ⟨ad2, hA2, y0, y1⟩ := ev_at hdr.rb k k0 d1
          generalize (ev.getD k.toNat z39).f0 = e0 at x0 y0
          generalize (ev.getD k.toNat z39).f1 = e1 at x1 y1
          subst hA1 hA2
          have r0 := eq_true k0
          have r1 := eq_true d1
          have hv1 : wrap64 (k + 1) = k + 1 := by have := HEL.out; unfold wrap64; omega
          have hv2 : IntKind.i64.wrap (k + 1) = k + 1 := (i64_w _).trans hv1
          have HKD := Aside0.mk (And.intro k0 d1)
          have HQD := Aside0.mk hdr
          clear d1 k0 hdr
          go_wp2_with (fail)
          refine wp_region_still_lit (by kernel_rfl) (by kernel_rfl) ?_
          change wpStill _ _ (World.drew _) (fun a' => _) _ _
          repeat (first | still_step)
          refine wpStill_nil ?_
          go_wp2_with (fail)
          go_roundw
          case rel => exact ⟨_, _, _, _, _, _, _, _, _, _, _, _, _, _, _, _, _, ⟨k + 1, rfl, ⟨by have := HKD.out; omega⟩, HQD⟩, rfl⟩
          case measure => have := HKD.out; simp [intOf]; omega
      have D2 : decide (i < 12) = true := decide_eq_true c2
      obtain ⟨ad, hA, rows⟩ := el_str HRow.out i hi0 c1
      subst hA
      have htk := take_one xs i.toNat (by omega)
      obtain ⟨x, hx⟩ : ∃ x, xs.getD i.toNat (⟨#[]⟩ : ByteArray) = x := ⟨_, rfl⟩
      rw [hx] at rows htk
      have r0 := eq_true hi0
      have r1 := eq_true c1
      have xr := rows _ HW.out.1
      have hv1 : wrap64 (i + 1) = i + 1 := by have := HI.out; unfold wrap64; omega
      have hv2 : IntKind.i64.wrap (i + 1) = i + 1 := (i64_w _).trans hv1
      by_cases c3 : x.size > 500
      · have Ea : decide ((x.size : Int) > 500) = true := decide_eq_true (by omega)
        have Eb : decide (500 < (x.size : Int)) = true := decide_eq_true (by omega)
        have Ec : decide (500 < x.size) = true := decide_eq_true (by omega)
        clear c1 c2 c3 hi0 htk hx
        go_wp2_with (fail)
        go_ret
        exact ⟨rfl, HW.out.1⟩
      have Ea : decide ((x.size : Int) > 500) = false := decide_eq_false (by omega)
      have Eb : decide (500 < (x.size : Int)) = false := decide_eq_false (by omega)
      have Ec : decide (500 < x.size) = false := decide_eq_false (by omega)
      obtain ⟨k3, hk3⟩ := (frame_ev 0 x (by omega)).rounds
      obtain ⟨k4, hk4⟩ := (frame_ev st x (by omega)).rounds
      obtain ⟨k5, hk5⟩ := (frame_ev st (⟨#[]⟩ : ByteArray) (by decide)).rounds
      obtain ⟨k6, hk6⟩ := (frame_ev 7 (⟨#[0]⟩ : ByteArray) (by decide)).rounds
      have hs1 := sbd_app true (xs.take i.toNat) x
      have ht1 := tbd_app true st (xs.take i.toNat) x
      have hxz := fx_size true x (by omega)
      have hz4 := framev_size st x (by omega)
      have hz5 := framev_size st (⟨#[]⟩ : ByteArray) (by decide)
      have hz0 : (⟨#[]⟩ : ByteArray).size = 0 := rfl
      have hfx : fx true x = framev 7 (⟨#[0]⟩ : ByteArray) := rfl
      rw [hfx] at hs1 ht1 hxz
      generalize framev st x = g2 at *
      generalize framev st (⟨#[]⟩ : ByteArray) = g3 at *
      generalize framev 7 (⟨#[0]⟩ : ByteArray) = g1 at *
      have h2 : (xs.take i.toNat).length ≤ 12 := by rw [List.length_take]; have := HI.out; omega
      have h4 := HFZ.out
      have hsb : sb.size ≤ 50000 := by have h1 := sbd_size true (xs.take i.toNat) HI.out.2.2.2.1; rw [HI.out.2.2.2.2.1, ByteArray.size_append]; omega
      have htb : tb.size ≤ 50000 := by have h1 := tbd_size true st (xs.take i.toNat) HI.out.2.2.2.1; rw [HI.out.2.2.2.2.2, ByteArray.size_append]; omega
      have ra1 := eq_true (show sb.size + g1.size ≤ 9223372036854775807 by omega)
      have ra2 : decide (sb.size + g1.size ≤ 9223372036854775807) = true := decide_eq_true (by omega)
      have ra3 : (9223372036854775807 < sb.size + g1.size) = False := eq_false (by omega)
      have rb1 := eq_true (show tb.size + g2.size ≤ 9223372036854775807 by omega)
      have rb2 : decide (tb.size + g2.size ≤ 9223372036854775807) = true := decide_eq_true (by omega)
      have rb3 : (9223372036854775807 < tb.size + g2.size) = False := eq_false (by omega)
      have rc1 := eq_true (show tb.size + g2.size + g1.size ≤ 9223372036854775807 by omega)
      have rc2 : decide (tb.size + g2.size + g1.size ≤ 9223372036854775807) = true := decide_eq_true (by omega)
      have rc3 : (9223372036854775807 < tb.size + g2.size + g1.size) = False := eq_false (by omega)
      have rd1 := eq_true (show tb.size + g2.size + g1.size + g3.size ≤ 9223372036854775807 by omega)
      have rd2 : decide (tb.size + g2.size + g1.size + g3.size ≤ 9223372036854775807) = true := decide_eq_true (by omega)
      have rd3 : (9223372036854775807 < tb.size + g2.size + g1.size + g3.size) = False := eq_false (by omega)
      have Hk3 := Aside0.mk hk3
      have Hk4 := Aside0.mk hk4
      have Hk5 := Aside0.mk hk5
      have Hk6 := Aside0.mk hk6
      have HROWS := Aside0.mk rows
      have HTK := Aside0.mk (And.intro htk (And.intro hs1 (And.intro ht1 (And.intro (show x.size ≤ 500 by omega) (And.intro c1 c2)))))
      clear c1 c2 c3 hi0 htk hx hs1 ht1 hk3 hk4 hk5 hk6 hxz hz4 hz5 hz0 hfx h2 h4 hsb htb rows
      go_wp2_with (first | (go_at_call 10; (with_reducible refine (h3_Frame.calls k3 0 x _ _ (Kd.C_below HT.out HW.out.1) Hk3.out).mono ?_); rintro e_ w_ ⟨rfl, hb⟩; have HW2 := Aside0.mk (show Below w.heap.size w w_ ∧ w_.heap[ga]? = _ ∧ w_.heap[gb]? = _ from ⟨below_step HW.out.1 hb, blk_below HW.out.2.1 hb, blk_below HW.out.2.2 hb⟩); have xr := HROWS.out _ HW2.out.1; clear hb) | (go_at_call 10; (with_reducible refine (h3_Frame.calls k6 7 (⟨#[0]⟩ : ByteArray) _ _ (Kd.C_below HT.out HW2.out.1) Hk6.out).mono ?_); rintro e_ w_ ⟨rfl, hb⟩; have HW3 := Aside0.mk (show Below w.heap.size w w_ ∧ w_.heap[ga]? = _ ∧ w_.heap[gb]? = _ from ⟨below_step HW2.out.1 hb, blk_below HW2.out.2.1 hb, blk_below HW2.out.2.2 hb⟩); have xr := HROWS.out _ HW3.out.1; clear hb) | (go_at_call 10; (with_reducible refine (h3_Frame.calls k4 st x _ _ (Kd.C_below HT.out HW3.out.1) Hk4.out).mono ?_); rintro e_ w_ ⟨rfl, hb⟩; have HW4 := Aside0.mk (show Below w.heap.size w w_ ∧ w_.heap[ga]? = _ ∧ w_.heap[gb]? = _ from ⟨below_step HW3.out.1 hb, blk_below HW3.out.2.1 hb, blk_below HW3.out.2.2 hb⟩); have xr := HROWS.out _ HW4.out.1; clear hb) | (go_at_call 10; (with_reducible refine (h3_Frame.calls k5 st (⟨#[]⟩ : ByteArray) _ _ (Kd.C_below HT.out HW4.out.1) Hk5.out).mono ?_); rintro e_ w_ ⟨rfl, hb⟩; have HW5 := Aside0.mk (show Below w.heap.size w w_ ∧ w_.heap[ga]? = _ ∧ w_.heap[gb]? = _ from ⟨below_step HW4.out.1 hb, blk_below HW4.out.2.1 hb, blk_below HW4.out.2.2 hb⟩); have xr := HROWS.out _ HW5.out.1; clear hb))
      go_roundw
      case rel => exact ⟨sb ++ g1, tb ++ g2 ++ g1 ++ g3, i + 1, rfl, rfl, rfl, ⟨by have := HTK.out; have := HI.out; omega, by have := HTK.out; omega, by have := HTK.out; omega, by have h0 := HI.out.1; rw [show (i + 1).toNat = i.toNat + 1 by omega, HTK.out.1]; intro y hy; rcases List.mem_append.1 hy with h | h; exact HI.out.2.2.2.1 y h; rw [List.mem_singleton] at h; rw [h]; exact HTK.out.2.2.2.1, by have h0 := HI.out.1; rw [show (i + 1).toNat = i.toNat + 1 by omega, HTK.out.1, HTK.out.2.1, HI.out.2.2.2.2.1, ByteArray.append_assoc], by have h0 := HI.out.1; rw [show (i + 1).toNat = i.toNat + 1 by omega, HTK.out.1, HTK.out.2.2.1, HI.out.2.2.2.2.2]; simp only [ByteArray.append_assoc]⟩, HW5⟩
      case measure => have := HTK.out; have := HI.out; simp [intOf]; omega
end Go.Proofs.YtnnmdocdiedgiaaDoor.Walk
