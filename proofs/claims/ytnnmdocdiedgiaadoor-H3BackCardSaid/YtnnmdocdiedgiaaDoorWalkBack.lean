/- H3Back: the walk. -/
import Derived.Test.YtnnmdocdiedgiaaDoorBackPure
namespace Go.Proofs.YtnnmdocdiedgiaaDoor.Walk
open Go.RowKit Go.Proofs.YtnnmdocdiedgiaaDoorW.PrintWords Go.Proofs.YtnnmdocdiedgiaaDoorW.PrintLast Go.Proofs.YtnnmdocdiedgiaaDoorW.PrintMore Go.Proofs.YtnnmdocdiedgiaaDoor.PH3Writes Go.Proofs.YtnnmdocdiedgiaaDoor Go.Proofs.YtnnmdocdiedgiaaDoor.Pure Go.Proofs.YtnnmdocdiedgiaaDoor.Pairs Go.Proofs.YtnnmdocdiedgiaaDoor.Reader
set_option linter.unusedVariables false
set_option linter.unusedSimpArgs false
theorem add0 (a : Addr) : a.add 0 = a := by
  cases a
  simp [Addr.add]
theorem ev_step (ev : List S39) (k : Nat) (h0 : 1 ≤ k) (h1 : k < ev.length) : catEv ((ev.drop 1).take k) = catEv ((ev.drop 1).take (k - 1)) ++ (ev.getD k z39).f1 := by
  obtain ⟨j, rfl⟩ : ∃ j, k = j + 1 := ⟨k - 1, by omega⟩
  rw [show j + 1 - 1 = j by omega, List.take_add_one, catEv_app, List.getElem?_drop, List.getD_eq_getElem?_getD, Nat.add_comm 1 j, List.getElem?_eq_getElem h1]
  congr 1
  exact app_nil _
theorem catEv_take (l : List S39) (n : Nat) : (catEv (l.take n)).size ≤ (catEv l).size := by
  have h := catEv_app (l.take n) (l.drop n)
  rw [List.take_append_drop] at h
  rw [h, ByteArray.size_append]
  omega
/-- An element of a row of strings. -/
theorem el_str {w : World} {A : Option Addr} {xs : List ByteArray} (h : Kd.string.C w A xs.length xs) (i : Int) (h0 : 0 ≤ i) (h1 : i < xs.length) : ∃ ad, A = some ad ∧ ∀ W, Below w.heap.size w W → W.cell? (ad.add i.toNat) = some (.string (xs.getD i.toNat (⟨#[]⟩ : ByteArray))) := by
  obtain ⟨ad, c, e, _, hK, hc0⟩ := Kd.C_get h (⟨#[]⟩ : ByteArray) i h0 h1
  refine ⟨ad, e, fun W hb => ?_⟩
  obtain ⟨ad2, c2, e2, _, hK2, hc2⟩ := Kd.C_get (Kd.C_below h hb) (⟨#[]⟩ : ByteArray) i h0 h1
  obtain rfl : ad = ad2 := Option.some.inj (e.symm.trans e2)
  have hc := hc2 0 (.string (xs.getD i.toNat (⟨#[]⟩ : ByteArray))) (by rw [show c2 = [.string (xs.getD i.toNat (⟨#[]⟩ : ByteArray))] from hK2]; rfl)
  have hsz : Kd.string.sz = 1 := rfl
  simpa [hsz] using hc
set_option maxHeartbeats 16000000 in
set_option maxRecDepth 100000 in
theorem h3Back_walk (hd : ByteArray) (A : Option Addr) (cap : Nat) (xs : List ByteArray) (strange : Int) (w : World) (hr : Kd.string.C w A xs.length xs) (hc : xs.length ≤ cap) (hT : Kd.C (Kd.int .i64) w (some ⟨0, 0, none⟩) 4 ([1, 2, 4, 8] : List Int)) (G0 : hd.size ≤ 140737488351232) (G1 : xs.length * 16 ≤ 140737488351232 ∧ ∀ y ∈ xs, y.size ≤ 140737488351232) (G2 : (Lit.int .i64 strange).wf = true) :
    Calls Tryd.prog 5 #[.string hd, .slice A xs.length cap, .int .i64 strange] w fun e w' => e = .returned (.bool true) ∧ Below w.heap.size w w' := by
  have HT := Aside0.mk hT
  have HRow := Aside0.mk hr
  have HG1 := Aside0.mk G1
  clear hT hr hc G0 G1 G2
  by_cases h1 : hd.size > 4096
  · have Ca : decide ((hd.size : Int) > 4096) = true := decide_eq_true (by omega)
    have Cb : decide (4096 < (hd.size : Int)) = true := decide_eq_true (by omega)
    have Cc : decide (4096 < hd.size) = true := decide_eq_true (by omega)
    clear h1
    go_enter Tryd.func5, Tryd.ntmps5
    go_wp2_with (first | (go_at_call 13; (with_reducible refine (works_c w HT.out).mono ?_); rintro e_ w1 ⟨rfl, hb⟩; have HB := Aside0.mk hb; clear hb))
    go_ret
    exact ⟨rfl, HB.out⟩
  have Ca : decide ((hd.size : Int) > 4096) = false := decide_eq_false (by omega)
  have Cb : decide (4096 < (hd.size : Int)) = false := decide_eq_false (by omega)
  have Cc : decide (4096 < hd.size) = false := decide_eq_false (by omega)
  obtain ⟨st, hst, hs0, hs1⟩ : ∃ st, wrap64 (33 + wrap64 ((IntKind.u64.wrap strange).tmod 1000)) = st ∧ 33 ≤ st ∧ st ≤ 4611686018427387903 := by
    have hu := u64_range strange
    refine ⟨_, rfl, ?_, ?_⟩ <;> rw [Int.tmod_eq_emod_of_nonneg hu.1, wrap_in (IntKind.u64.wrap strange % 1000) (by omega) (by omega), wrap_in _ (by omega) (by omega)] <;> omega
  have hst2 : IntKind.i64.wrap (33 + IntKind.i64.wrap ((IntKind.u64.wrap strange).tmod 1000)) = st := by rw [i64_w, i64_w]; exact hst
  have HST := Aside0.mk (And.intro hs0 hs1)
  have hz1 := framev_size st (⟨#[63]⟩ : ByteArray) (by decide)
  have hz2 := framev_size 1 hd (by omega)
  have hz0 : (⟨#[63]⟩ : ByteArray).size = 1 := rfl
  obtain ⟨k1, hk1⟩ := (frame_ev st (⟨#[63]⟩ : ByteArray) (by decide)).rounds
  obtain ⟨k2, hk2⟩ := (frame_ev 1 hd (by omega)).rounds
  obtain ⟨f1, hf1⟩ : ∃ f, framev st (⟨#[63]⟩ : ByteArray) = f := ⟨_, rfl⟩
  obtain ⟨f2, hf2⟩ : ∃ f, framev 1 hd = f := ⟨_, rfl⟩
  rw [hf1] at hk1 hz1
  rw [hf2] at hk2 hz2
  have rm1 := eq_true (show f1.size + f2.size ≤ 9223372036854775807 by omega)
  have rm2 : decide (f1.size + f2.size ≤ 9223372036854775807) = true := decide_eq_true (by omega)
  have rm3 : (9223372036854775807 < f1.size + f2.size) = False := eq_false (by omega)
  have Hk1 := Aside0.mk hk1
  have Hk2 := Aside0.mk hk2
  have HF := Aside0.mk (And.intro hf1 (And.intro hf2 (show (f1 ++ f2).size ≤ 5000 by rw [ByteArray.size_append]; omega)))
  have HH := Aside0.mk (show hd.size ≤ 4096 by omega)
  clear h1 hk1 hk2 hz1 hz2 hz0 hf1 hf2 hs0 hs1
  go_enter Tryd.func5, Tryd.ntmps5
  go_wp2_with (first | (go_at_call 13; (with_reducible refine (works_c w HT.out).mono ?_); rintro e_ w1 ⟨rfl, hb⟩; have HB := Aside0.mk hb; clear hb) | (go_at_call 10; (with_reducible refine (h3_Frame.calls k1 st (⟨#[63]⟩ : ByteArray) _ _ (Kd.C_below HT.out HB.out) Hk1.out).mono ?_); rintro e_ w_ ⟨rfl, hb⟩; have n0_ := Aside0.mk (below_step HB.out hb); clear hb; have HB2 := n0_; clear n0_) | (go_at_call 10; (with_reducible refine (h3_Frame.calls k2 1 hd _ _ (Kd.C_below HT.out HB2.out) Hk2.out).mono ?_); rintro e_ w_ ⟨rfl, hb⟩; have n0_ := Aside0.mk (below_step HB2.out hb); clear hb; have HB3 := n0_; clear n0_))
  clear rm1 rm2 rm3
  obtain ⟨s0, hs0⟩ : ∃ s, f1 ++ f2 = s := ⟨_, rfl⟩
  rw [hs0] at HF ⊢
  have HS0 := Aside0.mk hs0
  clear hs0
  go_loopw [7, 8, 9] (fun v7 v8 v9 wr => ∃ (sb wa : ByteArray) (i : Int), v7 = .string sb ∧ v8 = .string wa ∧ v9 = .int .i64 i ∧ Aside0 (0 ≤ i ∧ i ≤ 20 ∧ i ≤ xs.length ∧ (∀ y ∈ xs.take i.toNat, y.size ≤ 1000) ∧ sb = s0 ++ body st (xs.take i.toNat) ∧ wa = cat (xs.take i.toNat)) ∧ Aside0 (Below w.heap.size w wr)) (fun _ _ v9 _ => (20 - intOf v9).toNat)
  case atStart => exact ⟨s0, (⟨#[]⟩ : ByteArray), 0, rfl, rfl, rfl, ⟨by omega, by omega, by omega, (by intro y hy; simp at hy), (app_nil s0).symm, rfl⟩, HB3⟩
  case round =>
    clear HB3
    obtain ⟨sb, wa, i, rfl, rfl, rfl, HI, HW⟩ := hrel
    have hi0 := HI.out.1
    by_cases c1 : i < (xs.length : Int)
    rotate_left
    · have D1 : decide (i < (xs.length : Int)) = false := decide_eq_false c1
      clear c1 hi0
      go_wp2_with (fail)
      obtain ⟨ev, hev⟩ : ∃ e, ((⟨1, hd⟩ : S39) :: dataEv (xs.take i.toNat)) = e := ⟨_, rfl⟩
      have hrun := runs_back st HST.out.1 HST.out.2 hd HH.out (xs.take i.toNat) HI.out.2.2.2.1
      rw [HF.out.1, HF.out.2.1, HS0.out, ← HI.out.2.2.2.2.1, hev] at hrun
      have hsz : (initR false).rest.size + sb.size ≤ 100000 := by
        have h1 := body_size st (xs.take i.toNat) HI.out.2.2.2.1
        have h2 : (xs.take i.toNat).length ≤ 20 := by rw [List.length_take]; have := HI.out; omega
        have h3 : (initR false).rest.size = 0 := rfl
        have h4 := HF.out.2.2
        rw [HI.out.2.2.2.2.1, ByteArray.size_append]
        omega
      have hel : 1 ≤ ev.length := by rw [← hev]; simp
      have he0 : ev.getD 0 z39 = ⟨1, hd⟩ := by rw [← hev]; rfl
      have hek : ∀ k : Nat, 1 ≤ k → k < ev.length → (ev.getD k z39).f0 = 0 := by
        intro k h1 h2
        refine dataEv_kind (xs.take i.toNat) _ ?_
        rw [List.getD_eq_getElem?_getD, List.getElem?_eq_getElem h2]
        subst hev
        obtain ⟨k, rfl⟩ : ∃ j, k = j + 1 := ⟨k - 1, by omega⟩
        exact List.getElem_mem _
      have hcat : catEv (ev.drop 1) = wa := by rw [← hev, HI.out.2.2.2.2.2]; exact catEv_data _
      have hlen : ev.length ≤ 100000 := by have := (runs_inv hrun (inv_init false)).2; have h0 : (initR false).rest.size = 0 := rfl; simp only [ByteArray.size_append] at this; omega
      have HWA := Aside0.mk (show wa.size ≤ 20000 by have h1 := cat_size (xs.take i.toNat) HI.out.2.2.2.1; have h2 : (xs.take i.toNat).length ≤ 20 := (by rw [List.length_take]; have := HI.out; omega); rw [HI.out.2.2.2.2.2]; omega)
      have HRUN := Aside0.mk hrun
      have HSZ := Aside0.mk hsz
      have HEL := Aside0.mk (And.intro hel hlen)
      have HE0 := Aside0.mk he0
      have HEK := Aside0.mk hek
      have HCAT := Aside0.mk hcat
      clear hrun hsz hel hlen he0 hek hcat hev
      have L1 : decide ((ev.length : Int) < 1) = false := decide_eq_false (by have := HEL.out; omega)
      have L2 : decide (ev.length < 1) = false := decide_eq_false (by have := HEL.out; omega)
      have L3 := eq_true (show (0 : Int) < (ev.length : Int) by have := HEL.out; omega)
      have L4 := eq_true (show 0 < ev.length by have := HEL.out; omega)
      have L5 : (ev.length == 0) = false := beq_eq_false_iff_ne.mpr (by have := HEL.out; omega)
      have L6 : decide (ev.length = 0) = false := decide_eq_false (by have := HEL.out; omega)
      go_wp2_with (first | (go_at_call 14; (with_reducible refine (new_c false _).mono ?_); rintro e_ w2 ⟨g, rfl, hg, hb, hB⟩; have HG := Aside0.mk (Nat.le_trans HW.out.size hg); have HN := Aside0.mk hb; have HB2 := Aside0.mk (below_step HW.out hB); clear hg hb hB) | (go_at_call 15; (with_reducible refine (feed_c g (initR false) sb ev _ w _ HN.out HG.out HB2.out HT.out rfl (inv_init false) HRUN.out HSZ.out).mono ?_); rintro e_ w3 ⟨v3, rfl, hf⟩; obtain ⟨A3, c3, rfl⟩ := Kd.R_slice hf.rr; have HE := Aside0.mk hf; clear hf) | (go_at_call 17; (with_reducible refine (end_c g _ _ HE.out.rb).mono ?_); rintro e_ w4 ⟨rfl, hd_⟩; have HR4 := Aside0.mk (show Kd.R k39 39 w4 w.heap.size _ _ _ from (by obtain ⟨n_, rfl⟩ := hd_; exact Kd.R_drewN HE.out.rr n_)); have HB4 := Aside0.mk (show Below w.heap.size w w4 from (by obtain ⟨n_, rfl⟩ := hd_; exact pw_below_drewN HE.out.bel n_)); obtain ⟨ad0, hA3, x0, x1⟩ := ev_at HR4.out 0 (by decide) (by have := HEL.out; omega); rw [show ev.getD (0 : Int).toNat z39 = ⟨1, hd⟩ from HE0.out] at x0 x1; subst hA3; dsimp only at x0 x1; simp only [Int.toNat_zero, Nat.zero_mul] at x0 x1; have z0 : w4.cell? ad0 = some (.int .i64 1) := (by rw [add0] at x0; exact x0); have z1 : w4.cell? ⟨ad0.block, ad0.off + 1, none⟩ = some (.string hd) := (by rw [add0] at x1; exact x1); clear x0 x1 hd_))
      clear z0 z1 L1 L2 L3 L4 L5 L6
      go_loopw [13, 14] (fun v13 v14 wr2 => ∃ (gt : ByteArray) (k : Int), v13 = .string gt ∧ v14 = .int .i64 k ∧ Aside0 (1 ≤ k ∧ k ≤ ev.length ∧ gt = catEv ((ev.drop 1).take (k.toNat - 1)) ∧ gt.size ≤ 200000000) ∧ Aside0 (wr2 = w4)) (fun _ v14 _ => ((ev.length : Int) - intOf v14).toNat)
      case atStart => exact ⟨(⟨#[]⟩ : ByteArray), 1, rfl, rfl, ⟨by omega, by have := HEL.out; omega, rfl, by decide⟩, ⟨rfl⟩⟩
      case round =>
        obtain ⟨gt, k, rfl, rfl, HK, HW4⟩ := hrel
        obtain rfl := HW4.out
        have hk0 := HK.out.1
        by_cases d1 : k < (ev.length : Int)
        rotate_left
        · have M1 : decide (k < (ev.length : Int)) = false := decide_eq_false d1
          have hgw : gt = wa := by
            rw [← HCAT.out, HK.out.2.2.1, List.take_of_length_le (by rw [List.length_drop]; have := HK.out; omega)]
          subst hgw
          clear d1 hk0
          go_wp2_with (fail)
          go_ret
          exact ⟨rfl, HB4.out⟩
        have M1 : decide (k < (ev.length : Int)) = true := decide_eq_true d1
        obtain ⟨ad1, hA1, y0, y1⟩ := ev_at HR4.out k (by omega) d1
        rw [HEK.out k.toNat (by omega) (by omega)] at y0
        obtain ⟨x, hx⟩ : ∃ x, (ev.getD k.toNat z39).f1 = x := ⟨_, rfl⟩
        rw [hx] at y1
        obtain rfl : ad0 = ad1 := Option.some.inj hA1
        have hst2 := ev_step ev k.toNat (by omega) (by omega)
        rw [hx, ← HK.out.2.2.1] at hst2
        have hxs : gt.size + x.size ≤ 200000000 := by
          have h1 := catEv_take (ev.drop 1) k.toNat
          rw [hst2, HCAT.out, ByteArray.size_append] at h1
          have h2 := HWA.out
          omega
        have HS2 := Aside0.mk hst2
        clear hst2
        have rn1 := eq_true (show gt.size + x.size ≤ 9223372036854775807 by omega)
        have rn2 : decide (gt.size + x.size ≤ 9223372036854775807) = true := decide_eq_true (by omega)
        have rn3 : (9223372036854775807 < gt.size + x.size) = False := eq_false (by omega)
        have r0 := eq_true (show (0 : Int) ≤ k by omega)
        have r1 := eq_true d1
        have hv1 : wrap64 (k + 1) = k + 1 := by have := HEL.out; unfold wrap64; omega
        have hv2 : IntKind.i64.wrap (k + 1) = k + 1 := (i64_w _).trans hv1
        have HX := Aside0.mk hx
        have HXS := Aside0.mk hxs
        have HKD := Aside0.mk (And.intro hk0 d1)
        clear d1 hk0 hx hxs
        go_wp2_with (fail)
        go_roundw
        case rel => exact ⟨gt ++ x, k + 1, rfl, rfl, ⟨by have := HKD.out; omega, by have := HKD.out; omega, by rw [show (k + 1).toNat - 1 = k.toNat by have := HKD.out; omega]; exact HS2.out.symm, by have := HXS.out; rw [ByteArray.size_append]; omega⟩, ⟨by first | rfl | trivial⟩⟩
        case measure => have := HKD.out; simp [intOf]; omega
    have D1 : decide (i < (xs.length : Int)) = true := decide_eq_true c1
    by_cases c2 : i < 20
    rotate_left
    · have D2 : decide (i < 20) = false := decide_eq_false c2
      clear c1 c2 hi0
      go_wp2_with (fail)
      obtain ⟨ev, hev⟩ : ∃ e, ((⟨1, hd⟩ : S39) :: dataEv (xs.take i.toNat)) = e := ⟨_, rfl⟩
      have hrun := runs_back st HST.out.1 HST.out.2 hd HH.out (xs.take i.toNat) HI.out.2.2.2.1
      rw [HF.out.1, HF.out.2.1, HS0.out, ← HI.out.2.2.2.2.1, hev] at hrun
      have hsz : (initR false).rest.size + sb.size ≤ 100000 := by
        have h1 := body_size st (xs.take i.toNat) HI.out.2.2.2.1
        have h2 : (xs.take i.toNat).length ≤ 20 := by rw [List.length_take]; have := HI.out; omega
        have h3 : (initR false).rest.size = 0 := rfl
        have h4 := HF.out.2.2
        rw [HI.out.2.2.2.2.1, ByteArray.size_append]
        omega
      have hel : 1 ≤ ev.length := by rw [← hev]; simp
      have he0 : ev.getD 0 z39 = ⟨1, hd⟩ := by rw [← hev]; rfl
      have hek : ∀ k : Nat, 1 ≤ k → k < ev.length → (ev.getD k z39).f0 = 0 := by
        intro k h1 h2
        refine dataEv_kind (xs.take i.toNat) _ ?_
        rw [List.getD_eq_getElem?_getD, List.getElem?_eq_getElem h2]
        subst hev
        obtain ⟨k, rfl⟩ : ∃ j, k = j + 1 := ⟨k - 1, by omega⟩
        exact List.getElem_mem _
      have hcat : catEv (ev.drop 1) = wa := by rw [← hev, HI.out.2.2.2.2.2]; exact catEv_data _
      have hlen : ev.length ≤ 100000 := by have := (runs_inv hrun (inv_init false)).2; have h0 : (initR false).rest.size = 0 := rfl; simp only [ByteArray.size_append] at this; omega
      have HWA := Aside0.mk (show wa.size ≤ 20000 by have h1 := cat_size (xs.take i.toNat) HI.out.2.2.2.1; have h2 : (xs.take i.toNat).length ≤ 20 := (by rw [List.length_take]; have := HI.out; omega); rw [HI.out.2.2.2.2.2]; omega)
      have HRUN := Aside0.mk hrun
      have HSZ := Aside0.mk hsz
      have HEL := Aside0.mk (And.intro hel hlen)
      have HE0 := Aside0.mk he0
      have HEK := Aside0.mk hek
      have HCAT := Aside0.mk hcat
      clear hrun hsz hel hlen he0 hek hcat hev
      have L1 : decide ((ev.length : Int) < 1) = false := decide_eq_false (by have := HEL.out; omega)
      have L2 : decide (ev.length < 1) = false := decide_eq_false (by have := HEL.out; omega)
      have L3 := eq_true (show (0 : Int) < (ev.length : Int) by have := HEL.out; omega)
      have L4 := eq_true (show 0 < ev.length by have := HEL.out; omega)
      have L5 : (ev.length == 0) = false := beq_eq_false_iff_ne.mpr (by have := HEL.out; omega)
      have L6 : decide (ev.length = 0) = false := decide_eq_false (by have := HEL.out; omega)
      go_wp2_with (first | (go_at_call 14; (with_reducible refine (new_c false _).mono ?_); rintro e_ w2 ⟨g, rfl, hg, hb, hB⟩; have HG := Aside0.mk (Nat.le_trans HW.out.size hg); have HN := Aside0.mk hb; have HB2 := Aside0.mk (below_step HW.out hB); clear hg hb hB) | (go_at_call 15; (with_reducible refine (feed_c g (initR false) sb ev _ w _ HN.out HG.out HB2.out HT.out rfl (inv_init false) HRUN.out HSZ.out).mono ?_); rintro e_ w3 ⟨v3, rfl, hf⟩; obtain ⟨A3, c3, rfl⟩ := Kd.R_slice hf.rr; have HE := Aside0.mk hf; clear hf) | (go_at_call 17; (with_reducible refine (end_c g _ _ HE.out.rb).mono ?_); rintro e_ w4 ⟨rfl, hd_⟩; have HR4 := Aside0.mk (show Kd.R k39 39 w4 w.heap.size _ _ _ from (by obtain ⟨n_, rfl⟩ := hd_; exact Kd.R_drewN HE.out.rr n_)); have HB4 := Aside0.mk (show Below w.heap.size w w4 from (by obtain ⟨n_, rfl⟩ := hd_; exact pw_below_drewN HE.out.bel n_)); obtain ⟨ad0, hA3, x0, x1⟩ := ev_at HR4.out 0 (by decide) (by have := HEL.out; omega); rw [show ev.getD (0 : Int).toNat z39 = ⟨1, hd⟩ from HE0.out] at x0 x1; subst hA3; dsimp only at x0 x1; simp only [Int.toNat_zero, Nat.zero_mul] at x0 x1; have z0 : w4.cell? ad0 = some (.int .i64 1) := (by rw [add0] at x0; exact x0); have z1 : w4.cell? ⟨ad0.block, ad0.off + 1, none⟩ = some (.string hd) := (by rw [add0] at x1; exact x1); clear x0 x1 hd_))
      clear z0 z1 L1 L2 L3 L4 L5 L6
      go_loopw [13, 14] (fun v13 v14 wr2 => ∃ (gt : ByteArray) (k : Int), v13 = .string gt ∧ v14 = .int .i64 k ∧ Aside0 (1 ≤ k ∧ k ≤ ev.length ∧ gt = catEv ((ev.drop 1).take (k.toNat - 1)) ∧ gt.size ≤ 200000000) ∧ Aside0 (wr2 = w4)) (fun _ v14 _ => ((ev.length : Int) - intOf v14).toNat)
      case atStart => exact ⟨(⟨#[]⟩ : ByteArray), 1, rfl, rfl, ⟨by omega, by have := HEL.out; omega, rfl, by decide⟩, ⟨rfl⟩⟩
      case round =>
        obtain ⟨gt, k, rfl, rfl, HK, HW4⟩ := hrel
        obtain rfl := HW4.out
        have hk0 := HK.out.1
        by_cases d1 : k < (ev.length : Int)
        rotate_left
        · have M1 : decide (k < (ev.length : Int)) = false := decide_eq_false d1
          have hgw : gt = wa := by
            rw [← HCAT.out, HK.out.2.2.1, List.take_of_length_le (by rw [List.length_drop]; have := HK.out; omega)]
          subst hgw
          clear d1 hk0
          go_wp2_with (fail)
          go_ret
          exact ⟨rfl, HB4.out⟩
        have M1 : decide (k < (ev.length : Int)) = true := decide_eq_true d1
        obtain ⟨ad1, hA1, y0, y1⟩ := ev_at HR4.out k (by omega) d1
        rw [HEK.out k.toNat (by omega) (by omega)] at y0
        obtain ⟨x, hx⟩ : ∃ x, (ev.getD k.toNat z39).f1 = x := ⟨_, rfl⟩
        rw [hx] at y1
        obtain rfl : ad0 = ad1 := Option.some.inj hA1
        have hst2 := ev_step ev k.toNat (by omega) (by omega)
        rw [hx, ← HK.out.2.2.1] at hst2
        have hxs : gt.size + x.size ≤ 200000000 := by
          have h1 := catEv_take (ev.drop 1) k.toNat
          rw [hst2, HCAT.out, ByteArray.size_append] at h1
          have h2 := HWA.out
          omega
        have HS2 := Aside0.mk hst2
        clear hst2
        have rn1 := eq_true (show gt.size + x.size ≤ 9223372036854775807 by omega)
        have rn2 : decide (gt.size + x.size ≤ 9223372036854775807) = true := decide_eq_true (by omega)
        have rn3 : (9223372036854775807 < gt.size + x.size) = False := eq_false (by omega)
        have r0 := eq_true (show (0 : Int) ≤ k by omega)
        have r1 := eq_true d1
        have hv1 : wrap64 (k + 1) = k + 1 := by have := HEL.out; unfold wrap64; omega
        have hv2 : IntKind.i64.wrap (k + 1) = k + 1 := (i64_w _).trans hv1
        have HX := Aside0.mk hx
        have HXS := Aside0.mk hxs
        have HKD := Aside0.mk (And.intro hk0 d1)
        clear d1 hk0 hx hxs
        go_wp2_with (fail)
        go_roundw
        case rel => exact ⟨gt ++ x, k + 1, rfl, rfl, ⟨by have := HKD.out; omega, by have := HKD.out; omega, by rw [show (k + 1).toNat - 1 = k.toNat by have := HKD.out; omega]; exact HS2.out.symm, by have := HXS.out; rw [ByteArray.size_append]; omega⟩, ⟨by first | rfl | trivial⟩⟩
        case measure => have := HKD.out; simp [intOf]; omega
    have D2 : decide (i < 20) = true := decide_eq_true c2
    obtain ⟨ad, hA, rows⟩ := el_str HRow.out i hi0 c1
    subst hA
    have htk := take_one xs i.toNat (by omega)
    obtain ⟨x, hx⟩ : ∃ x, xs.getD i.toNat (⟨#[]⟩ : ByteArray) = x := ⟨_, rfl⟩
    rw [hx] at rows htk
    have r0 := eq_true hi0
    have r1 := eq_true c1
    have xr := rows _ HW.out
    have hv1 : wrap64 (i + 1) = i + 1 := by have := HI.out; unfold wrap64; omega
    have hv2 : IntKind.i64.wrap (i + 1) = i + 1 := (i64_w _).trans hv1
    by_cases c3 : x.size > 1000
    · have Ea : decide ((x.size : Int) > 1000) = true := decide_eq_true (by omega)
      have Eb : decide (1000 < (x.size : Int)) = true := decide_eq_true (by omega)
      have Ec : decide (1000 < x.size) = true := decide_eq_true (by omega)
      clear c1 c2 c3 hi0 htk hx
      go_wp2_with (fail)
      go_ret
      exact ⟨rfl, HW.out⟩
    have Ea : decide ((x.size : Int) > 1000) = false := decide_eq_false (by omega)
    have Eb : decide (1000 < (x.size : Int)) = false := decide_eq_false (by omega)
    have Ec : decide (1000 < x.size) = false := decide_eq_false (by omega)
    obtain ⟨k3, hk3⟩ := (frame_ev 0 x (by omega)).rounds
    obtain ⟨k4, hk4⟩ := (frame_ev st x (by omega)).rounds
    have hz1 := framev_size 0 x (by omega)
    have hz2 := framev_size st x (by omega)
    have hb1 := body_one st x
    generalize framev 0 x = g1 at hk3 hz1 hb1
    generalize framev st x = g2 at hk4 hz2 hb1
    have hsb : sb.size ≤ 60000 := by
      have h1 := body_size st (xs.take i.toNat) HI.out.2.2.2.1
      have h2 : (xs.take i.toNat).length ≤ 20 := by rw [List.length_take]; have := HI.out; omega
      have h4 := HF.out.2.2
      rw [HI.out.2.2.2.2.1, ByteArray.size_append]
      omega
    have hwa : wa.size ≤ 20000 := by have h1 := cat_size (xs.take i.toNat) HI.out.2.2.2.1; have h2 : (xs.take i.toNat).length ≤ 20 := (by rw [List.length_take]; have := HI.out; omega); rw [HI.out.2.2.2.2.2]; omega
    have ra1 := eq_true (show sb.size + g1.size ≤ 9223372036854775807 by omega)
    have ra2 : decide (sb.size + g1.size ≤ 9223372036854775807) = true := decide_eq_true (by omega)
    have ra3 : (9223372036854775807 < sb.size + g1.size) = False := eq_false (by omega)
    have rb1 := eq_true (show (sb ++ g1).size + g2.size ≤ 9223372036854775807 by (rw [ByteArray.size_append]; omega))
    have rb2 : decide ((sb ++ g1).size + g2.size ≤ 9223372036854775807) = true := decide_eq_true (by (rw [ByteArray.size_append]; omega))
    have rb3 : (9223372036854775807 < (sb ++ g1).size + g2.size) = False := eq_false (by (rw [ByteArray.size_append]; omega))
    have rc1 := eq_true (show wa.size + x.size ≤ 9223372036854775807 by omega)
    have rc2 : decide (wa.size + x.size ≤ 9223372036854775807) = true := decide_eq_true (by omega)
    have rc3 : (9223372036854775807 < wa.size + x.size) = False := eq_false (by omega)
    have rb4 := eq_true (show sb.size + g1.size + g2.size ≤ 9223372036854775807 by omega)
    have rb5 : decide (sb.size + g1.size + g2.size ≤ 9223372036854775807) = true := decide_eq_true (by omega)
    have rb6 : (9223372036854775807 < sb.size + g1.size + g2.size) = False := eq_false (by omega)
    have Hk3 := Aside0.mk hk3
    have Hk4 := Aside0.mk hk4
    have HROWS := Aside0.mk rows
    have HTK := Aside0.mk (And.intro htk (And.intro hb1 (And.intro (show x.size ≤ 1000 by omega) (And.intro c1 c2))))
    clear c1 c2 c3 hi0 htk hx hb1 hk3 hk4 hz1 hz2 hsb hwa rows
    go_wp2_with (fail)
    refine Calm.wp_region_phC [(4, fun w_ => w_.cell? (ad.add i.toNat) = some (.string x)), (11, fun w_ => w_.cell? (ad.add i.toNat) = some (.string x))] [([0, 1, 2, 3, 4, 7, 8, 9, 10, 11], [5]), ([6], [12]), ([13, 14], [])] (by kernel_rfl) (by kernel_rfl) ?_
    refine Calm.ph_next ?_ ?_
    · repeat (first | exact Calm.okI_nil | (refine Calm.okI_cons (Or.inl (by decide)) ?_) | (refine Calm.okI_cons (Or.inr (by exact HROWS.out _ (below_drew1 HW.out))) ?_))
    repeat (first
      | (refine Calm.g_value (v := ?_) (a' := ?_) rfl rfl (by rfl) ?_ ?_ ?_; rotate_left; (· rintro w' hS'; (try simp only [Calm.SC_cons, Calm.SC_nil, Nat.reduceEqDiff, forall_const, false_implies, and_true, true_and] at hS'); (try obtain ⟨hS1, hS2⟩ := hS'); go_simp; with_reducible rfl); rotate_left; (· simp only [Act.put, List.setIfInBounds_toArray, List.set_cons_zero, List.set_cons_succ, i64_w, i32_w]; rfl)))
    refine Calm.g_nil ?_
    refine Calm.c_call rfl rfl Tryd.func10 (by kernel_rfl) rfl #[.int .i64 0, .string x] (by rfl) rfl (by (try simp only [List.map_toArray, List.map_cons, List.map_nil]); rfl) ?_
    (with_reducible refine (h3_Frame.calls k3 0 x _ _ (Kd.C_below HT.out (below_drew1 HW.out)) Hk3.out).mono ?_)
    rintro e_ w3 ⟨rfl, hb⟩; have Hw3 := Aside0.mk (below_step ((below_drew1 HW.out)) hb); clear hb
    refine ⟨_, rfl, ?_, ?_⟩
    · repeat (first | exact Calm.okC_nil | (refine Calm.okC_cons (Or.inl (by decide +kernel)) ?_) | (refine Calm.okC_cons (Or.inr (by exact HROWS.out _ Hw3.out)) ?_))
    refine Calm.put_to (a' := ?_) ?_ ?_
    rotate_left
    · simp only [Act.put, List.setIfInBounds_toArray, List.set_cons_zero, List.set_cons_succ, i64_w, i32_w]; rfl
    refine Calm.h_nil ?_
    refine Calm.ph_next ?_ ?_
    · repeat (first | exact Calm.okI_nil | (refine Calm.okI_cons (Or.inl (by decide)) ?_) | (refine Calm.okI_cons (Or.inr (by exact HROWS.out _ Hw3.out)) ?_))
    repeat (first
      | (refine Calm.g_value (v := ?_) (a' := ?_) rfl rfl (by rfl) ?_ ?_ ?_; rotate_left; (· rintro w' hS'; (try simp only [Calm.SC_cons, Calm.SC_nil, Nat.reduceEqDiff, forall_const, false_implies, and_true, true_and] at hS'); (try obtain ⟨hS1, hS2⟩ := hS'); go_simp; with_reducible rfl); rotate_left; (· simp only [Act.put, List.setIfInBounds_toArray, List.set_cons_zero, List.set_cons_succ, i64_w, i32_w]; rfl)))
    refine Calm.g_nil ?_
    refine Calm.c_call rfl rfl Tryd.func10 (by kernel_rfl) rfl #[.int .i64 st, .string x] (by rfl) rfl (by (try simp only [List.map_toArray, List.map_cons, List.map_nil]); rfl) ?_
    (with_reducible refine (h3_Frame.calls k4 st x _ _ (Kd.C_below HT.out Hw3.out) Hk4.out).mono ?_)
    rintro e_ w4 ⟨rfl, hb⟩; have Hw4 := Aside0.mk (below_step (Hw3.out) hb); clear hb
    refine ⟨_, rfl, ?_, ?_⟩
    · repeat (first | exact Calm.okC_nil | (refine Calm.okC_cons (Or.inl (by decide +kernel)) ?_) | (refine Calm.okC_cons (Or.inr (by exact HROWS.out _ Hw4.out)) ?_))
    refine Calm.put_to (a' := ?_) ?_ ?_
    rotate_left
    · simp only [Act.put, List.setIfInBounds_toArray, List.set_cons_zero, List.set_cons_succ, i64_w, i32_w]; rfl
    refine Calm.h_nil ?_
    refine Calm.ph_next ?_ ?_
    · repeat (first | exact Calm.okI_nil | (refine Calm.okI_cons (Or.inl (by decide)) ?_) | (refine Calm.okI_cons (Or.inr (by exact HROWS.out _ Hw4.out)) ?_))
    repeat (first
      | (refine Calm.g_value (v := ?_) (a' := ?_) rfl rfl (by rfl) ?_ ?_ ?_; rotate_left; (· rintro w' hS'; (try simp only [Calm.SC_cons, Calm.SC_nil, Nat.reduceEqDiff, forall_const, false_implies, and_true, true_and] at hS'); (try obtain ⟨hS1, hS2⟩ := hS'); go_simp; with_reducible rfl); rotate_left; (· simp only [Act.put, List.setIfInBounds_toArray, List.set_cons_zero, List.set_cons_succ, i64_w, i32_w]; rfl)))
    refine Calm.g_nil ?_
    refine Calm.h_nil ?_
    refine Calm.ph_end ?_
    simp only [Exit.inBlock, Exit.then]
    have xr2 := HROWS.out _ Hw4.out
    go_wp2_with (fail)
    go_roundw
    case rel => exact ⟨sb ++ g1 ++ g2, wa ++ x, i + 1, rfl, rfl, rfl, ⟨by have := HTK.out; have := HI.out; omega, by have := HTK.out; omega, by have := HTK.out; omega, by have h0 := HI.out.1; rw [show (i + 1).toNat = i.toNat + 1 by omega, HTK.out.1]; intro y hy; rcases List.mem_append.1 hy with h | h; exact HI.out.2.2.2.1 y h; rw [List.mem_singleton] at h; rw [h]; exact HTK.out.2.2.1, by have h0 := HI.out.1; rw [show (i + 1).toNat = i.toNat + 1 by omega, HTK.out.1, body_app, HTK.out.2.1, HI.out.2.2.2.2.1, ByteArray.append_assoc, ByteArray.append_assoc], by have h0 := HI.out.1; rw [show (i + 1).toNat = i.toNat + 1 by omega, HTK.out.1, cat_app, cat_one, HI.out.2.2.2.2.2]⟩, Hw4⟩
    case measure => have := HTK.out; have := HI.out; simp [intOf]; omega
end Go.Proofs.YtnnmdocdiedgiaaDoor.Walk
