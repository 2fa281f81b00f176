/- CapsuleCuts: the walk. -/
import Derived.Test.YtiokdkhhffngiaaDoorFeedCapsuleCuts
namespace Go.Proofs.YtiokdkhhffngiaaDoor.Walk
open Go.RowKit Go.Proofs.YtiokdkhhffngiaaDoorW.PrintWords Go.Proofs.YtiokdkhhffngiaaDoorW.PrintLast Go.Proofs.YtiokdkhhffngiaaDoorW.PrintMore Go.Proofs.YtiokdkhhffngiaaDoor.PCapsuleCuts Go.Proofs.YtiokdkhhffngiaaDoor Go.Proofs.YtiokdkhhffngiaaDoor.Pure
set_option linter.unusedVariables false
set_option linter.unusedSimpArgs false
attribute [local go_sem] max2_int min2_int max_two min_two
/-- An element of a row of numbers. -/
theorem el {w : World} {A : Option Addr} {xs : List Int} (h : (Kd.int .i64).C w A xs.length xs) (hg : ∀ y ∈ xs, (Lit.int .i64 y).wf = true) (i : Int) (h0 : 0 ≤ i) (h1 : i < xs.length) : ∃ ad, ∃ x : Int, A = some ad ∧ (-9223372036854775808 ≤ x ∧ x ≤ 9223372036854775807) ∧ ∀ W, Below w.heap.size w W → W.cell? (ad.add i.toNat) = some (.int .i64 x) := by
  obtain ⟨ad, e, hc0⟩ := (Kd.reads_of_C (d := (0 : Int)) h).at_ i h0 h1
  have hx : rdOf 0 xs i ∈ xs := by
    unfold rdOf
    have hi : i.toNat < xs.length := by omega
    rw [List.getD_eq_getElem?_getD, List.getElem?_eq_getElem hi]
    exact List.getElem_mem hi
  have hw : IntKind.i64.min ≤ rdOf 0 xs i ∧ rdOf 0 xs i ≤ IntKind.i64.max := by simpa [Lit.wf] using hg _ hx
  refine ⟨ad, rdOf 0 xs i, e, hw, fun W hb => ?_⟩
  obtain ⟨ad2, e2, hc⟩ := (Kd.reads_of_C (d := (0 : Int)) (Kd.C_below h hb)).at_ i h0 h1
  obtain rfl : ad = ad2 := Option.some.inj (e.symm.trans e2)
  exact hc
/-- Two readers, the list of the one, that of the other. -/
structure CS (w wr : World) (N0 g1 g2 : Nat) (va vb : Value) (a bl : List S32) (t tm : ByteArray) (b bm : Bool) : Prop where
  ra : Kd.R k32 32 wr w.heap.size (fun k => k ≠ g1 ∧ k ≠ g2 ∧ k < N0) va a
  rb : Kd.R k32 32 wr w.heap.size (fun k => k ≠ g1 ∧ k ≠ g2 ∧ N0 ≤ k) vb bl
  b1 : wr.heap[g1]? = some (.cells #[.string t, .bool b] 73 (0, 0))
  b2 : wr.heap[g2]? = some (.cells #[.string tm, .bool bm] 73 (0, 0))
  bel : Below w.heap.size w wr
  n0 : N0 ≤ wr.heap.size
theorem CS.fed {w wr w' : World} {N0 g1 g2 : Nat} {va vb v : Value} {a bl l : List S32} {t tm t2 : ByteArray} {b bm b2 : Bool} (h : CS w wr N0 g1 g2 va vb a bl t tm b bm) (hf : Feed.Lp w wr w' g2 v l t2 b2) (hne : g1 ≠ g2) : CS w w' N0 g1 g2 va vb a bl t t2 b b2 :=
  ⟨Kd.R_keep h.ra hf.keep (fun _ hk => hk.2.1), Kd.R_keep h.rb hf.keep (fun _ hk => hk.2.1), hf.keep.blk h.b1 hne (by simp), hf.blk, hf.bel, Nat.le_trans h.n0 hf.keep.1⟩
theorem CS.app {w wr w' : World} {N0 g1 g2 : Nat} {va vb v2 : Value} {a bl bl2 : List S32} {t tm : ByteArray} {b bm : Bool} (h : CS w wr N0 g1 g2 va vb a bl t tm b bm)
    (hR : Kd.R k32 32 w' w.heap.size (fun k => k ≠ g1 ∧ k ≠ g2 ∧ N0 ≤ k) v2 bl2) (hB : Below w.heap.size w w') (hg : wr.grownBy w' vb.ownBlock) : CS w w' N0 g1 g2 va v2 a bl2 t tm b bm := by
  refine ⟨Kd.R_grown h.ra hg (fun k hk he => ?_), hR, (hg.block g1 (blk_lt h.b1) (fun he => ?_)).trans h.b1, (hg.block g2 (blk_lt h.b2) (fun he => ?_)).trans h.b2, hB, Nat.le_trans h.n0 hg.size⟩
  · have := (h.rb.1 k he.symm).2.2
    have := hk.2.2
    omega
  · exact (h.rb.1 g1 he.symm).1 rfl
  · exact (h.rb.1 g2 he.symm).2.1 rfl
theorem CS.drew {w wr : World} {N0 g1 g2 : Nat} {va vb : Value} {a bl : List S32} {t tm : ByteArray} {b bm : Bool} (h : CS w wr N0 g1 g2 va vb a bl t tm b bm) : CS w wr.drew N0 g1 g2 va vb a bl t tm b bm :=
  ⟨Kd.R_drew h.ra, Kd.R_drew h.rb, h.b1, h.b2, below_drew1 h.bel, h.n0⟩
theorem CS.end1 {w wr w' : World} {N0 g1 g2 : Nat} {va vb : Value} {a bl : List S32} {t tm : ByteArray} {b bm : Bool} (h : CS w wr N0 g1 g2 va vb a bl t tm b bm) (hI : w'.heap[g1]? = some (.cells #[.string t, .bool b] 73 (0, 0))) (hB : Below w.heap.size w w') (hk : KeepBut wr w' g1 none) (hne : g1 ≠ g2) : CS w w' N0 g1 g2 va vb a bl t tm b bm :=
  ⟨Kd.R_keep h.ra hk (fun _ hk => hk.1), Kd.R_keep h.rb hk (fun _ hk => hk.1), hI, hk.blk h.b2 hne.symm (by simp), hB, Nat.le_trans h.n0 hk.1⟩
theorem CS.end2 {w wr w' : World} {N0 g1 g2 : Nat} {va vb : Value} {a bl : List S32} {t tm : ByteArray} {b bm : Bool} (h : CS w wr N0 g1 g2 va vb a bl t tm b bm) (hI : w'.heap[g2]? = some (.cells #[.string tm, .bool bm] 73 (0, 0))) (hB : Below w.heap.size w w') (hk : KeepBut wr w' g2 none) (hne : g1 ≠ g2) : CS w w' N0 g1 g2 va vb a bl t tm b bm :=
  ⟨Kd.R_keep h.ra hk (fun _ hk => hk.2.1), Kd.R_keep h.rb hk (fun _ hk => hk.2.1), hk.blk h.b1 hne (by simp), hI, hB, Nat.le_trans h.n0 hk.1⟩
theorem isS {w0 W : World} {g : Nat} {t : ByteArray} {b : Bool} (h : W.heap[g]? = some (.cells #[.string t, .bool b] 73 (0, 0))) (hg : w0.heap.size ≤ g) : IsS73 w0 W g t b := ⟨h, hg⟩
theorem end_f (t : ByteArray) (b : Bool) : ∃ r, capsule_Reader_End.f t b = some (r, t, b) ∧ (b = true → r = false) := by
  unfold capsule_Reader_End.f
  cases b
  · exact ⟨_, rfl, fun h => by cases h⟩
  · exact ⟨_, rfl, fun _ => rfl⟩
theorem ext00 (s : ByteArray) : s.extract 0 0 = (⟨#[]⟩ : ByteArray) := by
  apply ByteArray.ext
  simp
/-- An element of a row of capsules. -/
theorem cap_at {W : World} {base n c : Nat} {A : Option Addr} {ok : Nat → Prop} {xs : List S32} (h : Kd.R k32 32 W base ok (.slice A n c) xs) (i : Int) (h0 : 0 ≤ i) (h1 : i < xs.length) : ∃ ad, A = some ad ∧ W.cell? (ad.add (i.toNat * 2)) = some (.int .i64 (xs.getD i.toNat z32).f0) ∧ W.cell? ⟨(ad.add (i.toNat * 2)).block, (ad.add (i.toNat * 2)).off + 1, none⟩ = some (.string (xs.getD i.toNat z32).f1) := by
  obtain ⟨_, _, hC⟩ := Kd.R_reads' h
  obtain ⟨ad, c2, e2, _, hK2, hc2⟩ := Kd.C_get hC z32 i h0 h1
  have hc : ∀ j u, c2[j]? = some u → W.cell? (ad.add (i.toNat * 2 + j)) = some u := hc2
  obtain rfl := k32_open hK2
  exact ⟨ad, e2, hc 0 _ rfl, by rw [← add_field _ _ 1 (by omega)]; exact hc 1 _ rfl⟩
set_option maxHeartbeats 16000000 in
set_option maxRecDepth 100000 in
theorem capsuleCuts_walk (s : ByteArray) (A : Option Addr) (cap : Nat) (xs : List Int) (w : World) (hr : (Kd.int .i64).C w A xs.length xs) (hc : xs.length ≤ cap) (hT : Kd.C (Kd.int .i64) w (some ⟨0, 0, none⟩) 4 ([1, 2, 4, 8] : List Int)) (G0 : s.size ≤ 140737488351232) (G1 : xs.length * 8 ≤ 140737488351232 ∧ ∀ y ∈ xs, (Lit.int .i64 y).wf = true) :
    Calls Tryd.prog 3 #[.string s, .slice A xs.length cap] w fun e w' => e = .returned (.bool true) ∧ Below w.heap.size w w' := by
  obtain ⟨kg, hgr⟩ := (gram_ev 4 0 (⟨#[120]⟩ : ByteArray) (by decide)).rounds
  rw [show gramv 4 0 (⟨#[120]⟩ : ByteArray) = ((⟨#[1, 0, 120]⟩ : ByteArray), 0) by decide +kernel] at hgr
  have HT := Aside0.mk hT
  have HGR := Aside0.mk hgr
  have HR := Aside0.mk hr
  have HG := Aside0.mk G1
  have HB := Aside0.mk (Below.refl w.heap.size w)
  clear hT hgr hr hc G0 G1
  by_cases c0 : (s.size : Int) > 3000
  · have C0 : decide ((s.size : Int) > 3000) = true := decide_eq_true c0
    have C0' : decide (3000 < (s.size : Int)) = true := decide_eq_true c0
    have C1 : decide (3000 < s.size) = true := decide_eq_true (by omega)
    clear c0
    go_enter Tryd.func3, Tryd.ntmps3
    go_wp2_with (first | (go_at_call 7; (with_reducible refine (Feed.works_c _ (Kd.C_below HT.out HB.out) kg HGR.out).mono ?_); rintro e w1 ⟨rfl, hb⟩; have n0_ := Aside0.mk (below_step HB.out hb); clear HB hb; have HB := n0_; clear n0_))
    go_ret
    exact ⟨rfl, HB.out⟩
  have C0 : decide ((s.size : Int) > 3000) = false := decide_eq_false c0
  have C0' : decide (3000 < (s.size : Int)) = false := decide_eq_false c0
  have C1 : decide (3000 < s.size) = false := decide_eq_false (by omega)
  have HSZ := Aside0.mk (show s.size ≤ 3000 by omega)
  clear c0
  obtain ⟨a, t, b, hda⟩ := drains_all ((⟨#[]⟩ : ByteArray) ++ s).size _ (Nat.le_refl _)
  have HDA := Aside0.mk hda
  clear hda
  go_enter Tryd.func3, Tryd.ntmps3
  go_wp2_with (first | (go_at_call 7; (with_reducible refine (Feed.works_c _ (Kd.C_below HT.out HB.out) kg HGR.out).mono ?_); rintro e w1 ⟨rfl, hb⟩; have n0_ := Aside0.mk (below_step HB.out hb); clear HB hb; have HB := n0_; clear n0_) | (go_at_call 8; (with_reducible refine (capsule_New.calls (⟨#[]⟩ : ByteArray) false w _ HB.out rfl).mono ?_); rintro e w2 ⟨g1, rfl, hI, hB1, -⟩; obtain ⟨hib, hig⟩ := hI; have HI1 := Aside0.mk hib; have HG1 := Aside0.mk hig; have HB2 := Aside0.mk hB1; clear hib hig hB1 HB) | (go_at_call 8; (with_reducible refine (capsule_New.calls (⟨#[]⟩ : ByteArray) false _ _ (Below.refl _ _) rfl).mono ?_); rintro e w3 ⟨g2, rfl, hI, hB1, hB3⟩; obtain ⟨hib, hig⟩ := hI; have HNE := Aside0.mk (show g1 ≠ g2 from Nat.ne_of_lt (Nat.lt_of_lt_of_le (blk_lt HI1.out) hig)); have HI2 := Aside0.mk hib; have HG2 := Aside0.mk (Nat.le_trans HB2.out.size hig); have HI1b := Aside0.mk (blk_below HI1.out hB3); have HB3 := Aside0.mk (below_step HB2.out hB3); clear hib hig hB1 hB3 HB2 HI1))
  go_at_call 9
  (with_reducible refine (Feed.feed_c g1 (⟨#[]⟩ : ByteArray) s a t b w _ HI1b.out HG1.out HB3.out HT.out HDA.out (by have := HSZ.out; have h3 : (⟨#[]⟩ : ByteArray).size = 0 := rfl; omega)).mono ?_)
  rintro e w4 ⟨va, rfl, hl⟩
  obtain ⟨Aa, ca, rfl⟩ := Kd.R_slice hl.r
  have HL := Aside0.mk hl
  clear hl
  go_wp2_with (fail)
  have hcs : CS w w4 w4.heap.size g1 g2 (.slice Aa a.length ca) (.slice none 0 0) a [] t (⟨#[]⟩ : ByteArray) b false := ⟨Kd.R_mono (Kd.R_bound HL.out.r) (fun k hk => ⟨hk.1.1, by have := blk_lt HI2.out; have := hk.1.2; omega, hk.2.2.1⟩), Kd.R_nil _ _ _ _ _, HL.out.blk, HL.out.keep.blk HI2.out HNE.out.symm (by simp), HL.out.bel, Nat.le_refl _⟩
  have HC0 := Aside0.mk hcs
  clear hcs HL HI1b HI2 HB3
  obtain ⟨N0, hN0⟩ : ∃ n, w4.heap.size = n := ⟨_, rfl⟩
  rw [hN0] at HC0
  clear hN0
  go_loopw [9, 10, 11, 12] (fun v9 v10 v11 v12 wr => ∃ (Ab : Option Addr) (cb : Nat) (bl : List S32) (tm : ByteArray) (bm : Bool) (p i : Int), v9 = .slice Ab bl.length cb ∧ v10 = .int .i64 (Feed.ecode bm) ∧ v11 = .int .i64 p ∧ v12 = .int .i64 i ∧ Aside0 (0 ≤ i ∧ i ≤ 200 ∧ 0 ≤ p ∧ p ≤ s.size) ∧ Aside0 (Drains (s.extract 0 p.toNat) bl tm bm) ∧ Aside0 (CS w wr N0 g1 g2 (.slice Aa a.length ca) (.slice Ab bl.length cb) a bl t tm b bm)) (fun _ _ _ v12 _ => (200 - intOf v12).toNat)
  case atStart => exact ⟨none, 0, [], (⟨#[]⟩ : ByteArray), false, 0, 0, rfl, rfl, rfl, rfl, ⟨by omega⟩, ⟨by rw [show s.extract 0 (0 : Int).toNat = (⟨#[]⟩ : ByteArray) from ext00 s]; exact .more (by decide +kernel)⟩, HC0⟩
  case round =>
    clear HC0
    obtain ⟨Ab, cb, bl, tm, bm, p, i, rfl, rfl, rfl, rfl, HI, HD, HC⟩ := hrel
    have hi0 := HI.out.1
    have hp0 := HI.out.2.2.1
    have hp1 := HI.out.2.2.2
    have q0 := eq_true hp0
    have q1 := eq_true hp1
    have hsplit : s.extract 0 p.toNat ++ s.extract p.toNat s.size = s := by rw [ByteArray.extract_append_extract]; simp
    by_cases c1 : i < (xs.length : Int)
    rotate_left
    · have K1 : decide (i < (xs.length : Int)) = false := decide_eq_false c1
      clear c1
      have HAL := Aside0.mk (show a.length ≤ 3000 by have h1 := drains_len HDA.out; have h2 := HSZ.out; rw [ByteArray.size_append] at h1; have h3 : (⟨#[]⟩ : ByteArray).size = 0 := rfl; omega)
      cases bm
      · obtain ⟨l2, t2, b2, hd2⟩ := drains_all (tm ++ s.extract p.toNat s.size).size _ (Nat.le_refl _)
        have hz2 : tm.size + (s.extract p.toNat s.size).size ≤ 100000 := by
          have h1 := drains_len HD.out
          have h2 := HSZ.out
          rw [ByteArray.size_extract] at h1 ⊢
          omega
        have hln : bl.length + l2.length ≤ 100000 := by
          have h1 := drains_len HD.out
          have h3 := drains_len hd2
          rw [ByteArray.size_append] at h3
          have h2 := HSZ.out
          simp only [ByteArray.size_extract] at h1 h3
          omega
        have hda2 := drains_app HD.out rfl hd2
        rw [hsplit] at hda2
        obtain ⟨ea, et, eb⟩ := drains_one hda2 (show Drains s a t b from (by have := HDA.out; rwa [show (⟨#[]⟩ : ByteArray) ++ s = s from ByteArray.empty_append] at this))
        subst ea et eb
        obtain ⟨r1, he1, hr1⟩ := end_f t b
        have HE1 := Aside0.mk he1
        have HD2 := Aside0.mk hd2
        have HZ2 := Aside0.mk hz2
        have HLN := Aside0.mk hln
        clear hda2 he1 hr1 hd2 hz2 hln hi0 hp0 hp1 hsplit
        have ef : ((Feed.ecode false) == 0) = true := rfl
        go_wp2_with (first | (go_at_call 9; (with_reducible refine (Feed.feed_c g2 tm (s.extract p.toNat s.size) l2 t b w _ HC.out.b2 HG2.out HC.out.bel HT.out HD2.out HZ2.out).mono ?_); rintro e w5 ⟨vx, rfl, hl⟩; obtain ⟨Ax, cx, rfl⟩ := Kd.R_slice hl.r; have HC5 := Aside0.mk (HC.out.fed hl HNE.out); have HL5 := Aside0.mk hl; clear hl) | ((with_reducible refine gate_builtin (b := .append) (xs := #[.tmp 86, .tmp 87]) rfl ?_); at_builtin; refine Kd.R_append_rows k32 (w0 := w) w.heap.size rfl (.tmp 86) (.tmp 87) 26 32 (.agg #[.int .i64 0, .string (⟨#[]⟩ : ByteArray)]) 24 rfl Tryd.underlying26 Feed.info32_ rfl (by decide) (by omega) (.slice Ab bl.length cb) bl l2 _ _ _ (fun k => k ≠ g1 ∧ k ≠ g2 ∧ N0 ≤ k) (fun _ => False) rfl rfl HC5.out.rb (Kd.R_reads' HL5.out.r).2.2 (fun _ _ h => h) (fun _ h => h.elim) ?aF HC5.out.bel ?aS ?aL ?_; (case aF => exact fun k hk => ⟨by have := blk_lt HC5.out.b1; omega, by have := blk_lt HC5.out.b2; omega, Nat.le_trans HC5.out.n0 hk⟩); (case aS => exact HC5.out.bel.size); (case aL => have := HLN.out; omega); intro v6 w6 hR6 hB6 hg6 hat; obtain ⟨Ab2, cb2, rfl⟩ := Kd.R_slice hR6; have HC6 := Aside0.mk (HC5.out.app hR6 hB6 hg6); clear hR6 hB6 hg6 hat) | (go_at_call 10; (with_reducible refine (capsule_Reader_End.calls g1 t b r1 t b w _ (isS HC6.out.b1 HG1.out) HC6.out.bel HE1.out).mono ?_); rintro e w8 ⟨rfl, ⟨hib, hig⟩, hB, hk⟩; have HX1 := Aside0.mk (HC6.out.end1 hib hB hk HNE.out); clear hib hig hB hk) | (go_at_call 10; (with_reducible refine (capsule_Reader_End.calls g2 t b r1 t b w _ (isS HX1.out.b2 HG2.out) HX1.out.bel HE1.out).mono ?_); rintro e w9 ⟨rfl, ⟨hib, hig⟩, hB, hk⟩; have HX2 := Aside0.mk (HX1.out.end2 hib hB hk HNE.out); clear hib hig hB hk))
        go_loopw [18] (fun v18 wr2 => ∃ k : Int, v18 = .int .i64 k ∧ Aside0 (0 ≤ k ∧ k ≤ (bl ++ l2).length) ∧ Aside0 (CS w wr2 N0 g1 g2 (.slice Aa (bl ++ l2).length ca) (.slice Ab2 (bl ++ l2).length cb2) (bl ++ l2) (bl ++ l2) t t b b)) (fun v18 _ => (((bl ++ l2).length : Int) - intOf v18).toNat)
        case atStart => exact ⟨0, rfl, ⟨by omega⟩, HX2⟩
        case round =>
          clear HX2
          obtain ⟨k, rfl, HKK, HQ⟩ := hrel
          have k0 := HKK.out.1
          by_cases d1 : k < ((bl ++ l2).length : Int)
          rotate_left
          · have d2 : ¬ k < (bl.length : Int) + (l2.length : Int) := by rw [List.length_append] at d1; omega
            have D1 : decide (k < (((bl ++ l2).length : Nat) : Int)) = false := decide_eq_false d1
            have D1a : decide (k < ((bl.length + l2.length : Nat) : Int)) = false := decide_eq_false (by omega)
            have D1b : decide (k < (bl.length : Int) + (l2.length : Int)) = false := decide_eq_false d2
            clear d2
            clear d1 k0
            go_wp2_with (fail)
            go_ret
            exact ⟨rfl, HQ.out.bel⟩
          have d2 : k < (bl.length : Int) + (l2.length : Int) := by rw [List.length_append] at d1; omega
          have D1 : decide (k < ((bl ++ l2).length : Int)) = true := decide_eq_true d1
          have D1a : decide (k < ((bl.length + l2.length : Nat) : Int)) = true := decide_eq_true (by omega)
          have D1b : decide (k < (bl.length : Int) + (l2.length : Int)) = true := decide_eq_true d2
          have hdr := HQ.out.drew
          obtain ⟨ad1, hA1, x0, x1⟩ := cap_at hdr.ra k k0 d1
          obtain ⟨ad2, hA2, y0, y1⟩ := cap_at hdr.rb k k0 d1
          generalize ((bl ++ l2).getD k.toNat z32).f0 = e0 at x0 y0
          generalize ((bl ++ l2).getD k.toNat z32).f1 = e1 at x1 y1
          subst hA1 hA2
          have r0 := eq_true k0
          have r1 := eq_true d1
          have r1a := eq_true (show k < ((bl.length + l2.length : Nat) : Int) by omega)
          have r1b := eq_true d2
          clear d2
          have hv1 : wrap64 (k + 1) = k + 1 := by have := HAL.out; unfold wrap64; omega
          have hv2 : IntKind.i64.wrap (k + 1) = k + 1 := (i64_w _).trans hv1
          have HKD := Aside0.mk (And.intro k0 d1)
          have HQD := Aside0.mk hdr
          clear d1 k0 hdr
          go_wp2_with (fail)
          refine wp_region_still_lit (by kernel_rfl) (by kernel_rfl) ?_
          change wpStill _ _ (World.drew _) (fun a' => _) _ _
          repeat (first | still_step)
          refine wpStill_nil ?_
          go_wp2_with (fail)
          go_roundw
          case rel => exact ⟨k + 1, rfl, ⟨by have := HKD.out; have hla := @List.length_append _ bl l2; omega⟩, HQD⟩
          case measure => have := HKD.out; have hla := @List.length_append _ bl l2; simp [intOf]; omega
      · have hda2 := drains_bad HD.out rfl (s.extract p.toNat s.size)
        rw [hsplit] at hda2
        obtain ⟨ea, et, eb⟩ := drains_one hda2 (show Drains s a t b from (by have := HDA.out; rwa [show (⟨#[]⟩ : ByteArray) ++ s = s from ByteArray.empty_append] at this))
        have ef : ((Feed.ecode true) == 0) = false := rfl
        have ef2 : ((Feed.ecode true) != Feed.ecode true) = false := rfl
        subst ea eb
        obtain ⟨r1, he1, hr1⟩ := end_f t true
        obtain ⟨r2, he2, hr2⟩ := end_f tm true
        obtain rfl : r1 = false := hr1 rfl
        obtain rfl : r2 = false := hr2 rfl
        have HE1 := Aside0.mk he1
        have HE2 := Aside0.mk he2
        have HX := HC
        clear hda2 he1 he2 hr1 hr2 hi0 hp0 hp1 hsplit et
        go_wp2_with (first | (go_at_call 10; (with_reducible refine (capsule_Reader_End.calls g1 t true false t true w _ (isS HX.out.b1 HG1.out) HX.out.bel HE1.out).mono ?_); rintro e w8 ⟨rfl, ⟨hib, hig⟩, hB, hk⟩; have HX1 := Aside0.mk (HX.out.end1 hib hB hk HNE.out); clear hib hig hB hk) | (go_at_call 10; (with_reducible refine (capsule_Reader_End.calls g2 tm true false tm true w _ (isS HX1.out.b2 HG2.out) HX1.out.bel HE2.out).mono ?_); rintro e w9 ⟨rfl, ⟨hib, hig⟩, hB, hk⟩; have HX2 := Aside0.mk (HX1.out.end2 hib hB hk HNE.out); clear hib hig hB hk))
        go_loopw [18] (fun v18 wr2 => ∃ k : Int, v18 = .int .i64 k ∧ Aside0 (0 ≤ k ∧ k ≤ a.length) ∧ Aside0 (CS w wr2 N0 g1 g2 (.slice Aa a.length ca) (.slice Ab a.length cb) a a t tm true true)) (fun v18 _ => ((a.length : Int) - intOf v18).toNat)
        case atStart => exact ⟨0, rfl, ⟨by omega⟩, HX2⟩
        case round =>
          clear HX2
          obtain ⟨k, rfl, HKK, HQ⟩ := hrel
          have k0 := HKK.out.1
          by_cases d1 : k < (a.length : Int)
          rotate_left
          · have D1 : decide (k < (a.length : Int)) = false := decide_eq_false d1
            clear d1 k0
            go_wp2_with (fail)
            go_ret
            exact ⟨rfl, HQ.out.bel⟩
          have D1 : decide (k < (a.length : Int)) = true := decide_eq_true d1
          have hdr := HQ.out.drew
          obtain ⟨ad1, hA1, x0, x1⟩ := cap_at hdr.ra k k0 d1
          obtain ⟨ad2, hA2, y0, y1⟩ := cap_at hdr.rb k k0 d1
          generalize (a.getD k.toNat z32).f0 = e0 at x0 y0
          generalize (a.getD k.toNat z32).f1 = e1 at x1 y1
          subst hA1 hA2
          have r0 := eq_true k0
          have r1 := eq_true d1
          have hv1 : wrap64 (k + 1) = k + 1 := by have := HAL.out; unfold wrap64; omega
          have hv2 : IntKind.i64.wrap (k + 1) = k + 1 := (i64_w _).trans hv1
          have HKD := Aside0.mk (And.intro k0 d1)
          have HQD := Aside0.mk hdr
          clear d1 k0 hdr
          go_wp2_with (fail)
          refine wp_region_still_lit (by kernel_rfl) (by kernel_rfl) ?_
          change wpStill _ _ (World.drew _) (fun a' => _) _ _
          repeat (first | still_step)
          refine wpStill_nil ?_
          go_wp2_with (fail)
          go_roundw
          case rel => exact ⟨k + 1, rfl, ⟨by have := HKD.out; omega⟩, HQD⟩
          case measure => have := HKD.out; simp [intOf]; omega
    have K1 : decide (i < (xs.length : Int)) = true := decide_eq_true c1
    by_cases c2 : i < 200
    rotate_left
    · have K2 : decide (i < 200) = false := decide_eq_false c2
      clear c1 c2
      have HAL := Aside0.mk (show a.length ≤ 3000 by have h1 := drains_len HDA.out; have h2 := HSZ.out; rw [ByteArray.size_append] at h1; have h3 : (⟨#[]⟩ : ByteArray).size = 0 := rfl; omega)
      cases bm
      · obtain ⟨l2, t2, b2, hd2⟩ := drains_all (tm ++ s.extract p.toNat s.size).size _ (Nat.le_refl _)
        have hz2 : tm.size + (s.extract p.toNat s.size).size ≤ 100000 := by
          have h1 := drains_len HD.out
          have h2 := HSZ.out
          rw [ByteArray.size_extract] at h1 ⊢
          omega
        have hln : bl.length + l2.length ≤ 100000 := by
          have h1 := drains_len HD.out
          have h3 := drains_len hd2
          rw [ByteArray.size_append] at h3
          have h2 := HSZ.out
          simp only [ByteArray.size_extract] at h1 h3
          omega
        have hda2 := drains_app HD.out rfl hd2
        rw [hsplit] at hda2
        obtain ⟨ea, et, eb⟩ := drains_one hda2 (show Drains s a t b from (by have := HDA.out; rwa [show (⟨#[]⟩ : ByteArray) ++ s = s from ByteArray.empty_append] at this))
        subst ea et eb
        obtain ⟨r1, he1, hr1⟩ := end_f t b
        have HE1 := Aside0.mk he1
        have HD2 := Aside0.mk hd2
        have HZ2 := Aside0.mk hz2
        have HLN := Aside0.mk hln
        clear hda2 he1 hr1 hd2 hz2 hln hi0 hp0 hp1 hsplit
        have ef : ((Feed.ecode false) == 0) = true := rfl
        go_wp2_with (first | (go_at_call 9; (with_reducible refine (Feed.feed_c g2 tm (s.extract p.toNat s.size) l2 t b w _ HC.out.b2 HG2.out HC.out.bel HT.out HD2.out HZ2.out).mono ?_); rintro e w5 ⟨vx, rfl, hl⟩; obtain ⟨Ax, cx, rfl⟩ := Kd.R_slice hl.r; have HC5 := Aside0.mk (HC.out.fed hl HNE.out); have HL5 := Aside0.mk hl; clear hl) | ((with_reducible refine gate_builtin (b := .append) (xs := #[.tmp 86, .tmp 87]) rfl ?_); at_builtin; refine Kd.R_append_rows k32 (w0 := w) w.heap.size rfl (.tmp 86) (.tmp 87) 26 32 (.agg #[.int .i64 0, .string (⟨#[]⟩ : ByteArray)]) 24 rfl Tryd.underlying26 Feed.info32_ rfl (by decide) (by omega) (.slice Ab bl.length cb) bl l2 _ _ _ (fun k => k ≠ g1 ∧ k ≠ g2 ∧ N0 ≤ k) (fun _ => False) rfl rfl HC5.out.rb (Kd.R_reads' HL5.out.r).2.2 (fun _ _ h => h) (fun _ h => h.elim) ?aF HC5.out.bel ?aS ?aL ?_; (case aF => exact fun k hk => ⟨by have := blk_lt HC5.out.b1; omega, by have := blk_lt HC5.out.b2; omega, Nat.le_trans HC5.out.n0 hk⟩); (case aS => exact HC5.out.bel.size); (case aL => have := HLN.out; omega); intro v6 w6 hR6 hB6 hg6 hat; obtain ⟨Ab2, cb2, rfl⟩ := Kd.R_slice hR6; have HC6 := Aside0.mk (HC5.out.app hR6 hB6 hg6); clear hR6 hB6 hg6 hat) | (go_at_call 10; (with_reducible refine (capsule_Reader_End.calls g1 t b r1 t b w _ (isS HC6.out.b1 HG1.out) HC6.out.bel HE1.out).mono ?_); rintro e w8 ⟨rfl, ⟨hib, hig⟩, hB, hk⟩; have HX1 := Aside0.mk (HC6.out.end1 hib hB hk HNE.out); clear hib hig hB hk) | (go_at_call 10; (with_reducible refine (capsule_Reader_End.calls g2 t b r1 t b w _ (isS HX1.out.b2 HG2.out) HX1.out.bel HE1.out).mono ?_); rintro e w9 ⟨rfl, ⟨hib, hig⟩, hB, hk⟩; have HX2 := Aside0.mk (HX1.out.end2 hib hB hk HNE.out); clear hib hig hB hk))
        go_loopw [18] (fun v18 wr2 => ∃ k : Int, v18 = .int .i64 k ∧ Aside0 (0 ≤ k ∧ k ≤ (bl ++ l2).length) ∧ Aside0 (CS w wr2 N0 g1 g2 (.slice Aa (bl ++ l2).length ca) (.slice Ab2 (bl ++ l2).length cb2) (bl ++ l2) (bl ++ l2) t t b b)) (fun v18 _ => (((bl ++ l2).length : Int) - intOf v18).toNat)
        case atStart => exact ⟨0, rfl, ⟨by omega⟩, HX2⟩
        case round =>
          clear HX2
          obtain ⟨k, rfl, HKK, HQ⟩ := hrel
          have k0 := HKK.out.1
          by_cases d1 : k < ((bl ++ l2).length : Int)
          rotate_left
          · have d2 : ¬ k < (bl.length : Int) + (l2.length : Int) := by rw [List.length_append] at d1; omega
            have D1 : decide (k < (((bl ++ l2).length : Nat) : Int)) = false := decide_eq_false d1
            have D1a : decide (k < ((bl.length + l2.length : Nat) : Int)) = false := decide_eq_false (by omega)
            have D1b : decide (k < (bl.length : Int) + (l2.length : Int)) = false := decide_eq_false d2
            clear d2
            clear d1 k0
            go_wp2_with (fail)
            go_ret
            exact ⟨rfl, HQ.out.bel⟩
          have d2 : k < (bl.length : Int) + (l2.length : Int) := by rw [List.length_append] at d1; omega
          have D1 : decide (k < ((bl ++ l2).length : Int)) = true := decide_eq_true d1
          have D1a : decide (k < ((bl.length + l2.length : Nat) : Int)) = true := decide_eq_true (by omega)
          have D1b : decide (k < (bl.length : Int) + (l2.length : Int)) = true := decide_eq_true d2
          have hdr := HQ.out.drew
          obtain ⟨ad1, hA1, x0, x1⟩ := cap_at hdr.ra k k0 d1
          obtain ⟨ad2, hA2, y0, y1⟩ := cap_at hdr.rb k k0 d1
          generalize ((bl ++ l2).getD k.toNat z32).f0 = e0 at x0 y0
          generalize ((bl ++ l2).getD k.toNat z32).f1 = e1 at x1 y1
          subst hA1 hA2
          have r0 := eq_true k0
          have r1 := eq_true d1
          have r1a := eq_true (show k < ((bl.length + l2.length : Nat) : Int) by omega)
          have r1b := eq_true d2
          clear d2
          have hv1 : wrap64 (k + 1) = k + 1 := by have := HAL.out; unfold wrap64; omega
          have hv2 : IntKind.i64.wrap (k + 1) = k + 1 := (i64_w _).trans hv1
          have HKD := Aside0.mk (And.intro k0 d1)
          have HQD := Aside0.mk hdr
          clear d1 k0 hdr
          go_wp2_with (fail)
          refine wp_region_still_lit (by kernel_rfl) (by kernel_rfl) ?_
          change wpStill _ _ (World.drew _) (fun a' => _) _ _
          repeat (first | still_step)
          refine wpStill_nil ?_
          go_wp2_with (fail)
          go_roundw
          case rel => exact ⟨k + 1, rfl, ⟨by have := HKD.out; have hla := @List.length_append _ bl l2; omega⟩, HQD⟩
          case measure => have := HKD.out; have hla := @List.length_append _ bl l2; simp [intOf]; omega
      · have hda2 := drains_bad HD.out rfl (s.extract p.toNat s.size)
        rw [hsplit] at hda2
        obtain ⟨ea, et, eb⟩ := drains_one hda2 (show Drains s a t b from (by have := HDA.out; rwa [show (⟨#[]⟩ : ByteArray) ++ s = s from ByteArray.empty_append] at this))
        have ef : ((Feed.ecode true) == 0) = false := rfl
        have ef2 : ((Feed.ecode true) != Feed.ecode true) = false := rfl
        subst ea eb
        obtain ⟨r1, he1, hr1⟩ := end_f t true
        obtain ⟨r2, he2, hr2⟩ := end_f tm true
        obtain rfl : r1 = false := hr1 rfl
        obtain rfl : r2 = false := hr2 rfl
        have HE1 := Aside0.mk he1
        have HE2 := Aside0.mk he2
        have HX := HC
        clear hda2 he1 he2 hr1 hr2 hi0 hp0 hp1 hsplit et
        go_wp2_with (first | (go_at_call 10; (with_reducible refine (capsule_Reader_End.calls g1 t true false t true w _ (isS HX.out.b1 HG1.out) HX.out.bel HE1.out).mono ?_); rintro e w8 ⟨rfl, ⟨hib, hig⟩, hB, hk⟩; have HX1 := Aside0.mk (HX.out.end1 hib hB hk HNE.out); clear hib hig hB hk) | (go_at_call 10; (with_reducible refine (capsule_Reader_End.calls g2 tm true false tm true w _ (isS HX1.out.b2 HG2.out) HX1.out.bel HE2.out).mono ?_); rintro e w9 ⟨rfl, ⟨hib, hig⟩, hB, hk⟩; have HX2 := Aside0.mk (HX1.out.end2 hib hB hk HNE.out); clear hib hig hB hk))
        go_loopw [18] (fun v18 wr2 => ∃ k : Int, v18 = .int .i64 k ∧ Aside0 (0 ≤ k ∧ k ≤ a.length) ∧ Aside0 (CS w wr2 N0 g1 g2 (.slice Aa a.length ca) (.slice Ab a.length cb) a a t tm true true)) (fun v18 _ => ((a.length : Int) - intOf v18).toNat)
        case atStart => exact ⟨0, rfl, ⟨by omega⟩, HX2⟩
        case round =>
          clear HX2
          obtain ⟨k, rfl, HKK, HQ⟩ := hrel
          have k0 := HKK.out.1
          by_cases d1 : k < (a.length : Int)
          rotate_left
          · have D1 : decide (k < (a.length : Int)) = false := decide_eq_false d1
            clear d1 k0
            go_wp2_with (fail)
            go_ret
            exact ⟨rfl, HQ.out.bel⟩
          have D1 : decide (k < (a.length : Int)) = true := decide_eq_true d1
          have hdr := HQ.out.drew
          obtain ⟨ad1, hA1, x0, x1⟩ := cap_at hdr.ra k k0 d1
          obtain ⟨ad2, hA2, y0, y1⟩ := cap_at hdr.rb k k0 d1
          generalize (a.getD k.toNat z32).f0 = e0 at x0 y0
          generalize (a.getD k.toNat z32).f1 = e1 at x1 y1
          subst hA1 hA2
          have r0 := eq_true k0
          have r1 := eq_true d1
          have hv1 : wrap64 (k + 1) = k + 1 := by have := HAL.out; unfold wrap64; omega
          have hv2 : IntKind.i64.wrap (k + 1) = k + 1 := (i64_w _).trans hv1
          have HKD := Aside0.mk (And.intro k0 d1)
          have HQD := Aside0.mk hdr
          clear d1 k0 hdr
          go_wp2_with (fail)
          refine wp_region_still_lit (by kernel_rfl) (by kernel_rfl) ?_
          change wpStill _ _ (World.drew _) (fun a' => _) _ _
          repeat (first | still_step)
          refine wpStill_nil ?_
          go_wp2_with (fail)
          go_roundw
          case rel => exact ⟨k + 1, rfl, ⟨by have := HKD.out; omega⟩, HQD⟩
          case measure => have := HKD.out; simp [intOf]; omega
    have K2 : decide (i < 200) = true := decide_eq_true c2
    cases bm
    rotate_left
    · have HAL := Aside0.mk (show a.length ≤ 3000 by have h1 := drains_len HDA.out; have h2 := HSZ.out; rw [ByteArray.size_append] at h1; have h3 : (⟨#[]⟩ : ByteArray).size = 0 := rfl; omega)
      clear c1 c2
      have hda2 := drains_bad HD.out rfl (s.extract p.toNat s.size)
      rw [hsplit] at hda2
      obtain ⟨ea, et, eb⟩ := drains_one hda2 (show Drains s a t b from (by have := HDA.out; rwa [show (⟨#[]⟩ : ByteArray) ++ s = s from ByteArray.empty_append] at this))
      have ef : ((Feed.ecode true) == 0) = false := rfl
      have ef2 : ((Feed.ecode true) != Feed.ecode true) = false := rfl
      subst ea eb
      obtain ⟨r1, he1, hr1⟩ := end_f t true
      obtain ⟨r2, he2, hr2⟩ := end_f tm true
      obtain rfl : r1 = false := hr1 rfl
      obtain rfl : r2 = false := hr2 rfl
      have HE1 := Aside0.mk he1
      have HE2 := Aside0.mk he2
      have HX := HC
      clear hda2 he1 he2 hr1 hr2 hi0 hp0 hp1 hsplit et
      go_wp2_with (first | (go_at_call 10; (with_reducible refine (capsule_Reader_End.calls g1 t true false t true w _ (isS HX.out.b1 HG1.out) HX.out.bel HE1.out).mono ?_); rintro e w8 ⟨rfl, ⟨hib, hig⟩, hB, hk⟩; have HX1 := Aside0.mk (HX.out.end1 hib hB hk HNE.out); clear hib hig hB hk) | (go_at_call 10; (with_reducible refine (capsule_Reader_End.calls g2 tm true false tm true w _ (isS HX1.out.b2 HG2.out) HX1.out.bel HE2.out).mono ?_); rintro e w9 ⟨rfl, ⟨hib, hig⟩, hB, hk⟩; have HX2 := Aside0.mk (HX1.out.end2 hib hB hk HNE.out); clear hib hig hB hk))
      go_loopw [18] (fun v18 wr2 => ∃ k : Int, v18 = .int .i64 k ∧ Aside0 (0 ≤ k ∧ k ≤ a.length) ∧ Aside0 (CS w wr2 N0 g1 g2 (.slice Aa a.length ca) (.slice Ab a.length cb) a a t tm true true)) (fun v18 _ => ((a.length : Int) - intOf v18).toNat)
      case atStart => exact ⟨0, rfl, ⟨by omega⟩, HX2⟩
      case round =>
        clear HX2
        obtain ⟨k, rfl, HKK, HQ⟩ := hrel
        have k0 := HKK.out.1
        by_cases d1 : k < (a.length : Int)
        rotate_left
        · have D1 : decide (k < (a.length : Int)) = false := decide_eq_false d1
          clear d1 k0
          go_wp2_with (fail)
          go_ret
          exact ⟨rfl, HQ.out.bel⟩
        have D1 : decide (k < (a.length : Int)) = true := decide_eq_true d1
        have hdr := HQ.out.drew
        obtain ⟨ad1, hA1, x0, x1⟩ := cap_at hdr.ra k k0 d1
        obtain ⟨ad2, hA2, y0, y1⟩ := cap_at hdr.rb k k0 d1
        generalize (a.getD k.toNat z32).f0 = e0 at x0 y0
        generalize (a.getD k.toNat z32).f1 = e1 at x1 y1
        subst hA1 hA2
        have r0 := eq_true k0
        have r1 := eq_true d1
        have hv1 : wrap64 (k + 1) = k + 1 := by have := HAL.out; unfold wrap64; omega
        have hv2 : IntKind.i64.wrap (k + 1) = k + 1 := (i64_w _).trans hv1
        have HKD := Aside0.mk (And.intro k0 d1)
        have HQD := Aside0.mk hdr
        clear d1 k0 hdr
        go_wp2_with (fail)
        refine wp_region_still_lit (by kernel_rfl) (by kernel_rfl) ?_
        change wpStill _ _ (World.drew _) (fun a' => _) _ _
        repeat (first | still_step)
        refine wpStill_nil ?_
        go_wp2_with (fail)
        go_roundw
        case rel => exact ⟨k + 1, rfl, ⟨by have := HKD.out; omega⟩, HQD⟩
        case measure => have := HKD.out; simp [intOf]; omega
    obtain ⟨ad, x, hA, hx, rows⟩ := el HR.out HG.out.2 i hi0 c1
    subst hA
    have x0 := rows wr HC.out.bel
    have p0 := eq_true hi0
    have p1 := eq_true c1
    have ef : ((Feed.ecode false) == 0) = true := rfl
    have hw1 : wrap64 (i + 1) = i + 1 := by unfold wrap64; omega
    have hw2 : IntKind.i64.wrap (i + 1) = i + 1 := (i64_w _).trans hw1
    have hu0 : 0 ≤ IntKind.u64.wrap x := (u64_range x).1
    obtain ⟨d, hd⟩ : ∃ d : Int, IntKind.u64.wrap x % 9 = d := ⟨_, rfl⟩
    have hd0 : 0 ≤ d ∧ d < 9 := by omega
    have ht1 : Int.tmod (IntKind.u64.wrap x) 9 = d := by rw [Int.tmod_eq_emod_of_nonneg hu0, hd]
    have hwd : wrap64 d = d := wrap_in _ (by omega) (by omega)
    have hs3 := HSZ.out
    have hws : wrap64 ((s.size : Int) - p) = (s.size : Int) - p := wrap_in _ (by omega) (by omega)
    have hnn : 0 ≤ (if d < (s.size : Int) - p then d else (s.size : Int) - p) ∧ p + (if d < (s.size : Int) - p then d else (s.size : Int) - p) ≤ s.size := by
      by_cases hq : d < (s.size : Int) - p
      · rw [if_pos hq]; omega
      · rw [if_neg hq]; omega
    obtain ⟨n, hn⟩ : ∃ n : Int, (if d < (s.size : Int) - p then d else (s.size : Int) - p) = n := ⟨_, rfl⟩
    rw [hn] at hnn
    have hnd := hnn
    have hwp : wrap64 (p + n) = p + n := wrap_in _ (by omega) (by omega)
    have q2 := eq_true (show p ≤ p + n by omega)
    have q3 := eq_true (show p + n ≤ (s.size : Int) by omega)
    have q4 := eq_true (show 0 ≤ p + n by omega)
    have hmid : s.extract 0 p.toNat ++ s.extract p.toNat (p + n).toNat = s.extract 0 (p + n).toNat := by rw [ByteArray.extract_append_extract, show min 0 p.toNat = 0 by omega, show max p.toNat (p + n).toNat = (p + n).toNat by omega]
    obtain ⟨l2, t2, b2, hd2⟩ := drains_all (tm ++ s.extract p.toNat (p + n).toNat).size _ (Nat.le_refl _)
    have hz2 : tm.size + (s.extract p.toNat (p + n).toNat).size ≤ 100000 := by
      have h1 := drains_len HD.out
      rw [ByteArray.size_extract] at h1 ⊢
      omega
    have hln : bl.length + l2.length ≤ 100000 := by
      have h1 := drains_len HD.out
      have h3 := drains_len hd2
      rw [ByteArray.size_append] at h3
      simp only [ByteArray.size_extract] at h1 h3
      omega
    have hdn := drains_app HD.out rfl hd2
    rw [hmid] at hdn
    have HDN := Aside0.mk hdn
    have HD2 := Aside0.mk hd2
    have HZ2 := Aside0.mk hz2
    have HLN := Aside0.mk hln
    have HIX := Aside0.mk (And.intro hi0 c2)
    have HPN := Aside0.mk (show 0 ≤ p + n ∧ p + n ≤ (s.size : Int) by omega)
    clear c1 c2 hi0 hp0 hp1 hsplit hx rows hu0 hd hd0 hs3 hnd hnn hmid hd2 hz2 hln hdn
    go_wp2_with (first | (go_at_call 9; (with_reducible refine (Feed.feed_c g2 tm (s.extract p.toNat (p + n).toNat) l2 t2 b2 w _ HC.out.b2 HG2.out HC.out.bel HT.out HD2.out HZ2.out).mono ?_); rintro e w5 ⟨vx, rfl, hl⟩; obtain ⟨Ax, cx, rfl⟩ := Kd.R_slice hl.r; have HC5 := Aside0.mk (HC.out.fed hl HNE.out); have HL5 := Aside0.mk hl; clear hl) | ((with_reducible refine gate_builtin (b := .append) (xs := #[.tmp 69, .tmp 70]) rfl ?_); at_builtin; refine Kd.R_append_rows k32 (w0 := w) w.heap.size rfl (.tmp 69) (.tmp 70) 26 32 (.agg #[.int .i64 0, .string (⟨#[]⟩ : ByteArray)]) 24 rfl Tryd.underlying26 Feed.info32_ rfl (by decide) (by omega) (.slice Ab bl.length cb) bl l2 _ _ _ (fun k => k ≠ g1 ∧ k ≠ g2 ∧ N0 ≤ k) (fun _ => False) rfl rfl HC5.out.rb (Kd.R_reads' HL5.out.r).2.2 (fun _ _ h => h) (fun _ h => h.elim) ?aF HC5.out.bel ?aS ?aL ?_; (case aF => exact fun k hk => ⟨by have := blk_lt HC5.out.b1; omega, by have := blk_lt HC5.out.b2; omega, Nat.le_trans HC5.out.n0 hk⟩); (case aS => exact HC5.out.bel.size); (case aL => have := HLN.out; omega); intro v6 w6 hR6 hB6 hg6 hat; obtain ⟨Ab2, cb2, rfl⟩ := Kd.R_slice hR6; have HC6 := Aside0.mk (HC5.out.app hR6 hB6 hg6); clear hR6 hB6 hg6 hat))
    go_roundw
    case rel => exact ⟨Ab2, cb2, bl ++ l2, t2, b2, p + n, i + 1, by rw [List.length_append], rfl, by first | rfl | rw [hwp], rfl, ⟨by have := HIX.out; have := HPN.out; omega⟩, HDN, ⟨by have h := HC6.out; rw [List.length_append] at h; rw [List.length_append]; exact h⟩⟩
    case measure => have := HIX.out; simp [intOf]; omega
end Go.Proofs.YtiokdkhhffngiaaDoor.Walk
