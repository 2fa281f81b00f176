/- H3Cuts: the walk. -/
import Derived.Test.YtnnmdocdiedgiaaDoorJoined
namespace Go.Proofs.YtnnmdocdiedgiaaDoor.Walk
open Go.RowKit Go.Proofs.YtnnmdocdiedgiaaDoorW.PrintWords Go.Proofs.YtnnmdocdiedgiaaDoorW.PrintLast Go.Proofs.YtnnmdocdiedgiaaDoorW.PrintMore Go.Proofs.YtnnmdocdiedgiaaDoor.PH3Writes Go.Proofs.YtnnmdocdiedgiaaDoor Go.Proofs.YtnnmdocdiedgiaaDoor.Pure Go.Proofs.YtnnmdocdiedgiaaDoor.Pairs Go.Proofs.YtnnmdocdiedgiaaDoor.Reader
set_option linter.unusedVariables false
set_option linter.unusedSimpArgs false
attribute [local go_sem] max2_int min2_int max_two min_two
/-- An element of a row of numbers. -/
theorem el {w : World} {A : Option Addr} {xs : List Int} (h : (Kd.int .i64).C w A xs.length xs) (hg : ∀ y ∈ xs, (Lit.int .i64 y).wf = true) (i : Int) (h0 : 0 ≤ i) (h1 : i < xs.length) : ∃ ad, ∃ x : Int, A = some ad ∧ (-9223372036854775808 ≤ x ∧ x ≤ 9223372036854775807) ∧ ∀ W, Below w.heap.size w W → W.cell? (ad.add i.toNat) = some (.int .i64 x) := by
  obtain ⟨ad, e, hc0⟩ := (Kd.reads_of_C (d := (0 : Int)) h).at_ i h0 h1
  have hx : rdOf 0 xs i ∈ xs := by
    unfold rdOf
    have hi : i.toNat < xs.length := by omega
    rw [List.getD_eq_getElem?_getD, List.getElem?_eq_getElem hi]
    exact List.getElem_mem hi
  have hw : IntKind.i64.min ≤ rdOf 0 xs i ∧ rdOf 0 xs i ≤ IntKind.i64.max := by simpa [Lit.wf] using hg _ hx
  refine ⟨ad, rdOf 0 xs i, e, hw, fun W hb => ?_⟩
  obtain ⟨ad2, e2, hc⟩ := (Kd.reads_of_C (d := (0 : Int)) (Kd.C_below h hb)).at_ i h0 h1
  obtain rfl : ad = ad2 := Option.some.inj (e.symm.trans e2)
  exact hc
/-- Two readers, the list of the one, that of the other. -/
structure CS (w wr : World) (N0 g1 g2 : Nat) (va vb : Value) (a bl : List S39) (r1 r2 : RS) : Prop where
  ra : Kd.R k39 39 wr w.heap.size (fun k => k ≠ g1 ∧ k ≠ g2 ∧ k < N0) va a
  rb : Kd.R k39 39 wr w.heap.size (fun k => k ≠ g1 ∧ k ≠ g2 ∧ N0 ≤ k) vb bl
  b1 : wr.heap[g1]? = some (.cells (rcells g1 r1) 60 (0, 0))
  b2 : wr.heap[g2]? = some (.cells (rcells g2 r2) 60 (0, 0))
  bel : Below w.heap.size w wr
  n0 : N0 ≤ wr.heap.size
theorem CS.fed {w wr w' : World} {N0 g1 g2 : Nat} {va vb v : Value} {a bl l : List S39} {r1 r2 r3 : RS} (h : CS w wr N0 g1 g2 va vb a bl r1 r2) (hf : Fed w wr w' g2 r3 v l) (hne : g1 ≠ g2) : CS w w' N0 g1 g2 va vb a bl r1 r3 :=
  ⟨Kd.R_keep h.ra hf.keep (fun _ hk => hk.2.1), Kd.R_keep h.rb hf.keep (fun _ hk => hk.2.1), hf.keep.blk h.b1 hne (by simp), hf.rb, hf.bel, Nat.le_trans h.n0 hf.keep.1⟩
theorem CS.app {w wr w' : World} {N0 g1 g2 : Nat} {va vb v2 : Value} {a bl bl2 : List S39} {r1 r2 : RS} (h : CS w wr N0 g1 g2 va vb a bl r1 r2)
    (hR : Kd.R k39 39 w' w.heap.size (fun k => k ≠ g1 ∧ k ≠ g2 ∧ N0 ≤ k) v2 bl2) (hB : Below w.heap.size w w') (hg : wr.grownBy w' vb.ownBlock) : CS w w' N0 g1 g2 va v2 a bl2 r1 r2 := by
  refine ⟨Kd.R_grown h.ra hg (fun k hk he => ?_), hR, (hg.block g1 (blk_lt h.b1) (fun he => ?_)).trans h.b1, (hg.block g2 (blk_lt h.b2) (fun he => ?_)).trans h.b2, hB, Nat.le_trans h.n0 hg.size⟩
  · have := (h.rb.1 k he.symm).2.2
    have := hk.2.2
    omega
  · exact (h.rb.1 g1 he.symm).1 rfl
  · exact (h.rb.1 g2 he.symm).2.1 rfl
theorem addr_addr (r : RS) (x y : ByteArray) : addr (addr r x) y = addr r (x ++ y) := by
  unfold addr
  dsimp only
  rw [ByteArray.append_assoc]
theorem stepS_cat (r : RS) (hi : Inv r) {r1 : RS} {l1 : List S39} {b : Bool} (h : stepS r = (r1, l1, b)) : (catEv l1).size + r1.rest.size ≤ r.rest.size := by
  have hz0 : (catEv []).size = 0 := rfl
  unfold stepS at h
  cases hm : r.md with
  | beg =>
    rw [hm] at h
    dsimp only at h
    unfold begS at h
    split at h
    · cases h; rw [hz0]; omega
    split at h
    · cases h; rw [hz0]; dsimp only; omega
    · cases h; rw [hz0]; dsimp only; rw [ByteArray.size_extract]; omega
  | frm =>
    rw [hm] at h
    dsimp only at h
    unfold frmS at h
    split at h
    · cases h; rw [hz0]; omega
    split at h
    · cases h; rw [hz0]; omega
    rename_i h1 h2
    have g1 := vget_range r.rest
    have g2 := vget_range (r.rest.extract (vget r.rest).2.1.toNat r.rest.size)
    generalize (vget (r.rest.extract (vget r.rest).2.1.toNat r.rest.size)) = q at *
    generalize (vget r.rest) = p at *
    have hz : (r.rest.extract (p.2.1 + q.2.1).toNat r.rest.size).size ≤ r.rest.size := by rw [ByteArray.size_extract]; omega
    generalize r.rest.extract (p.2.1 + q.2.1).toNat r.rest.size = r2 at *
    unfold frmT at h
    split at h
    · cases h; rw [hz0]; dsimp only; omega
    split at h
    · cases h; rw [hz0]; dsimp only; omega
    split at h
    · cases h; rw [hz0]; dsimp only; omega
    split at h
    · cases h; rw [hz0]; omega
    split at h
    · cases h; rw [hz0]; dsimp only; omega
    · cases h
      show (r2.extract 0 q.1.toNat ++ ⟨#[]⟩).size + (r2.extract q.1.toNat r2.size).size ≤ _
      rw [app_nil, ByteArray.size_extract, ByteArray.size_extract]
      omega
  | pas =>
    rw [hm] at h
    dsimp only at h
    have hn := passN_range r hi
    have he : (catEv (passE r)).size + (passR r).rest.size ≤ r.rest.size := by
      show _ + (r.rest.extract (passN r).toNat r.rest.size).size ≤ _
      rw [ByteArray.size_extract]
      unfold passE
      split
      · split
        · rw [hz0]; omega
        · show (r.rest.extract 0 (passN r).toNat ++ ⟨#[]⟩).size + _ ≤ _
          rw [app_nil, ByteArray.size_extract]
          omega
      · rw [hz0]; omega
    unfold pasS at h
    split at h
    · cases h; exact he
    · cases h; exact he
theorem runs_cat {r r' : RS} {l : List S39} (h : Runs r l r') : Inv r → (catEv l).size + r'.rest.size ≤ r.rest.size := by
  induction h with
  | stop h => exact fun hi => stepS_cat _ hi h
  | more h hn ih =>
    intro hi
    have hp := stepS_stp _ hi
    rw [h] at hp
    have h1 := stepS_cat _ hi h
    have h2 := ih hp.inv
    rw [catEv_app, ByteArray.size_append]
    omega
theorem runs_stop0 (c : Bool) : Runs (addr (initR c) (⟨#[]⟩ : ByteArray)) [] (initR c) := by
  cases c
  · exact .stop (frm_empty _ rfl)
  · exact .stop rfl
theorem endc_code {r : RS} (h : r.code ≠ 0) : endc r = r.code := by
  unfold endc
  rw [if_pos h]
theorem addr_init (c : Bool) (s : ByteArray) : addr (initR c) s = { initR c with rest := (initR c).rest ++ s } := rfl
theorem inv_addr {r : RS} (h : Inv r) (t : ByteArray) : Inv (addr r t) := h
/-- Two rows of the same events, of the chapter's. -/
structure TwoJ (w wr : World) (Aa Ab : Option Addr) (ca cb : Nat) (ev : List S39) : Prop where
  ra : Kd.C k39 wr Aa ev.length ev
  rb : Kd.C k39 wr Ab ev.length ev
  bel : Below w.heap.size w wr
theorem TwoJ.below {w wr w2 : World} {Aa Ab : Option Addr} {ca cb : Nat} {ev : List S39} (h : TwoJ w wr Aa Ab ca cb ev) (hd : Below wr.heap.size wr w2) : TwoJ w w2 Aa Ab ca cb ev := ⟨Kd.C_below h.ra hd, Kd.C_below h.rb hd, below_step h.bel hd⟩
theorem drawn_below {w w2 : World} (h : Drawn0 w w2) : Below w.heap.size w w2 := by
  obtain ⟨n, rfl⟩ := h
  exact pw_below_drewN (Below.refl _ _) n
set_option maxHeartbeats 32000000 in
set_option maxRecDepth 100000 in
theorem h3Cuts_walk (ctl : Bool) (s : ByteArray) (A : Option Addr) (cap : Nat) (xs : List Int) (w : World) (hr : (Kd.int .i64).C w A xs.length xs) (hc : xs.length ≤ cap) (hT : Kd.C (Kd.int .i64) w (some ⟨0, 0, none⟩) 4 ([1, 2, 4, 8] : List Int)) (G0 : s.size ≤ 140737488351232) (G1 : xs.length * 8 ≤ 140737488351232 ∧ ∀ y ∈ xs, (Lit.int .i64 y).wf = true) :
    Calls Tryd.prog 4 #[.bool ctl, .string s, .slice A xs.length cap] w fun e w' => e = .returned (.bool true) ∧ Below w.heap.size w w' := by
  have HT := Aside0.mk hT
  have HR := Aside0.mk hr
  have HG := Aside0.mk G1
  clear hT hr hc G0 G1
  by_cases c0 : s.size > 3000
  · have Ca : decide ((s.size : Int) > 3000) = true := decide_eq_true (by omega)
    have Cb : decide (3000 < (s.size : Int)) = true := decide_eq_true (by omega)
    have Cc : decide (3000 < s.size) = true := decide_eq_true (by omega)
    clear c0
    go_enter Tryd.func4, Tryd.ntmps4
    go_wp2_with (first | (go_at_call 13; (with_reducible refine (works_c w HT.out).mono ?_); rintro e_ w1 ⟨rfl, hb⟩; have HB := Aside0.mk hb; clear hb))
    go_ret
    exact ⟨rfl, HB.out⟩
  have Ca : decide ((s.size : Int) > 3000) = false := decide_eq_false (by omega)
  have Cb : decide (3000 < (s.size : Int)) = false := decide_eq_false (by omega)
  have Cc : decide (3000 < s.size) = false := decide_eq_false (by omega)
  have HSZ := Aside0.mk (show s.size ≤ 3000 by omega)
  obtain ⟨a, ra, hda⟩ := runs_all _ (addr (initR ctl) s) (inv_addr (inv_init ctl) s) (Nat.le_refl _)
  have hiz : (initR ctl).rest.size = 0 := rfl
  have hza : (addr (initR ctl) s).rest.size = s.size := by show ((⟨#[]⟩ : ByteArray) ++ s).size = _; rw [nil_app]
  have hra := runs_inv hda (inv_addr (inv_init ctl) s)
  have hrc := runs_cat hda (inv_addr (inv_init ctl) s)
  rw [hza] at hra hrc
  have HAL := Aside0.mk (show a.length ≤ 3000 ∧ (catEv a).size ≤ 3000 by omega)
  have HDA := Aside0.mk hda
  have HDA1 := Aside0.mk (show Runs { initR ctl with rest := (initR ctl).rest ++ s } a ra from hda)
  have HZA := Aside0.mk (show (initR ctl).rest.size + s.size ≤ 100000 by omega)
  clear hda hiz hza hra hrc c0
  go_enter Tryd.func4, Tryd.ntmps4
  go_wp2_with (first | (go_at_call 13; (with_reducible refine (works_c w HT.out).mono ?_); rintro e_ w1 ⟨rfl, hb⟩; have HB := Aside0.mk hb; clear hb) | (go_at_call 14; (with_reducible refine (new_c ctl _).mono ?_); rintro e_ w2 ⟨g1, rfl, hg, hb, hB⟩; have HG1 := Aside0.mk (Nat.le_trans HB.out.size hg); have HN1 := Aside0.mk hb; have HB2 := Aside0.mk (below_step HB.out hB); clear hg hb hB) | (go_at_call 14; (with_reducible refine (new_c ctl _).mono ?_); rintro e_ w3 ⟨g2, rfl, hg, hb, hB⟩; have HNE := Aside0.mk (show g1 ≠ g2 from Nat.ne_of_lt (Nat.lt_of_lt_of_le (blk_lt HN1.out) hg)); have HG2 := Aside0.mk (Nat.le_trans HB2.out.size hg); have HB3 := Aside0.mk (below_step HB2.out hB); have HN1b := Aside0.mk (blk_below HN1.out hB); have HN2 := Aside0.mk hb; clear hg hb hB HN1 HB2) | (go_at_call 15; (with_reducible refine (feed_c g1 (initR ctl) s a ra w _ HN1b.out HG1.out HB3.out HT.out rfl (inv_init ctl) HDA1.out HZA.out).mono ?_); rintro e_ w4 ⟨va, rfl, hl⟩; obtain ⟨Aa, ca, rfl⟩ := Kd.R_slice hl.rr; have HL := Aside0.mk hl; clear hl))
  obtain ⟨N0, hN0⟩ : ∃ n, w4.heap.size = n := ⟨_, rfl⟩
  have hcs : CS w w4 N0 g1 g2 (.slice Aa a.length ca) (.slice none 0 0) a [] ra (initR ctl) := ⟨Kd.R_mono (Kd.R_bound HL.out.rr) (fun k hk => ⟨hk.1.1, by have := blk_lt HN2.out; have := hk.1.2; omega, by have := hk.2.2.1; omega⟩), Kd.R_nil _ _ _ _ _, HL.out.rb, HL.out.keep.blk HN2.out HNE.out.symm (by simp), HL.out.bel, Nat.le_of_eq hN0.symm⟩
  have HC0 := Aside0.mk hcs
  clear hcs HL HN1b HN2 HB3 hN0
  have hcode0 : (0 : Int) = (initR ctl).code := rfl
  go_loopw [11, 12, 13, 14] (fun v11 v12 v13 v14 wr => ∃ (Ab : Option Addr) (cb : Nat) (bl : List S39) (rm : RS) (p i : Int), v11 = .slice Ab bl.length cb ∧ v12 = .int .i64 rm.code ∧ v13 = .int .i64 p ∧ v14 = .int .i64 i ∧ Aside0 (0 ≤ i ∧ i ≤ 200 ∧ 0 ≤ p ∧ p ≤ s.size) ∧ Aside0 (∃ L, Runs (addr (initR ctl) (s.extract 0 p.toNat)) L rm ∧ Eqv L bl) ∧ Aside0 (Inv rm ∧ bl.length + rm.rest.size ≤ p.toNat) ∧ Aside0 (CS w wr N0 g1 g2 (.slice Aa a.length ca) (.slice Ab bl.length cb) a bl ra rm)) (fun _ _ _ v14 _ => (200 - intOf v14).toNat)
  case atStart => exact ⟨none, 0, [], initR ctl, 0, 0, rfl, rfl, rfl, rfl, ⟨by omega⟩, ⟨by rw [show s.extract 0 (0 : Int).toNat = (⟨#[]⟩ : ByteArray) from nil_of_size (by rw [ByteArray.size_extract]; simp)]; exact ⟨[], runs_stop0 ctl, Eqv.rfl' _⟩⟩, ⟨inv_init ctl, Nat.le_refl _⟩, HC0⟩
  case round =>
    clear HC0 hcode0
    obtain ⟨Ab, cb, bl, rm, p, i, rfl, rfl, rfl, rfl, HI, HD, HMI0, HC⟩ := hrel
    have hi0 := HI.out.1
    have hp0 := HI.out.2.2.1
    have hp1 := HI.out.2.2.2
    have q0 := eq_true hp0
    have q1 := eq_true hp1
    have HMI := Aside0.mk HMI0.out.1
    have hsplit : s.extract 0 p.toNat ++ s.extract p.toNat s.size = s := by rw [ByteArray.extract_append_extract]; simp
    obtain ⟨dc, hdc⟩ : ∃ d, rm.code = d := ⟨_, rfl⟩
    rw [hdc]
    have HDC := Aside0.mk hdc
    clear hdc
    by_cases c1 : i < (xs.length : Int)
    rotate_left
    · have K1 : decide (i < (xs.length : Int)) = false := decide_eq_false c1
      clear c1
      by_cases hz : dc = 0
      · subst hz
        obtain ⟨L, hL, heq⟩ := HD.out
        obtain ⟨l2, r2, hd2⟩ := runs_all _ (addr rm (s.extract p.toNat s.size)) (inv_addr HMI.out _) (Nat.le_refl _)
        have h2 := runs_inv hd2 (inv_addr HMI.out _)
        have hrz : (addr rm (s.extract p.toNat s.size)).rest.size = rm.rest.size + (s.size - p.toNat) := by show (rm.rest ++ s.extract p.toNat s.size).size = _; rw [ByteArray.size_append, ByteArray.size_extract]; omega
        have hz2 : rm.rest.size + (s.extract p.toNat s.size).size ≤ 100000 := by have h1 := HMI0.out.2; have h3 := HSZ.out; rw [ByteArray.size_extract]; omega
        rw [hrz] at h2
        have hln : bl.length + l2.length ≤ 100000 := by have h1 := HMI0.out.2; have h3 := HSZ.out; omega
        obtain ⟨l3, hr3, he3⟩ := runs_app hL (inv_addr (inv_init ctl) _) HDC.out (s.extract p.toNat s.size) l2 r2 hd2
        rw [addr_addr, hsplit] at hr3
        obtain ⟨ea, eb⟩ := runs_det HDA.out hr3
        subst eb
        have HEQ0 := Aside0.mk (show Jn [] a = Jn [] (bl ++ l2) by rw [ea]; exact (he3.trans (heq.app (Eqv.rfl' _))) [])
        have HM0 := Aside0.mk (show rm.code = 0 from HDC.out)
        have HD2 := Aside0.mk (show Runs { rm with rest := rm.rest ++ s.extract p.toNat s.size } l2 ra from hd2)
        have HZ2 := Aside0.mk hz2
        have HLN := Aside0.mk hln
        clear hL heq hd2 h2 hrz hz2 hln hr3 he3 ea hi0 hp0 hp1 hsplit
        go_wp2_with (first | (go_at_call 15; (with_reducible refine (feed_c g2 rm (s.extract p.toNat s.size) l2 ra w _ HC.out.b2 HG2.out HC.out.bel HT.out HM0.out HMI.out HD2.out HZ2.out).mono ?_); rintro e_ w5 ⟨vx, rfl, hl⟩; obtain ⟨Ax, cx, rfl⟩ := Kd.R_slice hl.rr; have HC5 := Aside0.mk (HC.out.fed hl HNE.out); have HL5 := Aside0.mk hl; clear hl) | ((with_reducible refine gate_builtin (b := .append) (xs := #[.tmp 94, .tmp 95]) rfl ?_); at_builtin; refine Kd.R_append_rows k39 (w0 := w) w.heap.size rfl (.tmp 94) (.tmp 95) 33 39 (.agg #[.int .i64 0, .string (⟨#[]⟩ : ByteArray)]) 24 rfl Tryd.underlying33 info39_ rfl (by decide) (by omega) (.slice Ab bl.length cb) bl l2 _ _ _ (fun k => k ≠ g1 ∧ k ≠ g2 ∧ N0 ≤ k) (fun _ => False) rfl rfl HC5.out.rb (Kd.R_reads' HL5.out.rr).2.2 (fun _ _ h => h) (fun _ h => h.elim) ?aF HC5.out.bel ?aS ?aL ?_; (case aF => exact fun k hk => ⟨by have := blk_lt HC5.out.b1; omega, by have := blk_lt HC5.out.b2; omega, Nat.le_trans HC5.out.n0 hk⟩); (case aS => exact HC5.out.bel.size); (case aL => have := HLN.out; omega); intro v6 w6 hR6 hB6 hg6 hat; obtain ⟨bq, hbq⟩ : ∃ q, bl ++ l2 = q := ⟨_, rfl⟩; rw [hbq] at hR6; obtain ⟨Ab2, cb2, rfl⟩ := Kd.R_slice hR6; have HBQ := Aside0.mk hbq; have HC6 := Aside0.mk (HC5.out.app hR6 hB6 hg6); clear hR6 hB6 hg6 hat hbq))
        have HEQ := Aside0.mk (show Jn [] a = Jn [] bq by rw [← HBQ.out]; exact HEQ0.out)
        have HEN := Aside0.mk (show endc ra = endc ra from rfl)
        have HBL := Aside0.mk (show bq.length ≤ 100000 by rw [← HBQ.out, List.length_append]; exact HLN.out)
        clear HEQ0 HBQ HLN HC5 HL5
        obtain ⟨wb, hwb⟩ : ∃ x, x = w6 := ⟨_, rfl⟩
        subst hwb
        have HX := HC6
        have HCa := Aside0.mk (Kd.R_reads' HX.out.ra).2.2
        have HCb0 := Aside0.mk (Kd.R_reads' HX.out.rb).2.2
        obtain ⟨J, hJ⟩ : ∃ j, Jn [] a = j := ⟨_, rfl⟩
        have HJa := Aside0.mk hJ
        have HJb := Aside0.mk (show Jn [] bq = J by rw [← hJ]; exact HEQ.out.symm)
        have HJL := Aside0.mk (show J.length ≤ 3000 by have h1 := Jn_len a []; rw [hJ] at h1; have h2 := HAL.out; simp at h1; omega)
        have HBL3 := Aside0.mk (show (catEv bq).size ≤ 100000 by have h1 := catEv_Jn bq []; have h2 := catEv_Jn a []; rw [HJb.out] at h1; rw [hJ] at h2; have h3 := HAL.out.2; have h4 : (catEv []) ++ catEv bq = catEv bq := nil_app _; have h5 : (catEv []) ++ catEv a = catEv a := nil_app _; rw [h4] at h1; rw [h5] at h2; rw [← h1, h2]; omega)
        clear hJ
        obtain ⟨en, hen⟩ : ∃ x, endc ra = x := ⟨_, rfl⟩
        have HV1 := Aside0.mk hen
        have HV2 := Aside0.mk (show endc ra = en by rw [← hen]; first | done | exact HEN.out.symm)
        clear hen
        go_loopw [20, 22] (fun vp vi wr2 => ∃ (Ap : Option Addr) (cp : Nat) (o : List S39) (k : Int), vp = .slice Ap o.length cp ∧ vi = .int .i64 k ∧ Aside0 (0 ≤ k ∧ k ≤ a.length ∧ o = a.take k.toNat ∧ o.length = k.toNat) ∧ Aside0 (Kd.R k39 40 wr2 wb.heap.size (fun k => wb.heap.size ≤ k) (.slice Ap o.length cp) o) ∧ Aside0 (Below wb.heap.size wb wr2)) (fun _ vi _ => ((a.length : Int) - intOf vi).toNat)
        case atStart => exact ⟨none, 0, [], 0, rfl, rfl, ⟨by omega, by omega, rfl, rfl⟩, ⟨Kd.R_nil _ _ _ _ _⟩, ⟨Below.refl _ _⟩⟩
        case round =>
          obtain ⟨Ap, cp, o, k, rfl, rfl, HK, HRp, HBp⟩ := hrel
          have k0 := HK.out.1
          by_cases d1 : k < (a.length : Int)
          rotate_left
          · have M1 : decide (k < (a.length : Int)) = false := decide_eq_false d1
            have ho : a = o := by rw [HK.out.2.2.1, List.take_of_length_le (by have := HK.out; omega)]
            subst ho
            clear d1 k0
            obtain ⟨w10, hw10⟩ : ∃ x, x = wr := ⟨_, rfl⟩
            subst hw10
            have HPc0 := Aside0.mk (Kd.R_reads' HRp.out).2.2
            have HCb := Aside0.mk (Kd.C_below HCb0.out HBp.out)
            have HEa0 := Aside0.mk (blk_below HX.out.b1 HBp.out)
            have HEb0 := Aside0.mk (blk_below HX.out.b2 HBp.out)
            have HBall0 := Aside0.mk (below_step HX.out.bel HBp.out)
            clear HRp HBp HCb0
            obtain ⟨Apa, hApa⟩ : ∃ x, x = Ap := ⟨_, rfl⟩
            obtain ⟨cpa, hcpa⟩ : ∃ x, x = cp := ⟨_, rfl⟩
            subst hApa hcpa
            clear HK
            go_wp2_with (fail)
            go_loopw [21, 23] (fun vp vi wr2 => ∃ (Ap : Option Addr) (cp : Nat) (o : List S39) (k : Int), vp = .slice Ap o.length cp ∧ vi = .int .i64 k ∧ Aside0 (0 ≤ k ∧ k ≤ bq.length ∧ o = bq.take k.toNat ∧ o.length = k.toNat) ∧ Aside0 (Kd.R k39 40 wr2 w10.heap.size (fun k => w10.heap.size ≤ k) (.slice Ap o.length cp) o) ∧ Aside0 (Below w10.heap.size w10 wr2)) (fun _ vi _ => ((bq.length : Int) - intOf vi).toNat)
            case atStart => exact ⟨none, 0, [], 0, rfl, rfl, ⟨by omega, by omega, rfl, rfl⟩, ⟨Kd.R_nil _ _ _ _ _⟩, ⟨Below.refl _ _⟩⟩
            case round =>
              obtain ⟨Ap, cp, o, k, rfl, rfl, HK, HRp, HBp⟩ := hrel
              have k0 := HK.out.1
              by_cases d1 : k < (bq.length : Int)
              rotate_left
              · have M1 : decide (k < (bq.length : Int)) = false := decide_eq_false d1
                have ho : bq = o := by rw [HK.out.2.2.1, List.take_of_length_le (by have := HK.out; omega)]
                subst ho
                clear d1 k0
                have HQc := Aside0.mk (Kd.R_reads' HRp.out).2.2
                have HPc := Aside0.mk (Kd.C_below HPc0.out HBp.out)
                have HEa := Aside0.mk (blk_below HEa0.out HBp.out)
                have HEb := Aside0.mk (blk_below HEb0.out HBp.out)
                have HBall := Aside0.mk (below_step HBall0.out HBp.out)
                clear HPc0 HEa0 HEb0 HBall0
                go_wp2_with (first | (go_at_call 16; (with_reducible refine (joined_c Apa cpa a _ HPc.out (Nat.le_trans HAL.out.1 (by omega)) (Nat.le_trans HAL.out.2 (by omega))).mono ?_); rw [HJa.out]; rintro e_ w12 ⟨vj, rfl, hR, hb⟩; obtain ⟨Aj, cj, rfl⟩ := Kd.R_slice hR; have HJ1 := Aside0.mk (Kd.R_reads' hR).2.2; have HJ1b := Aside0.mk hb; clear hR hb) | (go_at_call 16; (with_reducible refine (joined_c Ap cp bq _ (Kd.C_below HQc.out HJ1b.out) HBL.out HBL3.out).mono ?_); rw [HJb.out]; rintro e_ w13 ⟨vj2, rfl, hR, hb⟩; obtain ⟨Aj2, cj2, rfl⟩ := Kd.R_slice hR; have HTJ := Aside0.mk (show TwoJ w w13 Aj Aj2 cj cj2 J from ⟨Kd.C_below HJ1.out hb, (Kd.R_reads' hR).2.2, below_step (below_step HBall.out HJ1b.out) hb⟩); have HE1 := Aside0.mk (blk_below (blk_below HEa.out HJ1b.out) hb); have HE2 := Aside0.mk (blk_below (blk_below HEb.out HJ1b.out) hb); clear hR hb) | (go_at_call 17; (with_reducible refine (end_c g1 _ _ HE1.out).mono ?_); rw [HV1.out]; rintro e_ w14 ⟨rfl, hd_⟩; have n0_ := Aside0.mk (HTJ.out.below (drawn_below hd_)); have n1_ := Aside0.mk (blk_below HE2.out (drawn_below hd_)); clear hd_ HTJ HE2; have HTJ := n0_; have HE2 := n1_; clear n0_ n1_) | (go_at_call 17; (with_reducible refine (end_c g2 _ _ HE2.out).mono ?_); rw [HV2.out]; rintro e_ w14 ⟨rfl, hd_⟩; have n0_ := Aside0.mk (HTJ.out.below (drawn_below hd_)); have n1_ := Aside0.mk (blk_below HE2.out (drawn_below hd_)); clear hd_ HTJ HE2; have HTJ := n0_; have HE2 := n1_; clear n0_ n1_))
                go_loopw [24] (fun v24 wr2 => ∃ k : Int, v24 = .int .i64 k ∧ Aside0 (0 ≤ k ∧ k ≤ J.length) ∧ Aside0 (TwoJ w wr2 Aj Aj2 cj cj2 J)) (fun v24 _ => ((J.length : Int) - intOf v24).toNat)
                case atStart => exact ⟨0, rfl, ⟨by omega⟩, HTJ⟩
                case round =>
                  clear HTJ
                  obtain ⟨k, rfl, HKK, HQ⟩ := hrel
                  have k0 := HKK.out.1
                  by_cases d1 : k < (J.length : Int)
                  rotate_left
                  · have M1 : decide (k < (J.length : Int)) = false := decide_eq_false d1
                    clear d1 k0
                    go_wp2_with (fail)
                    go_ret
                    exact ⟨rfl, HQ.out.bel⟩
                  have M1 : decide (k < (J.length : Int)) = true := decide_eq_true d1
                  have hdr := HQ.out.below (below_drew1 (Below.refl _ _))
                  obtain ⟨ad1, hA1, rowsx⟩ := crow_at hdr.ra k k0 d1
                  obtain ⟨ad2, hA2, rowsy⟩ := crow_at hdr.rb k k0 d1
                  obtain ⟨x0, x1⟩ := rowsx _ (Below.refl _ _)
                  obtain ⟨y0, y1⟩ := rowsy _ (Below.refl _ _)
                  clear rowsx rowsy
                  generalize (J.getD k.toNat z39).f0 = e0 at x0 y0
                  generalize (J.getD k.toNat z39).f1 = e1 at x1 y1
                  subst hA1 hA2
                  have r0 := eq_true k0
                  have r1 := eq_true d1
                  have hv1 : wrap64 (k + 1) = k + 1 := by have := HJL.out; unfold wrap64; omega
                  have hv2 : IntKind.i64.wrap (k + 1) = k + 1 := (i64_w _).trans hv1
                  have HKD := Aside0.mk (And.intro k0 d1)
                  have HQD := Aside0.mk hdr
                  clear d1 k0 hdr
                  go_wp2_with (fail)
                  refine wp_region_still_lit (by kernel_rfl) (by kernel_rfl) ?_
                  change wpStill _ _ (World.drew _) (fun a' => _) _ _
                  repeat (first | still_step)
                  refine wpStill_nil ?_
                  go_wp2_with (fail)
                  go_roundw
                  case rel => exact ⟨k + 1, rfl, ⟨by have := HKD.out; omega⟩, HQD⟩
                  case measure => have := HKD.out; simp [intOf]; omega
              have M1 : decide (k < (bq.length : Int)) = true := decide_eq_true d1
              obtain ⟨ad, hA, rows⟩ := crow_at HCb.out k k0 d1
              subst hA
              have htk := take_snoc bq k.toNat (by omega)
              obtain ⟨x0, x1⟩ := rows wr.drew (below_drew1 HBp.out)
              generalize bq.getD k.toNat z39 = x at x0 x1 htk rows
              obtain ⟨kk, dd⟩ := x
              dsimp only at x0 x1 rows
              have hnx : bq.take (k + 1).toNat = o ++ [⟨kk, dd⟩] := by rw [show (k + 1).toNat = k.toNat + 1 by omega, htk, ← HK.out.2.2.1]
              have r0 := eq_true k0
              have r1 := eq_true d1
              have hv1 : wrap64 (k + 1) = k + 1 := by have := HBL.out; unfold wrap64; omega
              have hv2 : IntKind.i64.wrap (k + 1) = k + 1 := (i64_w _).trans hv1
              have HKD := Aside0.mk (And.intro k0 d1)
              have HNX := Aside0.mk hnx
              have HRd := Aside0.mk (Kd.R_drew HRp.out)
              have HBd := Aside0.mk (below_drew1 HBp.out)
              have HROWS := Aside0.mk rows
              clear d1 k0 htk hnx rows
              go_wp2_with (fail)
              refine Calm.wp_region_calmC [(5, fun w_ => w_.cell? (ad.add (k.toNat * 2)) = some (.int .i64 kk)), (10, fun w_ => w_.cell? ⟨(ad.add (k.toNat * 2)).block, (ad.add (k.toNat * 2)).off + 1, none⟩ = some (.string dd))] [0, 1, 2, 3, 4, 5, 6, 7, 8, 9, 10, 11] [12, 13, 14] (by kernel_rfl) (by kernel_rfl) (Calm.allC_cons (by exact x0) (Calm.allC_cons (by exact x1) Calm.allC_nil)) ?_
              repeat (first
                | (refine Calm.g_value (v := ?_) (a' := ?_) rfl rfl (by rfl) ?_ ?_ ?_; rotate_left; (· rintro w' hS'; (try simp only [Calm.SC_cons, Calm.SC_nil, Nat.reduceEqDiff, forall_const, false_implies, and_true, true_and] at hS'); (try obtain ⟨hS1, hS2⟩ := hS'); go_simp; with_reducible rfl); rotate_left; (· simp only [Act.put, List.setIfInBounds_toArray, List.set_cons_zero, List.set_cons_succ, i64_w, i32_w]; rfl)))
              refine Calm.g_nil ?_
              refine Calm.c_value (v := ?_) (w1 := ?_) (a' := ?_) rfl rfl (by rfl) ?_ ?_ ?_ ?_
              rotate_left
              rotate_left
              · go_simp; first | (refine And.intro ?_ ?_ <;> rfl) | rfl
              · repeat (first | exact Calm.okC_nil | (refine Calm.okC_cons (Or.inl (by decide +kernel)) ?_) | (refine Calm.okC_cons (Or.inr (by (first | assumption | (go_simp; done)))) ?_))
              rotate_left
              · simp only [Act.put, List.setIfInBounds_toArray, List.set_cons_zero, List.set_cons_succ, i64_w, i32_w]; rfl
              refine Calm.c_law rfl ?_
              refine Kd.R_append_step k39 (w0 := w10) w10.heap.size (by rfl) (.tmp 124) (.tmp 136) 37 40 (.agg #[.int .i64 0, .string (⟨#[]⟩ : ByteArray)]) 24 rfl Tryd.underlying37 info40_ rfl (by decide) (by omega) (.slice Ap o.length cp) o ⟨kk, dd⟩ [.int .i64 kk, .string dd] (fun k => w10.heap.size ≤ k) (fun _ => False) rfl rfl ?aP (fun _ hk => hk.elim) ?aF HRd.out HBd.out ?aS ?aL ?_
              case aP => exact k39_mkM _ _ _ _
              case aF => exact fun k hk => Nat.le_trans HBd.out.size hk
              case aS => exact HBd.out.size
              case aL => have h1_ := HKD.out; have h2_ := HK.out; have h3_ := HBL.out; omega
              intro v6 w6 hR6 hB6 hg6 hat
              obtain ⟨A6, cp6, rfl⟩ := Kd.R_slice hR6
              have HR6 := Aside0.mk hR6
              have HB6 := Aside0.mk hB6
              clear hR6 hB6 hg6 hat
              refine And.intro ?_ ?_
              · repeat (first | exact Calm.okC_nil | (refine Calm.okC_cons (Or.inl (by decide +kernel)) ?_) | (refine Calm.okC_cons (Or.inr (by (first | assumption | (go_simp; done)))) ?_))
              refine Calm.put_dst (a' := ?_) rfl ?_ ?_
              rotate_left
              · simp only [Act.put, List.setIfInBounds_toArray, List.set_cons_zero, List.set_cons_succ, i64_w, i32_w]; rfl
              refine Calm.c_value (v := ?_) (w1 := ?_) (a' := ?_) rfl rfl (by rfl) ?_ ?_ ?_ ?_
              rotate_left
              rotate_left
              · go_simp; first | (refine And.intro ?_ ?_ <;> rfl) | rfl
              · repeat (first | exact Calm.okC_nil | (refine Calm.okC_cons (Or.inl (by decide +kernel)) ?_) | (refine Calm.okC_cons (Or.inr (by (first | assumption | (go_simp; done)))) ?_))
              rotate_left
              · simp only [Act.put, List.setIfInBounds_toArray, List.set_cons_zero, List.set_cons_succ, i64_w, i32_w]; rfl
              refine Calm.h_nil ?_
              simp only [Exit.inBlock, Exit.then]
              go_wp2_with (fail)
              go_roundw
              case rel => exact ⟨A6, cp6, o ++ [⟨kk, dd⟩], k + 1, by rw [List.length_append]; rfl, rfl, ⟨by have := HKD.out; omega, by have := HKD.out; omega, HNX.out.symm, by have := HKD.out; have h2_ := HK.out; rw [List.length_append]; simp; omega⟩, HR6, HB6⟩
              case measure => have := HKD.out; simp [intOf]; omega
          have M1 : decide (k < (a.length : Int)) = true := decide_eq_true d1
          obtain ⟨ad, hA, rows⟩ := crow_at HCa.out k k0 d1
          subst hA
          have htk := take_snoc a k.toNat (by omega)
          obtain ⟨x0, x1⟩ := rows wr.drew (below_drew1 HBp.out)
          generalize a.getD k.toNat z39 = x at x0 x1 htk rows
          obtain ⟨kk, dd⟩ := x
          dsimp only at x0 x1 rows
          have hnx : a.take (k + 1).toNat = o ++ [⟨kk, dd⟩] := by rw [show (k + 1).toNat = k.toNat + 1 by omega, htk, ← HK.out.2.2.1]
          have r0 := eq_true k0
          have r1 := eq_true d1
          have hv1 : wrap64 (k + 1) = k + 1 := by have := HAL.out.1; unfold wrap64; omega
          have hv2 : IntKind.i64.wrap (k + 1) = k + 1 := (i64_w _).trans hv1
          have HKD := Aside0.mk (And.intro k0 d1)
          have HNX := Aside0.mk hnx
          have HRd := Aside0.mk (Kd.R_drew HRp.out)
          have HBd := Aside0.mk (below_drew1 HBp.out)
          have HROWS := Aside0.mk rows
          clear d1 k0 htk hnx rows
          go_wp2_with (fail)
          refine Calm.wp_region_calmC [(5, fun w_ => w_.cell? (ad.add (k.toNat * 2)) = some (.int .i64 kk)), (10, fun w_ => w_.cell? ⟨(ad.add (k.toNat * 2)).block, (ad.add (k.toNat * 2)).off + 1, none⟩ = some (.string dd))] [0, 1, 2, 3, 4, 5, 6, 7, 8, 9, 10, 11] [12, 13, 14] (by kernel_rfl) (by kernel_rfl) (Calm.allC_cons (by exact x0) (Calm.allC_cons (by exact x1) Calm.allC_nil)) ?_
          repeat (first
            | (refine Calm.g_value (v := ?_) (a' := ?_) rfl rfl (by rfl) ?_ ?_ ?_; rotate_left; (· rintro w' hS'; (try simp only [Calm.SC_cons, Calm.SC_nil, Nat.reduceEqDiff, forall_const, false_implies, and_true, true_and] at hS'); (try obtain ⟨hS1, hS2⟩ := hS'); go_simp; with_reducible rfl); rotate_left; (· simp only [Act.put, List.setIfInBounds_toArray, List.set_cons_zero, List.set_cons_succ, i64_w, i32_w]; rfl)))
          refine Calm.g_nil ?_
          refine Calm.c_value (v := ?_) (w1 := ?_) (a' := ?_) rfl rfl (by rfl) ?_ ?_ ?_ ?_
          rotate_left
          rotate_left
          · go_simp; first | (refine And.intro ?_ ?_ <;> rfl) | rfl
          · repeat (first | exact Calm.okC_nil | (refine Calm.okC_cons (Or.inl (by decide +kernel)) ?_) | (refine Calm.okC_cons (Or.inr (by (first | assumption | (go_simp; done)))) ?_))
          rotate_left
          · simp only [Act.put, List.setIfInBounds_toArray, List.set_cons_zero, List.set_cons_succ, i64_w, i32_w]; rfl
          refine Calm.c_law rfl ?_
          refine Kd.R_append_step k39 (w0 := wb) wb.heap.size (by rfl) (.tmp 104) (.tmp 116) 37 40 (.agg #[.int .i64 0, .string (⟨#[]⟩ : ByteArray)]) 24 rfl Tryd.underlying37 info40_ rfl (by decide) (by omega) (.slice Ap o.length cp) o ⟨kk, dd⟩ [.int .i64 kk, .string dd] (fun k => wb.heap.size ≤ k) (fun _ => False) rfl rfl ?aP (fun _ hk => hk.elim) ?aF HRd.out HBd.out ?aS ?aL ?_
          case aP => exact k39_mkM _ _ _ _
          case aF => exact fun k hk => Nat.le_trans HBd.out.size hk
          case aS => exact HBd.out.size
          case aL => have h1_ := HKD.out; have h2_ := HK.out; have h3_ := HAL.out.1; omega
          intro v6 w6 hR6 hB6 hg6 hat
          obtain ⟨A6, cp6, rfl⟩ := Kd.R_slice hR6
          have HR6 := Aside0.mk hR6
          have HB6 := Aside0.mk hB6
          clear hR6 hB6 hg6 hat
          refine And.intro ?_ ?_
          · repeat (first | exact Calm.okC_nil | (refine Calm.okC_cons (Or.inl (by decide +kernel)) ?_) | (refine Calm.okC_cons (Or.inr (by (first | assumption | (go_simp; done)))) ?_))
          refine Calm.put_dst (a' := ?_) rfl ?_ ?_
          rotate_left
          · simp only [Act.put, List.setIfInBounds_toArray, List.set_cons_zero, List.set_cons_succ, i64_w, i32_w]; rfl
          refine Calm.c_value (v := ?_) (w1 := ?_) (a' := ?_) rfl rfl (by rfl) ?_ ?_ ?_ ?_
          rotate_left
          rotate_left
          · go_simp; first | (refine And.intro ?_ ?_ <;> rfl) | rfl
          · repeat (first | exact Calm.okC_nil | (refine Calm.okC_cons (Or.inl (by decide +kernel)) ?_) | (refine Calm.okC_cons (Or.inr (by (first | assumption | (go_simp; done)))) ?_))
          rotate_left
          · simp only [Act.put, List.setIfInBounds_toArray, List.set_cons_zero, List.set_cons_succ, i64_w, i32_w]; rfl
          refine Calm.h_nil ?_
          simp only [Exit.inBlock, Exit.then]
          go_wp2_with (fail)
          go_roundw
          case rel => exact ⟨A6, cp6, o ++ [⟨kk, dd⟩], k + 1, by rw [List.length_append]; rfl, rfl, ⟨by have := HKD.out; omega, by have := HKD.out; omega, HNX.out.symm, by have := HKD.out; have h2_ := HK.out; rw [List.length_append]; simp; omega⟩, HR6, HB6⟩
          case measure => have := HKD.out; simp [intOf]; omega
      obtain ⟨L, hL, heq⟩ := HD.out
      obtain ⟨r'', hr'', hcd⟩ := runs_fault hL (inv_addr (inv_init ctl) _) rfl (by rw [HDC.out]; exact hz) (s.extract p.toNat s.size)
      rw [addr_addr, hsplit] at hr''
      obtain ⟨ea, eb⟩ := runs_det HDA.out hr''
      have hcc : ra.code = dc := by rw [eb, hcd]; exact HDC.out
      obtain ⟨bq, hbq⟩ : ∃ q, bl = q := ⟨_, rfl⟩
      subst hbq
      have HEQ := Aside0.mk (show Jn [] a = Jn [] bl by rw [ea]; exact heq [])
      have HEN := Aside0.mk (show endc ra = endc rm by rw [endc_code (by rw [hcc]; exact hz), endc_code (by rw [HDC.out]; exact hz), hcc]; exact HDC.out.symm)
      have HBL := Aside0.mk (show bl.length ≤ 100000 by have := HMI0.out.2; have := HSZ.out; omega)
      have E0 : (dc == 0) = false := beq_eq_false_iff_ne.mpr hz
      have E1 : (dc != 0) = true := bne_iff_ne.mpr hz
      clear hL heq hr'' hcd ea eb hi0 hp0 hp1 hsplit hz
      have E2 : (ra.code != dc) = false := by rw [hcc]; simp
      go_wp2_with (fail)
      obtain ⟨wb, hwb⟩ : ∃ x, x = wr := ⟨_, rfl⟩
      subst hwb
      have HX := HC
      have HCa := Aside0.mk (Kd.R_reads' HX.out.ra).2.2
      have HCb0 := Aside0.mk (Kd.R_reads' HX.out.rb).2.2
      obtain ⟨J, hJ⟩ : ∃ j, Jn [] a = j := ⟨_, rfl⟩
      have HJa := Aside0.mk hJ
      have HJb := Aside0.mk (show Jn [] bl = J by rw [← hJ]; exact HEQ.out.symm)
      have HJL := Aside0.mk (show J.length ≤ 3000 by have h1 := Jn_len a []; rw [hJ] at h1; have h2 := HAL.out; simp at h1; omega)
      have HBL3 := Aside0.mk (show (catEv bl).size ≤ 100000 by have h1 := catEv_Jn bl []; have h2 := catEv_Jn a []; rw [HJb.out] at h1; rw [hJ] at h2; have h3 := HAL.out.2; have h4 : (catEv []) ++ catEv bl = catEv bl := nil_app _; have h5 : (catEv []) ++ catEv a = catEv a := nil_app _; rw [h4] at h1; rw [h5] at h2; rw [← h1, h2]; omega)
      clear hJ
      obtain ⟨en, hen⟩ : ∃ x, endc ra = x := ⟨_, rfl⟩
      have HV1 := Aside0.mk hen
      have HV2 := Aside0.mk (show endc rm = en by rw [← hen]; first | done | exact HEN.out.symm)
      clear hen
      go_loopw [20, 22] (fun vp vi wr2 => ∃ (Ap : Option Addr) (cp : Nat) (o : List S39) (k : Int), vp = .slice Ap o.length cp ∧ vi = .int .i64 k ∧ Aside0 (0 ≤ k ∧ k ≤ a.length ∧ o = a.take k.toNat ∧ o.length = k.toNat) ∧ Aside0 (Kd.R k39 40 wr2 wb.heap.size (fun k => wb.heap.size ≤ k) (.slice Ap o.length cp) o) ∧ Aside0 (Below wb.heap.size wb wr2)) (fun _ vi _ => ((a.length : Int) - intOf vi).toNat)
      case atStart => exact ⟨none, 0, [], 0, rfl, rfl, ⟨by omega, by omega, rfl, rfl⟩, ⟨Kd.R_nil _ _ _ _ _⟩, ⟨Below.refl _ _⟩⟩
      case round =>
        obtain ⟨Ap, cp, o, k, rfl, rfl, HK, HRp, HBp⟩ := hrel
        have k0 := HK.out.1
        by_cases d1 : k < (a.length : Int)
        rotate_left
        · have M1 : decide (k < (a.length : Int)) = false := decide_eq_false d1
          have ho : a = o := by rw [HK.out.2.2.1, List.take_of_length_le (by have := HK.out; omega)]
          subst ho
          clear d1 k0
          obtain ⟨w10, hw10⟩ : ∃ x, x = wr := ⟨_, rfl⟩
          subst hw10
          have HPc0 := Aside0.mk (Kd.R_reads' HRp.out).2.2
          have HCb := Aside0.mk (Kd.C_below HCb0.out HBp.out)
          have HEa0 := Aside0.mk (blk_below HX.out.b1 HBp.out)
          have HEb0 := Aside0.mk (blk_below HX.out.b2 HBp.out)
          have HBall0 := Aside0.mk (below_step HX.out.bel HBp.out)
          clear HRp HBp HCb0
          obtain ⟨Apa, hApa⟩ : ∃ x, x = Ap := ⟨_, rfl⟩
          obtain ⟨cpa, hcpa⟩ : ∃ x, x = cp := ⟨_, rfl⟩
          subst hApa hcpa
          clear HK
          go_wp2_with (fail)
          go_loopw [21, 23] (fun vp vi wr2 => ∃ (Ap : Option Addr) (cp : Nat) (o : List S39) (k : Int), vp = .slice Ap o.length cp ∧ vi = .int .i64 k ∧ Aside0 (0 ≤ k ∧ k ≤ bl.length ∧ o = bl.take k.toNat ∧ o.length = k.toNat) ∧ Aside0 (Kd.R k39 40 wr2 w10.heap.size (fun k => w10.heap.size ≤ k) (.slice Ap o.length cp) o) ∧ Aside0 (Below w10.heap.size w10 wr2)) (fun _ vi _ => ((bl.length : Int) - intOf vi).toNat)
          case atStart => exact ⟨none, 0, [], 0, rfl, rfl, ⟨by omega, by omega, rfl, rfl⟩, ⟨Kd.R_nil _ _ _ _ _⟩, ⟨Below.refl _ _⟩⟩
          case round =>
            obtain ⟨Ap, cp, o, k, rfl, rfl, HK, HRp, HBp⟩ := hrel
            have k0 := HK.out.1
            by_cases d1 : k < (bl.length : Int)
            rotate_left
            · have M1 : decide (k < (bl.length : Int)) = false := decide_eq_false d1
              have ho : bl = o := by rw [HK.out.2.2.1, List.take_of_length_le (by have := HK.out; omega)]
              subst ho
              clear d1 k0
              have HQc := Aside0.mk (Kd.R_reads' HRp.out).2.2
              have HPc := Aside0.mk (Kd.C_below HPc0.out HBp.out)
              have HEa := Aside0.mk (blk_below HEa0.out HBp.out)
              have HEb := Aside0.mk (blk_below HEb0.out HBp.out)
              have HBall := Aside0.mk (below_step HBall0.out HBp.out)
              clear HPc0 HEa0 HEb0 HBall0
              go_wp2_with (first | (go_at_call 16; (with_reducible refine (joined_c Apa cpa a _ HPc.out (Nat.le_trans HAL.out.1 (by omega)) (Nat.le_trans HAL.out.2 (by omega))).mono ?_); rw [HJa.out]; rintro e_ w12 ⟨vj, rfl, hR, hb⟩; obtain ⟨Aj, cj, rfl⟩ := Kd.R_slice hR; have HJ1 := Aside0.mk (Kd.R_reads' hR).2.2; have HJ1b := Aside0.mk hb; clear hR hb) | (go_at_call 16; (with_reducible refine (joined_c Ap cp bl _ (Kd.C_below HQc.out HJ1b.out) HBL.out HBL3.out).mono ?_); rw [HJb.out]; rintro e_ w13 ⟨vj2, rfl, hR, hb⟩; obtain ⟨Aj2, cj2, rfl⟩ := Kd.R_slice hR; have HTJ := Aside0.mk (show TwoJ w w13 Aj Aj2 cj cj2 J from ⟨Kd.C_below HJ1.out hb, (Kd.R_reads' hR).2.2, below_step (below_step HBall.out HJ1b.out) hb⟩); have HE1 := Aside0.mk (blk_below (blk_below HEa.out HJ1b.out) hb); have HE2 := Aside0.mk (blk_below (blk_below HEb.out HJ1b.out) hb); clear hR hb) | (go_at_call 17; (with_reducible refine (end_c g1 _ _ HE1.out).mono ?_); rw [HV1.out]; rintro e_ w14 ⟨rfl, hd_⟩; have n0_ := Aside0.mk (HTJ.out.below (drawn_below hd_)); have n1_ := Aside0.mk (blk_below HE2.out (drawn_below hd_)); clear hd_ HTJ HE2; have HTJ := n0_; have HE2 := n1_; clear n0_ n1_) | (go_at_call 17; (with_reducible refine (end_c g2 _ _ HE2.out).mono ?_); rw [HV2.out]; rintro e_ w14 ⟨rfl, hd_⟩; have n0_ := Aside0.mk (HTJ.out.below (drawn_below hd_)); have n1_ := Aside0.mk (blk_below HE2.out (drawn_below hd_)); clear hd_ HTJ HE2; have HTJ := n0_; have HE2 := n1_; clear n0_ n1_))
              go_loopw [24] (fun v24 wr2 => ∃ k : Int, v24 = .int .i64 k ∧ Aside0 (0 ≤ k ∧ k ≤ J.length) ∧ Aside0 (TwoJ w wr2 Aj Aj2 cj cj2 J)) (fun v24 _ => ((J.length : Int) - intOf v24).toNat)
              case atStart => exact ⟨0, rfl, ⟨by omega⟩, HTJ⟩
              case round =>
                clear HTJ
                obtain ⟨k, rfl, HKK, HQ⟩ := hrel
                have k0 := HKK.out.1
                by_cases d1 : k < (J.length : Int)
                rotate_left
                · have M1 : decide (k < (J.length : Int)) = false := decide_eq_false d1
                  clear d1 k0
                  go_wp2_with (fail)
                  go_ret
                  exact ⟨rfl, HQ.out.bel⟩
                have M1 : decide (k < (J.length : Int)) = true := decide_eq_true d1
                have hdr := HQ.out.below (below_drew1 (Below.refl _ _))
                obtain ⟨ad1, hA1, rowsx⟩ := crow_at hdr.ra k k0 d1
                obtain ⟨ad2, hA2, rowsy⟩ := crow_at hdr.rb k k0 d1
                obtain ⟨x0, x1⟩ := rowsx _ (Below.refl _ _)
                obtain ⟨y0, y1⟩ := rowsy _ (Below.refl _ _)
                clear rowsx rowsy
                generalize (J.getD k.toNat z39).f0 = e0 at x0 y0
                generalize (J.getD k.toNat z39).f1 = e1 at x1 y1
                subst hA1 hA2
                have r0 := eq_true k0
                have r1 := eq_true d1
                have hv1 : wrap64 (k + 1) = k + 1 := by have := HJL.out; unfold wrap64; omega
                have hv2 : IntKind.i64.wrap (k + 1) = k + 1 := (i64_w _).trans hv1
                have HKD := Aside0.mk (And.intro k0 d1)
                have HQD := Aside0.mk hdr
                clear d1 k0 hdr
                go_wp2_with (fail)
                refine wp_region_still_lit (by kernel_rfl) (by kernel_rfl) ?_
                change wpStill _ _ (World.drew _) (fun a' => _) _ _
                repeat (first | still_step)
                refine wpStill_nil ?_
                go_wp2_with (fail)
                go_roundw
                case rel => exact ⟨k + 1, rfl, ⟨by have := HKD.out; omega⟩, HQD⟩
                case measure => have := HKD.out; simp [intOf]; omega
            have M1 : decide (k < (bl.length : Int)) = true := decide_eq_true d1
            obtain ⟨ad, hA, rows⟩ := crow_at HCb.out k k0 d1
            subst hA
            have htk := take_snoc bl k.toNat (by omega)
            obtain ⟨x0, x1⟩ := rows wr.drew (below_drew1 HBp.out)
            generalize bl.getD k.toNat z39 = x at x0 x1 htk rows
            obtain ⟨kk, dd⟩ := x
            dsimp only at x0 x1 rows
            have hnx : bl.take (k + 1).toNat = o ++ [⟨kk, dd⟩] := by rw [show (k + 1).toNat = k.toNat + 1 by omega, htk, ← HK.out.2.2.1]
            have r0 := eq_true k0
            have r1 := eq_true d1
            have hv1 : wrap64 (k + 1) = k + 1 := by have := HBL.out; unfold wrap64; omega
            have hv2 : IntKind.i64.wrap (k + 1) = k + 1 := (i64_w _).trans hv1
            have HKD := Aside0.mk (And.intro k0 d1)
            have HNX := Aside0.mk hnx
            have HRd := Aside0.mk (Kd.R_drew HRp.out)
            have HBd := Aside0.mk (below_drew1 HBp.out)
            have HROWS := Aside0.mk rows
            clear d1 k0 htk hnx rows
            go_wp2_with (fail)
            refine Calm.wp_region_calmC [(5, fun w_ => w_.cell? (ad.add (k.toNat * 2)) = some (.int .i64 kk)), (10, fun w_ => w_.cell? ⟨(ad.add (k.toNat * 2)).block, (ad.add (k.toNat * 2)).off + 1, none⟩ = some (.string dd))] [0, 1, 2, 3, 4, 5, 6, 7, 8, 9, 10, 11] [12, 13, 14] (by kernel_rfl) (by kernel_rfl) (Calm.allC_cons (by exact x0) (Calm.allC_cons (by exact x1) Calm.allC_nil)) ?_
            repeat (first
              | (refine Calm.g_value (v := ?_) (a' := ?_) rfl rfl (by rfl) ?_ ?_ ?_; rotate_left; (· rintro w' hS'; (try simp only [Calm.SC_cons, Calm.SC_nil, Nat.reduceEqDiff, forall_const, false_implies, and_true, true_and] at hS'); (try obtain ⟨hS1, hS2⟩ := hS'); go_simp; with_reducible rfl); rotate_left; (· simp only [Act.put, List.setIfInBounds_toArray, List.set_cons_zero, List.set_cons_succ, i64_w, i32_w]; rfl)))
            refine Calm.g_nil ?_
            refine Calm.c_value (v := ?_) (w1 := ?_) (a' := ?_) rfl rfl (by rfl) ?_ ?_ ?_ ?_
            rotate_left
            rotate_left
            · go_simp; first | (refine And.intro ?_ ?_ <;> rfl) | rfl
            · repeat (first | exact Calm.okC_nil | (refine Calm.okC_cons (Or.inl (by decide +kernel)) ?_) | (refine Calm.okC_cons (Or.inr (by (first | assumption | (go_simp; done)))) ?_))
            rotate_left
            · simp only [Act.put, List.setIfInBounds_toArray, List.set_cons_zero, List.set_cons_succ, i64_w, i32_w]; rfl
            refine Calm.c_law rfl ?_
            refine Kd.R_append_step k39 (w0 := w10) w10.heap.size (by rfl) (.tmp 124) (.tmp 136) 37 40 (.agg #[.int .i64 0, .string (⟨#[]⟩ : ByteArray)]) 24 rfl Tryd.underlying37 info40_ rfl (by decide) (by omega) (.slice Ap o.length cp) o ⟨kk, dd⟩ [.int .i64 kk, .string dd] (fun k => w10.heap.size ≤ k) (fun _ => False) rfl rfl ?aP (fun _ hk => hk.elim) ?aF HRd.out HBd.out ?aS ?aL ?_
            case aP => exact k39_mkM _ _ _ _
            case aF => exact fun k hk => Nat.le_trans HBd.out.size hk
            case aS => exact HBd.out.size
            case aL => have h1_ := HKD.out; have h2_ := HK.out; have h3_ := HBL.out; omega
            intro v6 w6 hR6 hB6 hg6 hat
            obtain ⟨A6, cp6, rfl⟩ := Kd.R_slice hR6
            have HR6 := Aside0.mk hR6
            have HB6 := Aside0.mk hB6
            clear hR6 hB6 hg6 hat
            refine And.intro ?_ ?_
            · repeat (first | exact Calm.okC_nil | (refine Calm.okC_cons (Or.inl (by decide +kernel)) ?_) | (refine Calm.okC_cons (Or.inr (by (first | assumption | (go_simp; done)))) ?_))
            refine Calm.put_dst (a' := ?_) rfl ?_ ?_
            rotate_left
            · simp only [Act.put, List.setIfInBounds_toArray, List.set_cons_zero, List.set_cons_succ, i64_w, i32_w]; rfl
            refine Calm.c_value (v := ?_) (w1 := ?_) (a' := ?_) rfl rfl (by rfl) ?_ ?_ ?_ ?_
            rotate_left
            rotate_left
            · go_simp; first | (refine And.intro ?_ ?_ <;> rfl) | rfl
            · repeat (first | exact Calm.okC_nil | (refine Calm.okC_cons (Or.inl (by decide +kernel)) ?_) | (refine Calm.okC_cons (Or.inr (by (first | assumption | (go_simp; done)))) ?_))
            rotate_left
            · simp only [Act.put, List.setIfInBounds_toArray, List.set_cons_zero, List.set_cons_succ, i64_w, i32_w]; rfl
            refine Calm.h_nil ?_
            simp only [Exit.inBlock, Exit.then]
            go_wp2_with (fail)
            go_roundw
            case rel => exact ⟨A6, cp6, o ++ [⟨kk, dd⟩], k + 1, by rw [List.length_append]; rfl, rfl, ⟨by have := HKD.out; omega, by have := HKD.out; omega, HNX.out.symm, by have := HKD.out; have h2_ := HK.out; rw [List.length_append]; simp; omega⟩, HR6, HB6⟩
            case measure => have := HKD.out; simp [intOf]; omega
        have M1 : decide (k < (a.length : Int)) = true := decide_eq_true d1
        obtain ⟨ad, hA, rows⟩ := crow_at HCa.out k k0 d1
        subst hA
        have htk := take_snoc a k.toNat (by omega)
        obtain ⟨x0, x1⟩ := rows wr.drew (below_drew1 HBp.out)
        generalize a.getD k.toNat z39 = x at x0 x1 htk rows
        obtain ⟨kk, dd⟩ := x
        dsimp only at x0 x1 rows
        have hnx : a.take (k + 1).toNat = o ++ [⟨kk, dd⟩] := by rw [show (k + 1).toNat = k.toNat + 1 by omega, htk, ← HK.out.2.2.1]
        have r0 := eq_true k0
        have r1 := eq_true d1
        have hv1 : wrap64 (k + 1) = k + 1 := by have := HAL.out.1; unfold wrap64; omega
        have hv2 : IntKind.i64.wrap (k + 1) = k + 1 := (i64_w _).trans hv1
        have HKD := Aside0.mk (And.intro k0 d1)
        have HNX := Aside0.mk hnx
        have HRd := Aside0.mk (Kd.R_drew HRp.out)
        have HBd := Aside0.mk (below_drew1 HBp.out)
        have HROWS := Aside0.mk rows
        clear d1 k0 htk hnx rows
        go_wp2_with (fail)
        refine Calm.wp_region_calmC [(5, fun w_ => w_.cell? (ad.add (k.toNat * 2)) = some (.int .i64 kk)), (10, fun w_ => w_.cell? ⟨(ad.add (k.toNat * 2)).block, (ad.add (k.toNat * 2)).off + 1, none⟩ = some (.string dd))] [0, 1, 2, 3, 4, 5, 6, 7, 8, 9, 10, 11] [12, 13, 14] (by kernel_rfl) (by kernel_rfl) (Calm.allC_cons (by exact x0) (Calm.allC_cons (by exact x1) Calm.allC_nil)) ?_
        repeat (first
          | (refine Calm.g_value (v := ?_) (a' := ?_) rfl rfl (by rfl) ?_ ?_ ?_; rotate_left; (· rintro w' hS'; (try simp only [Calm.SC_cons, Calm.SC_nil, Nat.reduceEqDiff, forall_const, false_implies, and_true, true_and] at hS'); (try obtain ⟨hS1, hS2⟩ := hS'); go_simp; with_reducible rfl); rotate_left; (· simp only [Act.put, List.setIfInBounds_toArray, List.set_cons_zero, List.set_cons_succ, i64_w, i32_w]; rfl)))
        refine Calm.g_nil ?_
        refine Calm.c_value (v := ?_) (w1 := ?_) (a' := ?_) rfl rfl (by rfl) ?_ ?_ ?_ ?_
        rotate_left
        rotate_left
        · go_simp; first | (refine And.intro ?_ ?_ <;> rfl) | rfl
        · repeat (first | exact Calm.okC_nil | (refine Calm.okC_cons (Or.inl (by decide +kernel)) ?_) | (refine Calm.okC_cons (Or.inr (by (first | assumption | (go_simp; done)))) ?_))
        rotate_left
        · simp only [Act.put, List.setIfInBounds_toArray, List.set_cons_zero, List.set_cons_succ, i64_w, i32_w]; rfl
        refine Calm.c_law rfl ?_
        refine Kd.R_append_step k39 (w0 := wb) wb.heap.size (by rfl) (.tmp 104) (.tmp 116) 37 40 (.agg #[.int .i64 0, .string (⟨#[]⟩ : ByteArray)]) 24 rfl Tryd.underlying37 info40_ rfl (by decide) (by omega) (.slice Ap o.length cp) o ⟨kk, dd⟩ [.int .i64 kk, .string dd] (fun k => wb.heap.size ≤ k) (fun _ => False) rfl rfl ?aP (fun _ hk => hk.elim) ?aF HRd.out HBd.out ?aS ?aL ?_
        case aP => exact k39_mkM _ _ _ _
        case aF => exact fun k hk => Nat.le_trans HBd.out.size hk
        case aS => exact HBd.out.size
        case aL => have h1_ := HKD.out; have h2_ := HK.out; have h3_ := HAL.out.1; omega
        intro v6 w6 hR6 hB6 hg6 hat
        obtain ⟨A6, cp6, rfl⟩ := Kd.R_slice hR6
        have HR6 := Aside0.mk hR6
        have HB6 := Aside0.mk hB6
        clear hR6 hB6 hg6 hat
        refine And.intro ?_ ?_
        · repeat (first | exact Calm.okC_nil | (refine Calm.okC_cons (Or.inl (by decide +kernel)) ?_) | (refine Calm.okC_cons (Or.inr (by (first | assumption | (go_simp; done)))) ?_))
        refine Calm.put_dst (a' := ?_) rfl ?_ ?_
        rotate_left
        · simp only [Act.put, List.setIfInBounds_toArray, List.set_cons_zero, List.set_cons_succ, i64_w, i32_w]; rfl
        refine Calm.c_value (v := ?_) (w1 := ?_) (a' := ?_) rfl rfl (by rfl) ?_ ?_ ?_ ?_
        rotate_left
        rotate_left
        · go_simp; first | (refine And.intro ?_ ?_ <;> rfl) | rfl
        · repeat (first | exact Calm.okC_nil | (refine Calm.okC_cons (Or.inl (by decide +kernel)) ?_) | (refine Calm.okC_cons (Or.inr (by (first | assumption | (go_simp; done)))) ?_))
        rotate_left
        · simp only [Act.put, List.setIfInBounds_toArray, List.set_cons_zero, List.set_cons_succ, i64_w, i32_w]; rfl
        refine Calm.h_nil ?_
        simp only [Exit.inBlock, Exit.then]
        go_wp2_with (fail)
        go_roundw
        case rel => exact ⟨A6, cp6, o ++ [⟨kk, dd⟩], k + 1, by rw [List.length_append]; rfl, rfl, ⟨by have := HKD.out; omega, by have := HKD.out; omega, HNX.out.symm, by have := HKD.out; have h2_ := HK.out; rw [List.length_append]; simp; omega⟩, HR6, HB6⟩
        case measure => have := HKD.out; simp [intOf]; omega
    have K1 : decide (i < (xs.length : Int)) = true := decide_eq_true c1
    by_cases c2 : i < 200
    rotate_left
    · have K2 : decide (i < 200) = false := decide_eq_false c2
      clear c1 c2
      by_cases hz : dc = 0
      · subst hz
        obtain ⟨L, hL, heq⟩ := HD.out
        obtain ⟨l2, r2, hd2⟩ := runs_all _ (addr rm (s.extract p.toNat s.size)) (inv_addr HMI.out _) (Nat.le_refl _)
        have h2 := runs_inv hd2 (inv_addr HMI.out _)
        have hrz : (addr rm (s.extract p.toNat s.size)).rest.size = rm.rest.size + (s.size - p.toNat) := by show (rm.rest ++ s.extract p.toNat s.size).size = _; rw [ByteArray.size_append, ByteArray.size_extract]; omega
        have hz2 : rm.rest.size + (s.extract p.toNat s.size).size ≤ 100000 := by have h1 := HMI0.out.2; have h3 := HSZ.out; rw [ByteArray.size_extract]; omega
        rw [hrz] at h2
        have hln : bl.length + l2.length ≤ 100000 := by have h1 := HMI0.out.2; have h3 := HSZ.out; omega
        obtain ⟨l3, hr3, he3⟩ := runs_app hL (inv_addr (inv_init ctl) _) HDC.out (s.extract p.toNat s.size) l2 r2 hd2
        rw [addr_addr, hsplit] at hr3
        obtain ⟨ea, eb⟩ := runs_det HDA.out hr3
        subst eb
        have HEQ0 := Aside0.mk (show Jn [] a = Jn [] (bl ++ l2) by rw [ea]; exact (he3.trans (heq.app (Eqv.rfl' _))) [])
        have HM0 := Aside0.mk (show rm.code = 0 from HDC.out)
        have HD2 := Aside0.mk (show Runs { rm with rest := rm.rest ++ s.extract p.toNat s.size } l2 ra from hd2)
        have HZ2 := Aside0.mk hz2
        have HLN := Aside0.mk hln
        clear hL heq hd2 h2 hrz hz2 hln hr3 he3 ea hi0 hp0 hp1 hsplit
        go_wp2_with (first | (go_at_call 15; (with_reducible refine (feed_c g2 rm (s.extract p.toNat s.size) l2 ra w _ HC.out.b2 HG2.out HC.out.bel HT.out HM0.out HMI.out HD2.out HZ2.out).mono ?_); rintro e_ w5 ⟨vx, rfl, hl⟩; obtain ⟨Ax, cx, rfl⟩ := Kd.R_slice hl.rr; have HC5 := Aside0.mk (HC.out.fed hl HNE.out); have HL5 := Aside0.mk hl; clear hl) | ((with_reducible refine gate_builtin (b := .append) (xs := #[.tmp 94, .tmp 95]) rfl ?_); at_builtin; refine Kd.R_append_rows k39 (w0 := w) w.heap.size rfl (.tmp 94) (.tmp 95) 33 39 (.agg #[.int .i64 0, .string (⟨#[]⟩ : ByteArray)]) 24 rfl Tryd.underlying33 info39_ rfl (by decide) (by omega) (.slice Ab bl.length cb) bl l2 _ _ _ (fun k => k ≠ g1 ∧ k ≠ g2 ∧ N0 ≤ k) (fun _ => False) rfl rfl HC5.out.rb (Kd.R_reads' HL5.out.rr).2.2 (fun _ _ h => h) (fun _ h => h.elim) ?aF HC5.out.bel ?aS ?aL ?_; (case aF => exact fun k hk => ⟨by have := blk_lt HC5.out.b1; omega, by have := blk_lt HC5.out.b2; omega, Nat.le_trans HC5.out.n0 hk⟩); (case aS => exact HC5.out.bel.size); (case aL => have := HLN.out; omega); intro v6 w6 hR6 hB6 hg6 hat; obtain ⟨bq, hbq⟩ : ∃ q, bl ++ l2 = q := ⟨_, rfl⟩; rw [hbq] at hR6; obtain ⟨Ab2, cb2, rfl⟩ := Kd.R_slice hR6; have HBQ := Aside0.mk hbq; have HC6 := Aside0.mk (HC5.out.app hR6 hB6 hg6); clear hR6 hB6 hg6 hat hbq))
        have HEQ := Aside0.mk (show Jn [] a = Jn [] bq by rw [← HBQ.out]; exact HEQ0.out)
        have HEN := Aside0.mk (show endc ra = endc ra from rfl)
        have HBL := Aside0.mk (show bq.length ≤ 100000 by rw [← HBQ.out, List.length_append]; exact HLN.out)
        clear HEQ0 HBQ HLN HC5 HL5
        obtain ⟨wb, hwb⟩ : ∃ x, x = w6 := ⟨_, rfl⟩
        subst hwb
        have HX := HC6
        have HCa := Aside0.mk (Kd.R_reads' HX.out.ra).2.2
        have HCb0 := Aside0.mk (Kd.R_reads' HX.out.rb).2.2
        obtain ⟨J, hJ⟩ : ∃ j, Jn [] a = j := ⟨_, rfl⟩
        have HJa := Aside0.mk hJ
        have HJb := Aside0.mk (show Jn [] bq = J by rw [← hJ]; exact HEQ.out.symm)
        have HJL := Aside0.mk (show J.length ≤ 3000 by have h1 := Jn_len a []; rw [hJ] at h1; have h2 := HAL.out; simp at h1; omega)
        have HBL3 := Aside0.mk (show (catEv bq).size ≤ 100000 by have h1 := catEv_Jn bq []; have h2 := catEv_Jn a []; rw [HJb.out] at h1; rw [hJ] at h2; have h3 := HAL.out.2; have h4 : (catEv []) ++ catEv bq = catEv bq := nil_app _; have h5 : (catEv []) ++ catEv a = catEv a := nil_app _; rw [h4] at h1; rw [h5] at h2; rw [← h1, h2]; omega)
        clear hJ
        obtain ⟨en, hen⟩ : ∃ x, endc ra = x := ⟨_, rfl⟩
        have HV1 := Aside0.mk hen
        have HV2 := Aside0.mk (show endc ra = en by rw [← hen]; first | done | exact HEN.out.symm)
        clear hen
        go_loopw [20, 22] (fun vp vi wr2 => ∃ (Ap : Option Addr) (cp : Nat) (o : List S39) (k : Int), vp = .slice Ap o.length cp ∧ vi = .int .i64 k ∧ Aside0 (0 ≤ k ∧ k ≤ a.length ∧ o = a.take k.toNat ∧ o.length = k.toNat) ∧ Aside0 (Kd.R k39 40 wr2 wb.heap.size (fun k => wb.heap.size ≤ k) (.slice Ap o.length cp) o) ∧ Aside0 (Below wb.heap.size wb wr2)) (fun _ vi _ => ((a.length : Int) - intOf vi).toNat)
        case atStart => exact ⟨none, 0, [], 0, rfl, rfl, ⟨by omega, by omega, rfl, rfl⟩, ⟨Kd.R_nil _ _ _ _ _⟩, ⟨Below.refl _ _⟩⟩
        case round =>
          obtain ⟨Ap, cp, o, k, rfl, rfl, HK, HRp, HBp⟩ := hrel
          have k0 := HK.out.1
          by_cases d1 : k < (a.length : Int)
          rotate_left
          · have M1 : decide (k < (a.length : Int)) = false := decide_eq_false d1
            have ho : a = o := by rw [HK.out.2.2.1, List.take_of_length_le (by have := HK.out; omega)]
            subst ho
            clear d1 k0
            obtain ⟨w10, hw10⟩ : ∃ x, x = wr := ⟨_, rfl⟩
            subst hw10
            have HPc0 := Aside0.mk (Kd.R_reads' HRp.out).2.2
            have HCb := Aside0.mk (Kd.C_below HCb0.out HBp.out)
            have HEa0 := Aside0.mk (blk_below HX.out.b1 HBp.out)
            have HEb0 := Aside0.mk (blk_below HX.out.b2 HBp.out)
            have HBall0 := Aside0.mk (below_step HX.out.bel HBp.out)
            clear HRp HBp HCb0
            obtain ⟨Apa, hApa⟩ : ∃ x, x = Ap := ⟨_, rfl⟩
            obtain ⟨cpa, hcpa⟩ : ∃ x, x = cp := ⟨_, rfl⟩
            subst hApa hcpa
            clear HK
            go_wp2_with (fail)
            go_loopw [21, 23] (fun vp vi wr2 => ∃ (Ap : Option Addr) (cp : Nat) (o : List S39) (k : Int), vp = .slice Ap o.length cp ∧ vi = .int .i64 k ∧ Aside0 (0 ≤ k ∧ k ≤ bq.length ∧ o = bq.take k.toNat ∧ o.length = k.toNat) ∧ Aside0 (Kd.R k39 40 wr2 w10.heap.size (fun k => w10.heap.size ≤ k) (.slice Ap o.length cp) o) ∧ Aside0 (Below w10.heap.size w10 wr2)) (fun _ vi _ => ((bq.length : Int) - intOf vi).toNat)
            case atStart => exact ⟨none, 0, [], 0, rfl, rfl, ⟨by omega, by omega, rfl, rfl⟩, ⟨Kd.R_nil _ _ _ _ _⟩, ⟨Below.refl _ _⟩⟩
            case round =>
              obtain ⟨Ap, cp, o, k, rfl, rfl, HK, HRp, HBp⟩ := hrel
              have k0 := HK.out.1
              by_cases d1 : k < (bq.length : Int)
              rotate_left
              · have M1 : decide (k < (bq.length : Int)) = false := decide_eq_false d1
                have ho : bq = o := by rw [HK.out.2.2.1, List.take_of_length_le (by have := HK.out; omega)]
                subst ho
                clear d1 k0
                have HQc := Aside0.mk (Kd.R_reads' HRp.out).2.2
                have HPc := Aside0.mk (Kd.C_below HPc0.out HBp.out)
                have HEa := Aside0.mk (blk_below HEa0.out HBp.out)
                have HEb := Aside0.mk (blk_below HEb0.out HBp.out)
                have HBall := Aside0.mk (below_step HBall0.out HBp.out)
                clear HPc0 HEa0 HEb0 HBall0
                go_wp2_with (first | (go_at_call 16; (with_reducible refine (joined_c Apa cpa a _ HPc.out (Nat.le_trans HAL.out.1 (by omega)) (Nat.le_trans HAL.out.2 (by omega))).mono ?_); rw [HJa.out]; rintro e_ w12 ⟨vj, rfl, hR, hb⟩; obtain ⟨Aj, cj, rfl⟩ := Kd.R_slice hR; have HJ1 := Aside0.mk (Kd.R_reads' hR).2.2; have HJ1b := Aside0.mk hb; clear hR hb) | (go_at_call 16; (with_reducible refine (joined_c Ap cp bq _ (Kd.C_below HQc.out HJ1b.out) HBL.out HBL3.out).mono ?_); rw [HJb.out]; rintro e_ w13 ⟨vj2, rfl, hR, hb⟩; obtain ⟨Aj2, cj2, rfl⟩ := Kd.R_slice hR; have HTJ := Aside0.mk (show TwoJ w w13 Aj Aj2 cj cj2 J from ⟨Kd.C_below HJ1.out hb, (Kd.R_reads' hR).2.2, below_step (below_step HBall.out HJ1b.out) hb⟩); have HE1 := Aside0.mk (blk_below (blk_below HEa.out HJ1b.out) hb); have HE2 := Aside0.mk (blk_below (blk_below HEb.out HJ1b.out) hb); clear hR hb) | (go_at_call 17; (with_reducible refine (end_c g1 _ _ HE1.out).mono ?_); rw [HV1.out]; rintro e_ w14 ⟨rfl, hd_⟩; have n0_ := Aside0.mk (HTJ.out.below (drawn_below hd_)); have n1_ := Aside0.mk (blk_below HE2.out (drawn_below hd_)); clear hd_ HTJ HE2; have HTJ := n0_; have HE2 := n1_; clear n0_ n1_) | (go_at_call 17; (with_reducible refine (end_c g2 _ _ HE2.out).mono ?_); rw [HV2.out]; rintro e_ w14 ⟨rfl, hd_⟩; have n0_ := Aside0.mk (HTJ.out.below (drawn_below hd_)); have n1_ := Aside0.mk (blk_below HE2.out (drawn_below hd_)); clear hd_ HTJ HE2; have HTJ := n0_; have HE2 := n1_; clear n0_ n1_))
                go_loopw [24] (fun v24 wr2 => ∃ k : Int, v24 = .int .i64 k ∧ Aside0 (0 ≤ k ∧ k ≤ J.length) ∧ Aside0 (TwoJ w wr2 Aj Aj2 cj cj2 J)) (fun v24 _ => ((J.length : Int) - intOf v24).toNat)
                case atStart => exact ⟨0, rfl, ⟨by omega⟩, HTJ⟩
                case round =>
                  clear HTJ
                  obtain ⟨k, rfl, HKK, HQ⟩ := hrel
                  have k0 := HKK.out.1
                  by_cases d1 : k < (J.length : Int)
                  rotate_left
                  · have M1 : decide (k < (J.length : Int)) = false := decide_eq_false d1
                    clear d1 k0
                    go_wp2_with (fail)
                    go_ret
                    exact ⟨rfl, HQ.out.bel⟩
                  have M1 : decide (k < (J.length : Int)) = true := decide_eq_true d1
                  have hdr := HQ.out.below (below_drew1 (Below.refl _ _))
                  obtain ⟨ad1, hA1, rowsx⟩ := crow_at hdr.ra k k0 d1
                  obtain ⟨ad2, hA2, rowsy⟩ := crow_at hdr.rb k k0 d1
                  obtain ⟨x0, x1⟩ := rowsx _ (Below.refl _ _)
                  obtain ⟨y0, y1⟩ := rowsy _ (Below.refl _ _)
                  clear rowsx rowsy
                  generalize (J.getD k.toNat z39).f0 = e0 at x0 y0
                  generalize (J.getD k.toNat z39).f1 = e1 at x1 y1
                  subst hA1 hA2
                  have r0 := eq_true k0
                  have r1 := eq_true d1
                  have hv1 : wrap64 (k + 1) = k + 1 := by have := HJL.out; unfold wrap64; omega
                  have hv2 : IntKind.i64.wrap (k + 1) = k + 1 := (i64_w _).trans hv1
                  have HKD := Aside0.mk (And.intro k0 d1)
                  have HQD := Aside0.mk hdr
                  clear d1 k0 hdr
                  go_wp2_with (fail)
                  refine wp_region_still_lit (by kernel_rfl) (by kernel_rfl) ?_
                  change wpStill _ _ (World.drew _) (fun a' => _) _ _
                  repeat (first | still_step)
                  refine wpStill_nil ?_
                  go_wp2_with (fail)
                  go_roundw
                  case rel => exact ⟨k + 1, rfl, ⟨by have := HKD.out; omega⟩, HQD⟩
                  case measure => have := HKD.out; simp [intOf]; omega
              have M1 : decide (k < (bq.length : Int)) = true := decide_eq_true d1
              obtain ⟨ad, hA, rows⟩ := crow_at HCb.out k k0 d1
              subst hA
              have htk := take_snoc bq k.toNat (by omega)
              obtain ⟨x0, x1⟩ := rows wr.drew (below_drew1 HBp.out)
              generalize bq.getD k.toNat z39 = x at x0 x1 htk rows
              obtain ⟨kk, dd⟩ := x
              dsimp only at x0 x1 rows
              have hnx : bq.take (k + 1).toNat = o ++ [⟨kk, dd⟩] := by rw [show (k + 1).toNat = k.toNat + 1 by omega, htk, ← HK.out.2.2.1]
              have r0 := eq_true k0
              have r1 := eq_true d1
              have hv1 : wrap64 (k + 1) = k + 1 := by have := HBL.out; unfold wrap64; omega
              have hv2 : IntKind.i64.wrap (k + 1) = k + 1 := (i64_w _).trans hv1
              have HKD := Aside0.mk (And.intro k0 d1)
              have HNX := Aside0.mk hnx
              have HRd := Aside0.mk (Kd.R_drew HRp.out)
              have HBd := Aside0.mk (below_drew1 HBp.out)
              have HROWS := Aside0.mk rows
              clear d1 k0 htk hnx rows
              go_wp2_with (fail)
              refine Calm.wp_region_calmC [(5, fun w_ => w_.cell? (ad.add (k.toNat * 2)) = some (.int .i64 kk)), (10, fun w_ => w_.cell? ⟨(ad.add (k.toNat * 2)).block, (ad.add (k.toNat * 2)).off + 1, none⟩ = some (.string dd))] [0, 1, 2, 3, 4, 5, 6, 7, 8, 9, 10, 11] [12, 13, 14] (by kernel_rfl) (by kernel_rfl) (Calm.allC_cons (by exact x0) (Calm.allC_cons (by exact x1) Calm.allC_nil)) ?_
              repeat (first
                | (refine Calm.g_value (v := ?_) (a' := ?_) rfl rfl (by rfl) ?_ ?_ ?_; rotate_left; (· rintro w' hS'; (try simp only [Calm.SC_cons, Calm.SC_nil, Nat.reduceEqDiff, forall_const, false_implies, and_true, true_and] at hS'); (try obtain ⟨hS1, hS2⟩ := hS'); go_simp; with_reducible rfl); rotate_left; (· simp only [Act.put, List.setIfInBounds_toArray, List.set_cons_zero, List.set_cons_succ, i64_w, i32_w]; rfl)))
              refine Calm.g_nil ?_
              refine Calm.c_value (v := ?_) (w1 := ?_) (a' := ?_) rfl rfl (by rfl) ?_ ?_ ?_ ?_
              rotate_left
              rotate_left
              · go_simp; first | (refine And.intro ?_ ?_ <;> rfl) | rfl
              · repeat (first | exact Calm.okC_nil | (refine Calm.okC_cons (Or.inl (by decide +kernel)) ?_) | (refine Calm.okC_cons (Or.inr (by (first | assumption | (go_simp; done)))) ?_))
              rotate_left
              · simp only [Act.put, List.setIfInBounds_toArray, List.set_cons_zero, List.set_cons_succ, i64_w, i32_w]; rfl
              refine Calm.c_law rfl ?_
              refine Kd.R_append_step k39 (w0 := w10) w10.heap.size (by rfl) (.tmp 124) (.tmp 136) 37 40 (.agg #[.int .i64 0, .string (⟨#[]⟩ : ByteArray)]) 24 rfl Tryd.underlying37 info40_ rfl (by decide) (by omega) (.slice Ap o.length cp) o ⟨kk, dd⟩ [.int .i64 kk, .string dd] (fun k => w10.heap.size ≤ k) (fun _ => False) rfl rfl ?aP (fun _ hk => hk.elim) ?aF HRd.out HBd.out ?aS ?aL ?_
              case aP => exact k39_mkM _ _ _ _
              case aF => exact fun k hk => Nat.le_trans HBd.out.size hk
              case aS => exact HBd.out.size
              case aL => have h1_ := HKD.out; have h2_ := HK.out; have h3_ := HBL.out; omega
              intro v6 w6 hR6 hB6 hg6 hat
              obtain ⟨A6, cp6, rfl⟩ := Kd.R_slice hR6
              have HR6 := Aside0.mk hR6
              have HB6 := Aside0.mk hB6
              clear hR6 hB6 hg6 hat
              refine And.intro ?_ ?_
              · repeat (first | exact Calm.okC_nil | (refine Calm.okC_cons (Or.inl (by decide +kernel)) ?_) | (refine Calm.okC_cons (Or.inr (by (first | assumption | (go_simp; done)))) ?_))
              refine Calm.put_dst (a' := ?_) rfl ?_ ?_
              rotate_left
              · simp only [Act.put, List.setIfInBounds_toArray, List.set_cons_zero, List.set_cons_succ, i64_w, i32_w]; rfl
              refine Calm.c_value (v := ?_) (w1 := ?_) (a' := ?_) rfl rfl (by rfl) ?_ ?_ ?_ ?_
              rotate_left
              rotate_left
              · go_simp; first | (refine And.intro ?_ ?_ <;> rfl) | rfl
              · repeat (first | exact Calm.okC_nil | (refine Calm.okC_cons (Or.inl (by decide +kernel)) ?_) | (refine Calm.okC_cons (Or.inr (by (first | assumption | (go_simp; done)))) ?_))
              rotate_left
              · simp only [Act.put, List.setIfInBounds_toArray, List.set_cons_zero, List.set_cons_succ, i64_w, i32_w]; rfl
              refine Calm.h_nil ?_
              simp only [Exit.inBlock, Exit.then]
              go_wp2_with (fail)
              go_roundw
              case rel => exact ⟨A6, cp6, o ++ [⟨kk, dd⟩], k + 1, by rw [List.length_append]; rfl, rfl, ⟨by have := HKD.out; omega, by have := HKD.out; omega, HNX.out.symm, by have := HKD.out; have h2_ := HK.out; rw [List.length_append]; simp; omega⟩, HR6, HB6⟩
              case measure => have := HKD.out; simp [intOf]; omega
          have M1 : decide (k < (a.length : Int)) = true := decide_eq_true d1
          obtain ⟨ad, hA, rows⟩ := crow_at HCa.out k k0 d1
          subst hA
          have htk := take_snoc a k.toNat (by omega)
          obtain ⟨x0, x1⟩ := rows wr.drew (below_drew1 HBp.out)
          generalize a.getD k.toNat z39 = x at x0 x1 htk rows
          obtain ⟨kk, dd⟩ := x
          dsimp only at x0 x1 rows
          have hnx : a.take (k + 1).toNat = o ++ [⟨kk, dd⟩] := by rw [show (k + 1).toNat = k.toNat + 1 by omega, htk, ← HK.out.2.2.1]
          have r0 := eq_true k0
          have r1 := eq_true d1
          have hv1 : wrap64 (k + 1) = k + 1 := by have := HAL.out.1; unfold wrap64; omega
          have hv2 : IntKind.i64.wrap (k + 1) = k + 1 := (i64_w _).trans hv1
          have HKD := Aside0.mk (And.intro k0 d1)
          have HNX := Aside0.mk hnx
          have HRd := Aside0.mk (Kd.R_drew HRp.out)
          have HBd := Aside0.mk (below_drew1 HBp.out)
          have HROWS := Aside0.mk rows
          clear d1 k0 htk hnx rows
          go_wp2_with (fail)
          refine Calm.wp_region_calmC [(5, fun w_ => w_.cell? (ad.add (k.toNat * 2)) = some (.int .i64 kk)), (10, fun w_ => w_.cell? ⟨(ad.add (k.toNat * 2)).block, (ad.add (k.toNat * 2)).off + 1, none⟩ = some (.string dd))] [0, 1, 2, 3, 4, 5, 6, 7, 8, 9, 10, 11] [12, 13, 14] (by kernel_rfl) (by kernel_rfl) (Calm.allC_cons (by exact x0) (Calm.allC_cons (by exact x1) Calm.allC_nil)) ?_
          repeat (first
            | (refine Calm.g_value (v := ?_) (a' := ?_) rfl rfl (by rfl) ?_ ?_ ?_; rotate_left; (· rintro w' hS'; (try simp only [Calm.SC_cons, Calm.SC_nil, Nat.reduceEqDiff, forall_const, false_implies, and_true, true_and] at hS'); (try obtain ⟨hS1, hS2⟩ := hS'); go_simp; with_reducible rfl); rotate_left; (· simp only [Act.put, List.setIfInBounds_toArray, List.set_cons_zero, List.set_cons_succ, i64_w, i32_w]; rfl)))
          refine Calm.g_nil ?_
          refine Calm.c_value (v := ?_) (w1 := ?_) (a' := ?_) rfl rfl (by rfl) ?_ ?_ ?_ ?_
          rotate_left
          rotate_left
          · go_simp; first | (refine And.intro ?_ ?_ <;> rfl) | rfl
          · repeat (first | exact Calm.okC_nil | (refine Calm.okC_cons (Or.inl (by decide +kernel)) ?_) | (refine Calm.okC_cons (Or.inr (by (first | assumption | (go_simp; done)))) ?_))
          rotate_left
          · simp only [Act.put, List.setIfInBounds_toArray, List.set_cons_zero, List.set_cons_succ, i64_w, i32_w]; rfl
          refine Calm.c_law rfl ?_
          refine Kd.R_append_step k39 (w0 := wb) wb.heap.size (by rfl) (.tmp 104) (.tmp 116) 37 40 (.agg #[.int .i64 0, .string (⟨#[]⟩ : ByteArray)]) 24 rfl Tryd.underlying37 info40_ rfl (by decide) (by omega) (.slice Ap o.length cp) o ⟨kk, dd⟩ [.int .i64 kk, .string dd] (fun k => wb.heap.size ≤ k) (fun _ => False) rfl rfl ?aP (fun _ hk => hk.elim) ?aF HRd.out HBd.out ?aS ?aL ?_
          case aP => exact k39_mkM _ _ _ _
          case aF => exact fun k hk => Nat.le_trans HBd.out.size hk
          case aS => exact HBd.out.size
          case aL => have h1_ := HKD.out; have h2_ := HK.out; have h3_ := HAL.out.1; omega
          intro v6 w6 hR6 hB6 hg6 hat
          obtain ⟨A6, cp6, rfl⟩ := Kd.R_slice hR6
          have HR6 := Aside0.mk hR6
          have HB6 := Aside0.mk hB6
          clear hR6 hB6 hg6 hat
          refine And.intro ?_ ?_
          · repeat (first | exact Calm.okC_nil | (refine Calm.okC_cons (Or.inl (by decide +kernel)) ?_) | (refine Calm.okC_cons (Or.inr (by (first | assumption | (go_simp; done)))) ?_))
          refine Calm.put_dst (a' := ?_) rfl ?_ ?_
          rotate_left
          · simp only [Act.put, List.setIfInBounds_toArray, List.set_cons_zero, List.set_cons_succ, i64_w, i32_w]; rfl
          refine Calm.c_value (v := ?_) (w1 := ?_) (a' := ?_) rfl rfl (by rfl) ?_ ?_ ?_ ?_
          rotate_left
          rotate_left
          · go_simp; first | (refine And.intro ?_ ?_ <;> rfl) | rfl
          · repeat (first | exact Calm.okC_nil | (refine Calm.okC_cons (Or.inl (by decide +kernel)) ?_) | (refine Calm.okC_cons (Or.inr (by (first | assumption | (go_simp; done)))) ?_))
          rotate_left
          · simp only [Act.put, List.setIfInBounds_toArray, List.set_cons_zero, List.set_cons_succ, i64_w, i32_w]; rfl
          refine Calm.h_nil ?_
          simp only [Exit.inBlock, Exit.then]
          go_wp2_with (fail)
          go_roundw
          case rel => exact ⟨A6, cp6, o ++ [⟨kk, dd⟩], k + 1, by rw [List.length_append]; rfl, rfl, ⟨by have := HKD.out; omega, by have := HKD.out; omega, HNX.out.symm, by have := HKD.out; have h2_ := HK.out; rw [List.length_append]; simp; omega⟩, HR6, HB6⟩
          case measure => have := HKD.out; simp [intOf]; omega
      obtain ⟨L, hL, heq⟩ := HD.out
      obtain ⟨r'', hr'', hcd⟩ := runs_fault hL (inv_addr (inv_init ctl) _) rfl (by rw [HDC.out]; exact hz) (s.extract p.toNat s.size)
      rw [addr_addr, hsplit] at hr''
      obtain ⟨ea, eb⟩ := runs_det HDA.out hr''
      have hcc : ra.code = dc := by rw [eb, hcd]; exact HDC.out
      obtain ⟨bq, hbq⟩ : ∃ q, bl = q := ⟨_, rfl⟩
      subst hbq
      have HEQ := Aside0.mk (show Jn [] a = Jn [] bl by rw [ea]; exact heq [])
      have HEN := Aside0.mk (show endc ra = endc rm by rw [endc_code (by rw [hcc]; exact hz), endc_code (by rw [HDC.out]; exact hz), hcc]; exact HDC.out.symm)
      have HBL := Aside0.mk (show bl.length ≤ 100000 by have := HMI0.out.2; have := HSZ.out; omega)
      have E0 : (dc == 0) = false := beq_eq_false_iff_ne.mpr hz
      have E1 : (dc != 0) = true := bne_iff_ne.mpr hz
      clear hL heq hr'' hcd ea eb hi0 hp0 hp1 hsplit hz
      have E2 : (ra.code != dc) = false := by rw [hcc]; simp
      go_wp2_with (fail)
      obtain ⟨wb, hwb⟩ : ∃ x, x = wr := ⟨_, rfl⟩
      subst hwb
      have HX := HC
      have HCa := Aside0.mk (Kd.R_reads' HX.out.ra).2.2
      have HCb0 := Aside0.mk (Kd.R_reads' HX.out.rb).2.2
      obtain ⟨J, hJ⟩ : ∃ j, Jn [] a = j := ⟨_, rfl⟩
      have HJa := Aside0.mk hJ
      have HJb := Aside0.mk (show Jn [] bl = J by rw [← hJ]; exact HEQ.out.symm)
      have HJL := Aside0.mk (show J.length ≤ 3000 by have h1 := Jn_len a []; rw [hJ] at h1; have h2 := HAL.out; simp at h1; omega)
      have HBL3 := Aside0.mk (show (catEv bl).size ≤ 100000 by have h1 := catEv_Jn bl []; have h2 := catEv_Jn a []; rw [HJb.out] at h1; rw [hJ] at h2; have h3 := HAL.out.2; have h4 : (catEv []) ++ catEv bl = catEv bl := nil_app _; have h5 : (catEv []) ++ catEv a = catEv a := nil_app _; rw [h4] at h1; rw [h5] at h2; rw [← h1, h2]; omega)
      clear hJ
      obtain ⟨en, hen⟩ : ∃ x, endc ra = x := ⟨_, rfl⟩
      have HV1 := Aside0.mk hen
      have HV2 := Aside0.mk (show endc rm = en by rw [← hen]; first | done | exact HEN.out.symm)
      clear hen
      go_loopw [20, 22] (fun vp vi wr2 => ∃ (Ap : Option Addr) (cp : Nat) (o : List S39) (k : Int), vp = .slice Ap o.length cp ∧ vi = .int .i64 k ∧ Aside0 (0 ≤ k ∧ k ≤ a.length ∧ o = a.take k.toNat ∧ o.length = k.toNat) ∧ Aside0 (Kd.R k39 40 wr2 wb.heap.size (fun k => wb.heap.size ≤ k) (.slice Ap o.length cp) o) ∧ Aside0 (Below wb.heap.size wb wr2)) (fun _ vi _ => ((a.length : Int) - intOf vi).toNat)
      case atStart => exact ⟨none, 0, [], 0, rfl, rfl, ⟨by omega, by omega, rfl, rfl⟩, ⟨Kd.R_nil _ _ _ _ _⟩, ⟨Below.refl _ _⟩⟩
      case round =>
        obtain ⟨Ap, cp, o, k, rfl, rfl, HK, HRp, HBp⟩ := hrel
        have k0 := HK.out.1
        by_cases d1 : k < (a.length : Int)
        rotate_left
        · have M1 : decide (k < (a.length : Int)) = false := decide_eq_false d1
          have ho : a = o := by rw [HK.out.2.2.1, List.take_of_length_le (by have := HK.out; omega)]
          subst ho
          clear d1 k0
          obtain ⟨w10, hw10⟩ : ∃ x, x = wr := ⟨_, rfl⟩
          subst hw10
          have HPc0 := Aside0.mk (Kd.R_reads' HRp.out).2.2
          have HCb := Aside0.mk (Kd.C_below HCb0.out HBp.out)
          have HEa0 := Aside0.mk (blk_below HX.out.b1 HBp.out)
          have HEb0 := Aside0.mk (blk_below HX.out.b2 HBp.out)
          have HBall0 := Aside0.mk (below_step HX.out.bel HBp.out)
          clear HRp HBp HCb0
          obtain ⟨Apa, hApa⟩ : ∃ x, x = Ap := ⟨_, rfl⟩
          obtain ⟨cpa, hcpa⟩ : ∃ x, x = cp := ⟨_, rfl⟩
          subst hApa hcpa
          clear HK
          go_wp2_with (fail)
          go_loopw [21, 23] (fun vp vi wr2 => ∃ (Ap : Option Addr) (cp : Nat) (o : List S39) (k : Int), vp = .slice Ap o.length cp ∧ vi = .int .i64 k ∧ Aside0 (0 ≤ k ∧ k ≤ bl.length ∧ o = bl.take k.toNat ∧ o.length = k.toNat) ∧ Aside0 (Kd.R k39 40 wr2 w10.heap.size (fun k => w10.heap.size ≤ k) (.slice Ap o.length cp) o) ∧ Aside0 (Below w10.heap.size w10 wr2)) (fun _ vi _ => ((bl.length : Int) - intOf vi).toNat)
          case atStart => exact ⟨none, 0, [], 0, rfl, rfl, ⟨by omega, by omega, rfl, rfl⟩, ⟨Kd.R_nil _ _ _ _ _⟩, ⟨Below.refl _ _⟩⟩
          case round =>
            obtain ⟨Ap, cp, o, k, rfl, rfl, HK, HRp, HBp⟩ := hrel
            have k0 := HK.out.1
            by_cases d1 : k < (bl.length : Int)
            rotate_left
            · have M1 : decide (k < (bl.length : Int)) = false := decide_eq_false d1
              have ho : bl = o := by rw [HK.out.2.2.1, List.take_of_length_le (by have := HK.out; omega)]
              subst ho
              clear d1 k0
              have HQc := Aside0.mk (Kd.R_reads' HRp.out).2.2
              have HPc := Aside0.mk (Kd.C_below HPc0.out HBp.out)
              have HEa := Aside0.mk (blk_below HEa0.out HBp.out)
              have HEb := Aside0.mk (blk_below HEb0.out HBp.out)
              have HBall := Aside0.mk (below_step HBall0.out HBp.out)
              clear HPc0 HEa0 HEb0 HBall0
              go_wp2_with (first | (go_at_call 16; (with_reducible refine (joined_c Apa cpa a _ HPc.out (Nat.le_trans HAL.out.1 (by omega)) (Nat.le_trans HAL.out.2 (by omega))).mono ?_); rw [HJa.out]; rintro e_ w12 ⟨vj, rfl, hR, hb⟩; obtain ⟨Aj, cj, rfl⟩ := Kd.R_slice hR; have HJ1 := Aside0.mk (Kd.R_reads' hR).2.2; have HJ1b := Aside0.mk hb; clear hR hb) | (go_at_call 16; (with_reducible refine (joined_c Ap cp bl _ (Kd.C_below HQc.out HJ1b.out) HBL.out HBL3.out).mono ?_); rw [HJb.out]; rintro e_ w13 ⟨vj2, rfl, hR, hb⟩; obtain ⟨Aj2, cj2, rfl⟩ := Kd.R_slice hR; have HTJ := Aside0.mk (show TwoJ w w13 Aj Aj2 cj cj2 J from ⟨Kd.C_below HJ1.out hb, (Kd.R_reads' hR).2.2, below_step (below_step HBall.out HJ1b.out) hb⟩); have HE1 := Aside0.mk (blk_below (blk_below HEa.out HJ1b.out) hb); have HE2 := Aside0.mk (blk_below (blk_below HEb.out HJ1b.out) hb); clear hR hb) | (go_at_call 17; (with_reducible refine (end_c g1 _ _ HE1.out).mono ?_); rw [HV1.out]; rintro e_ w14 ⟨rfl, hd_⟩; have n0_ := Aside0.mk (HTJ.out.below (drawn_below hd_)); have n1_ := Aside0.mk (blk_below HE2.out (drawn_below hd_)); clear hd_ HTJ HE2; have HTJ := n0_; have HE2 := n1_; clear n0_ n1_) | (go_at_call 17; (with_reducible refine (end_c g2 _ _ HE2.out).mono ?_); rw [HV2.out]; rintro e_ w14 ⟨rfl, hd_⟩; have n0_ := Aside0.mk (HTJ.out.below (drawn_below hd_)); have n1_ := Aside0.mk (blk_below HE2.out (drawn_below hd_)); clear hd_ HTJ HE2; have HTJ := n0_; have HE2 := n1_; clear n0_ n1_))
              go_loopw [24] (fun v24 wr2 => ∃ k : Int, v24 = .int .i64 k ∧ Aside0 (0 ≤ k ∧ k ≤ J.length) ∧ Aside0 (TwoJ w wr2 Aj Aj2 cj cj2 J)) (fun v24 _ => ((J.length : Int) - intOf v24).toNat)
              case atStart => exact ⟨0, rfl, ⟨by omega⟩, HTJ⟩
              case round =>
                clear HTJ
                obtain ⟨k, rfl, HKK, HQ⟩ := hrel
                have k0 := HKK.out.1
                by_cases d1 : k < (J.length : Int)
                rotate_left
                · have M1 : decide (k < (J.length : Int)) = false := decide_eq_false d1
                  clear d1 k0
                  go_wp2_with (fail)
                  go_ret
                  exact ⟨rfl, HQ.out.bel⟩
                have M1 : decide (k < (J.length : Int)) = true := decide_eq_true d1
                have hdr := HQ.out.below (below_drew1 (Below.refl _ _))
                obtain ⟨ad1, hA1, rowsx⟩ := crow_at hdr.ra k k0 d1
                obtain ⟨ad2, hA2, rowsy⟩ := crow_at hdr.rb k k0 d1
                obtain ⟨x0, x1⟩ := rowsx _ (Below.refl _ _)
                obtain ⟨y0, y1⟩ := rowsy _ (Below.refl _ _)
                clear rowsx rowsy
                generalize (J.getD k.toNat z39).f0 = e0 at x0 y0
                generalize (J.getD k.toNat z39).f1 = e1 at x1 y1
                subst hA1 hA2
                have r0 := eq_true k0
                have r1 := eq_true d1
                have hv1 : wrap64 (k + 1) = k + 1 := by have := HJL.out; unfold wrap64; omega
                have hv2 : IntKind.i64.wrap (k + 1) = k + 1 := (i64_w _).trans hv1
                have HKD := Aside0.mk (And.intro k0 d1)
                have HQD := Aside0.mk hdr
                clear d1 k0 hdr
                go_wp2_with (fail)
                refine wp_region_still_lit (by kernel_rfl) (by kernel_rfl) ?_
                change wpStill _ _ (World.drew _) (fun a' => _) _ _
                repeat (first | still_step)
                refine wpStill_nil ?_
                go_wp2_with (fail)
                go_roundw
                case rel => exact ⟨k + 1, rfl, ⟨by have := HKD.out; omega⟩, HQD⟩
                case measure => have := HKD.out; simp [intOf]; omega
            have M1 : decide (k < (bl.length : Int)) = true := decide_eq_true d1
            obtain ⟨ad, hA, rows⟩ := crow_at HCb.out k k0 d1
            subst hA
            have htk := take_snoc bl k.toNat (by omega)
            obtain ⟨x0, x1⟩ := rows wr.drew (below_drew1 HBp.out)
            generalize bl.getD k.toNat z39 = x at x0 x1 htk rows
            obtain ⟨kk, dd⟩ := x
            dsimp only at x0 x1 rows
            have hnx : bl.take (k + 1).toNat = o ++ [⟨kk, dd⟩] := by rw [show (k + 1).toNat = k.toNat + 1 by omega, htk, ← HK.out.2.2.1]
            have r0 := eq_true k0
            have r1 := eq_true d1
            have hv1 : wrap64 (k + 1) = k + 1 := by have := HBL.out; unfold wrap64; omega
            have hv2 : IntKind.i64.wrap (k + 1) = k + 1 := (i64_w _).trans hv1
            have HKD := Aside0.mk (And.intro k0 d1)
            have HNX := Aside0.mk hnx
            have HRd := Aside0.mk (Kd.R_drew HRp.out)
            have HBd := Aside0.mk (below_drew1 HBp.out)
            have HROWS := Aside0.mk rows
            clear d1 k0 htk hnx rows
            go_wp2_with (fail)
            refine Calm.wp_region_calmC [(5, fun w_ => w_.cell? (ad.add (k.toNat * 2)) = some (.int .i64 kk)), (10, fun w_ => w_.cell? ⟨(ad.add (k.toNat * 2)).block, (ad.add (k.toNat * 2)).off + 1, none⟩ = some (.string dd))] [0, 1, 2, 3, 4, 5, 6, 7, 8, 9, 10, 11] [12, 13, 14] (by kernel_rfl) (by kernel_rfl) (Calm.allC_cons (by exact x0) (Calm.allC_cons (by exact x1) Calm.allC_nil)) ?_
            repeat (first
              | (refine Calm.g_value (v := ?_) (a' := ?_) rfl rfl (by rfl) ?_ ?_ ?_; rotate_left; (· rintro w' hS'; (try simp only [Calm.SC_cons, Calm.SC_nil, Nat.reduceEqDiff, forall_const, false_implies, and_true, true_and] at hS'); (try obtain ⟨hS1, hS2⟩ := hS'); go_simp; with_reducible rfl); rotate_left; (· simp only [Act.put, List.setIfInBounds_toArray, List.set_cons_zero, List.set_cons_succ, i64_w, i32_w]; rfl)))
            refine Calm.g_nil ?_
            refine Calm.c_value (v := ?_) (w1 := ?_) (a' := ?_) rfl rfl (by rfl) ?_ ?_ ?_ ?_
            rotate_left
            rotate_left
            · go_simp; first | (refine And.intro ?_ ?_ <;> rfl) | rfl
            · repeat (first | exact Calm.okC_nil | (refine Calm.okC_cons (Or.inl (by decide +kernel)) ?_) | (refine Calm.okC_cons (Or.inr (by (first | assumption | (go_simp; done)))) ?_))
            rotate_left
            · simp only [Act.put, List.setIfInBounds_toArray, List.set_cons_zero, List.set_cons_succ, i64_w, i32_w]; rfl
            refine Calm.c_law rfl ?_
            refine Kd.R_append_step k39 (w0 := w10) w10.heap.size (by rfl) (.tmp 124) (.tmp 136) 37 40 (.agg #[.int .i64 0, .string (⟨#[]⟩ : ByteArray)]) 24 rfl Tryd.underlying37 info40_ rfl (by decide) (by omega) (.slice Ap o.length cp) o ⟨kk, dd⟩ [.int .i64 kk, .string dd] (fun k => w10.heap.size ≤ k) (fun _ => False) rfl rfl ?aP (fun _ hk => hk.elim) ?aF HRd.out HBd.out ?aS ?aL ?_
            case aP => exact k39_mkM _ _ _ _
            case aF => exact fun k hk => Nat.le_trans HBd.out.size hk
            case aS => exact HBd.out.size
            case aL => have h1_ := HKD.out; have h2_ := HK.out; have h3_ := HBL.out; omega
            intro v6 w6 hR6 hB6 hg6 hat
            obtain ⟨A6, cp6, rfl⟩ := Kd.R_slice hR6
            have HR6 := Aside0.mk hR6
            have HB6 := Aside0.mk hB6
            clear hR6 hB6 hg6 hat
            refine And.intro ?_ ?_
            · repeat (first | exact Calm.okC_nil | (refine Calm.okC_cons (Or.inl (by decide +kernel)) ?_) | (refine Calm.okC_cons (Or.inr (by (first | assumption | (go_simp; done)))) ?_))
            refine Calm.put_dst (a' := ?_) rfl ?_ ?_
            rotate_left
            · simp only [Act.put, List.setIfInBounds_toArray, List.set_cons_zero, List.set_cons_succ, i64_w, i32_w]; rfl
            refine Calm.c_value (v := ?_) (w1 := ?_) (a' := ?_) rfl rfl (by rfl) ?_ ?_ ?_ ?_
            rotate_left
            rotate_left
            · go_simp; first | (refine And.intro ?_ ?_ <;> rfl) | rfl
            · repeat (first | exact Calm.okC_nil | (refine Calm.okC_cons (Or.inl (by decide +kernel)) ?_) | (refine Calm.okC_cons (Or.inr (by (first | assumption | (go_simp; done)))) ?_))
            rotate_left
            · simp only [Act.put, List.setIfInBounds_toArray, List.set_cons_zero, List.set_cons_succ, i64_w, i32_w]; rfl
            refine Calm.h_nil ?_
            simp only [Exit.inBlock, Exit.then]
            go_wp2_with (fail)
            go_roundw
            case rel => exact ⟨A6, cp6, o ++ [⟨kk, dd⟩], k + 1, by rw [List.length_append]; rfl, rfl, ⟨by have := HKD.out; omega, by have := HKD.out; omega, HNX.out.symm, by have := HKD.out; have h2_ := HK.out; rw [List.length_append]; simp; omega⟩, HR6, HB6⟩
            case measure => have := HKD.out; simp [intOf]; omega
        have M1 : decide (k < (a.length : Int)) = true := decide_eq_true d1
        obtain ⟨ad, hA, rows⟩ := crow_at HCa.out k k0 d1
        subst hA
        have htk := take_snoc a k.toNat (by omega)
        obtain ⟨x0, x1⟩ := rows wr.drew (below_drew1 HBp.out)
        generalize a.getD k.toNat z39 = x at x0 x1 htk rows
        obtain ⟨kk, dd⟩ := x
        dsimp only at x0 x1 rows
        have hnx : a.take (k + 1).toNat = o ++ [⟨kk, dd⟩] := by rw [show (k + 1).toNat = k.toNat + 1 by omega, htk, ← HK.out.2.2.1]
        have r0 := eq_true k0
        have r1 := eq_true d1
        have hv1 : wrap64 (k + 1) = k + 1 := by have := HAL.out.1; unfold wrap64; omega
        have hv2 : IntKind.i64.wrap (k + 1) = k + 1 := (i64_w _).trans hv1
        have HKD := Aside0.mk (And.intro k0 d1)
        have HNX := Aside0.mk hnx
        have HRd := Aside0.mk (Kd.R_drew HRp.out)
        have HBd := Aside0.mk (below_drew1 HBp.out)
        have HROWS := Aside0.mk rows
        clear d1 k0 htk hnx rows
        go_wp2_with (fail)
        refine Calm.wp_region_calmC [(5, fun w_ => w_.cell? (ad.add (k.toNat * 2)) = some (.int .i64 kk)), (10, fun w_ => w_.cell? ⟨(ad.add (k.toNat * 2)).block, (ad.add (k.toNat * 2)).off + 1, none⟩ = some (.string dd))] [0, 1, 2, 3, 4, 5, 6, 7, 8, 9, 10, 11] [12, 13, 14] (by kernel_rfl) (by kernel_rfl) (Calm.allC_cons (by exact x0) (Calm.allC_cons (by exact x1) Calm.allC_nil)) ?_
        repeat (first
          | (refine Calm.g_value (v := ?_) (a' := ?_) rfl rfl (by rfl) ?_ ?_ ?_; rotate_left; (· rintro w' hS'; (try simp only [Calm.SC_cons, Calm.SC_nil, Nat.reduceEqDiff, forall_const, false_implies, and_true, true_and] at hS'); (try obtain ⟨hS1, hS2⟩ := hS'); go_simp; with_reducible rfl); rotate_left; (· simp only [Act.put, List.setIfInBounds_toArray, List.set_cons_zero, List.set_cons_succ, i64_w, i32_w]; rfl)))
        refine Calm.g_nil ?_
        refine Calm.c_value (v := ?_) (w1 := ?_) (a' := ?_) rfl rfl (by rfl) ?_ ?_ ?_ ?_
        rotate_left
        rotate_left
        · go_simp; first | (refine And.intro ?_ ?_ <;> rfl) | rfl
        · repeat (first | exact Calm.okC_nil | (refine Calm.okC_cons (Or.inl (by decide +kernel)) ?_) | (refine Calm.okC_cons (Or.inr (by (first | assumption | (go_simp; done)))) ?_))
        rotate_left
        · simp only [Act.put, List.setIfInBounds_toArray, List.set_cons_zero, List.set_cons_succ, i64_w, i32_w]; rfl
        refine Calm.c_law rfl ?_
        refine Kd.R_append_step k39 (w0 := wb) wb.heap.size (by rfl) (.tmp 104) (.tmp 116) 37 40 (.agg #[.int .i64 0, .string (⟨#[]⟩ : ByteArray)]) 24 rfl Tryd.underlying37 info40_ rfl (by decide) (by omega) (.slice Ap o.length cp) o ⟨kk, dd⟩ [.int .i64 kk, .string dd] (fun k => wb.heap.size ≤ k) (fun _ => False) rfl rfl ?aP (fun _ hk => hk.elim) ?aF HRd.out HBd.out ?aS ?aL ?_
        case aP => exact k39_mkM _ _ _ _
        case aF => exact fun k hk => Nat.le_trans HBd.out.size hk
        case aS => exact HBd.out.size
        case aL => have h1_ := HKD.out; have h2_ := HK.out; have h3_ := HAL.out.1; omega
        intro v6 w6 hR6 hB6 hg6 hat
        obtain ⟨A6, cp6, rfl⟩ := Kd.R_slice hR6
        have HR6 := Aside0.mk hR6
        have HB6 := Aside0.mk hB6
        clear hR6 hB6 hg6 hat
        refine And.intro ?_ ?_
        · repeat (first | exact Calm.okC_nil | (refine Calm.okC_cons (Or.inl (by decide +kernel)) ?_) | (refine Calm.okC_cons (Or.inr (by (first | assumption | (go_simp; done)))) ?_))
        refine Calm.put_dst (a' := ?_) rfl ?_ ?_
        rotate_left
        · simp only [Act.put, List.setIfInBounds_toArray, List.set_cons_zero, List.set_cons_succ, i64_w, i32_w]; rfl
        refine Calm.c_value (v := ?_) (w1 := ?_) (a' := ?_) rfl rfl (by rfl) ?_ ?_ ?_ ?_
        rotate_left
        rotate_left
        · go_simp; first | (refine And.intro ?_ ?_ <;> rfl) | rfl
        · repeat (first | exact Calm.okC_nil | (refine Calm.okC_cons (Or.inl (by decide +kernel)) ?_) | (refine Calm.okC_cons (Or.inr (by (first | assumption | (go_simp; done)))) ?_))
        rotate_left
        · simp only [Act.put, List.setIfInBounds_toArray, List.set_cons_zero, List.set_cons_succ, i64_w, i32_w]; rfl
        refine Calm.h_nil ?_
        simp only [Exit.inBlock, Exit.then]
        go_wp2_with (fail)
        go_roundw
        case rel => exact ⟨A6, cp6, o ++ [⟨kk, dd⟩], k + 1, by rw [List.length_append]; rfl, rfl, ⟨by have := HKD.out; omega, by have := HKD.out; omega, HNX.out.symm, by have := HKD.out; have h2_ := HK.out; rw [List.length_append]; simp; omega⟩, HR6, HB6⟩
        case measure => have := HKD.out; simp [intOf]; omega
    have K2 : decide (i < 200) = true := decide_eq_true c2
    by_cases hz : dc = 0
    rotate_left
    · clear c1 c2
      obtain ⟨L, hL, heq⟩ := HD.out
      obtain ⟨r'', hr'', hcd⟩ := runs_fault hL (inv_addr (inv_init ctl) _) rfl (by rw [HDC.out]; exact hz) (s.extract p.toNat s.size)
      rw [addr_addr, hsplit] at hr''
      obtain ⟨ea, eb⟩ := runs_det HDA.out hr''
      have hcc : ra.code = dc := by rw [eb, hcd]; exact HDC.out
      obtain ⟨bq, hbq⟩ : ∃ q, bl = q := ⟨_, rfl⟩
      subst hbq
      have HEQ := Aside0.mk (show Jn [] a = Jn [] bl by rw [ea]; exact heq [])
      have HEN := Aside0.mk (show endc ra = endc rm by rw [endc_code (by rw [hcc]; exact hz), endc_code (by rw [HDC.out]; exact hz), hcc]; exact HDC.out.symm)
      have HBL := Aside0.mk (show bl.length ≤ 100000 by have := HMI0.out.2; have := HSZ.out; omega)
      have E0 : (dc == 0) = false := beq_eq_false_iff_ne.mpr hz
      have E1 : (dc != 0) = true := bne_iff_ne.mpr hz
      clear hL heq hr'' hcd ea eb hi0 hp0 hp1 hsplit hz
      have E2 : (ra.code != dc) = false := by rw [hcc]; simp
      go_wp2_with (fail)
      obtain ⟨wb, hwb⟩ : ∃ x, x = wr := ⟨_, rfl⟩
      subst hwb
      have HX := HC
      have HCa := Aside0.mk (Kd.R_reads' HX.out.ra).2.2
      have HCb0 := Aside0.mk (Kd.R_reads' HX.out.rb).2.2
      obtain ⟨J, hJ⟩ : ∃ j, Jn [] a = j := ⟨_, rfl⟩
      have HJa := Aside0.mk hJ
      have HJb := Aside0.mk (show Jn [] bl = J by rw [← hJ]; exact HEQ.out.symm)
      have HJL := Aside0.mk (show J.length ≤ 3000 by have h1 := Jn_len a []; rw [hJ] at h1; have h2 := HAL.out; simp at h1; omega)
      have HBL3 := Aside0.mk (show (catEv bl).size ≤ 100000 by have h1 := catEv_Jn bl []; have h2 := catEv_Jn a []; rw [HJb.out] at h1; rw [hJ] at h2; have h3 := HAL.out.2; have h4 : (catEv []) ++ catEv bl = catEv bl := nil_app _; have h5 : (catEv []) ++ catEv a = catEv a := nil_app _; rw [h4] at h1; rw [h5] at h2; rw [← h1, h2]; omega)
      clear hJ
      obtain ⟨en, hen⟩ : ∃ x, endc ra = x := ⟨_, rfl⟩
      have HV1 := Aside0.mk hen
      have HV2 := Aside0.mk (show endc rm = en by rw [← hen]; first | done | exact HEN.out.symm)
      clear hen
      go_loopw [20, 22] (fun vp vi wr2 => ∃ (Ap : Option Addr) (cp : Nat) (o : List S39) (k : Int), vp = .slice Ap o.length cp ∧ vi = .int .i64 k ∧ Aside0 (0 ≤ k ∧ k ≤ a.length ∧ o = a.take k.toNat ∧ o.length = k.toNat) ∧ Aside0 (Kd.R k39 40 wr2 wb.heap.size (fun k => wb.heap.size ≤ k) (.slice Ap o.length cp) o) ∧ Aside0 (Below wb.heap.size wb wr2)) (fun _ vi _ => ((a.length : Int) - intOf vi).toNat)
      case atStart => exact ⟨none, 0, [], 0, rfl, rfl, ⟨by omega, by omega, rfl, rfl⟩, ⟨Kd.R_nil _ _ _ _ _⟩, ⟨Below.refl _ _⟩⟩
      case round =>
        obtain ⟨Ap, cp, o, k, rfl, rfl, HK, HRp, HBp⟩ := hrel
        have k0 := HK.out.1
        by_cases d1 : k < (a.length : Int)
        rotate_left
        · have M1 : decide (k < (a.length : Int)) = false := decide_eq_false d1
          have ho : a = o := by rw [HK.out.2.2.1, List.take_of_length_le (by have := HK.out; omega)]
          subst ho
          clear d1 k0
          obtain ⟨w10, hw10⟩ : ∃ x, x = wr := ⟨_, rfl⟩
          subst hw10
          have HPc0 := Aside0.mk (Kd.R_reads' HRp.out).2.2
          have HCb := Aside0.mk (Kd.C_below HCb0.out HBp.out)
          have HEa0 := Aside0.mk (blk_below HX.out.b1 HBp.out)
          have HEb0 := Aside0.mk (blk_below HX.out.b2 HBp.out)
          have HBall0 := Aside0.mk (below_step HX.out.bel HBp.out)
          clear HRp HBp HCb0
          obtain ⟨Apa, hApa⟩ : ∃ x, x = Ap := ⟨_, rfl⟩
          obtain ⟨cpa, hcpa⟩ : ∃ x, x = cp := ⟨_, rfl⟩
          subst hApa hcpa
          clear HK
          go_wp2_with (fail)
          go_loopw [21, 23] (fun vp vi wr2 => ∃ (Ap : Option Addr) (cp : Nat) (o : List S39) (k : Int), vp = .slice Ap o.length cp ∧ vi = .int .i64 k ∧ Aside0 (0 ≤ k ∧ k ≤ bl.length ∧ o = bl.take k.toNat ∧ o.length = k.toNat) ∧ Aside0 (Kd.R k39 40 wr2 w10.heap.size (fun k => w10.heap.size ≤ k) (.slice Ap o.length cp) o) ∧ Aside0 (Below w10.heap.size w10 wr2)) (fun _ vi _ => ((bl.length : Int) - intOf vi).toNat)
          case atStart => exact ⟨none, 0, [], 0, rfl, rfl, ⟨by omega, by omega, rfl, rfl⟩, ⟨Kd.R_nil _ _ _ _ _⟩, ⟨Below.refl _ _⟩⟩
          case round =>
            obtain ⟨Ap, cp, o, k, rfl, rfl, HK, HRp, HBp⟩ := hrel
            have k0 := HK.out.1
            by_cases d1 : k < (bl.length : Int)
            rotate_left
            · have M1 : decide (k < (bl.length : Int)) = false := decide_eq_false d1
              have ho : bl = o := by rw [HK.out.2.2.1, List.take_of_length_le (by have := HK.out; omega)]
              subst ho
              clear d1 k0
              have HQc := Aside0.mk (Kd.R_reads' HRp.out).2.2
              have HPc := Aside0.mk (Kd.C_below HPc0.out HBp.out)
              have HEa := Aside0.mk (blk_below HEa0.out HBp.out)
              have HEb := Aside0.mk (blk_below HEb0.out HBp.out)
              have HBall := Aside0.mk (below_step HBall0.out HBp.out)
              clear HPc0 HEa0 HEb0 HBall0
              go_wp2_with (first | (go_at_call 16; (with_reducible refine (joined_c Apa cpa a _ HPc.out (Nat.le_trans HAL.out.1 (by omega)) (Nat.le_trans HAL.out.2 (by omega))).mono ?_); rw [HJa.out]; rintro e_ w12 ⟨vj, rfl, hR, hb⟩; obtain ⟨Aj, cj, rfl⟩ := Kd.R_slice hR; have HJ1 := Aside0.mk (Kd.R_reads' hR).2.2; have HJ1b := Aside0.mk hb; clear hR hb) | (go_at_call 16; (with_reducible refine (joined_c Ap cp bl _ (Kd.C_below HQc.out HJ1b.out) HBL.out HBL3.out).mono ?_); rw [HJb.out]; rintro e_ w13 ⟨vj2, rfl, hR, hb⟩; obtain ⟨Aj2, cj2, rfl⟩ := Kd.R_slice hR; have HTJ := Aside0.mk (show TwoJ w w13 Aj Aj2 cj cj2 J from ⟨Kd.C_below HJ1.out hb, (Kd.R_reads' hR).2.2, below_step (below_step HBall.out HJ1b.out) hb⟩); have HE1 := Aside0.mk (blk_below (blk_below HEa.out HJ1b.out) hb); have HE2 := Aside0.mk (blk_below (blk_below HEb.out HJ1b.out) hb); clear hR hb) | (go_at_call 17; (with_reducible refine (end_c g1 _ _ HE1.out).mono ?_); rw [HV1.out]; rintro e_ w14 ⟨rfl, hd_⟩; have n0_ := Aside0.mk (HTJ.out.below (drawn_below hd_)); have n1_ := Aside0.mk (blk_below HE2.out (drawn_below hd_)); clear hd_ HTJ HE2; have HTJ := n0_; have HE2 := n1_; clear n0_ n1_) | (go_at_call 17; (with_reducible refine (end_c g2 _ _ HE2.out).mono ?_); rw [HV2.out]; rintro e_ w14 ⟨rfl, hd_⟩; have n0_ := Aside0.mk (HTJ.out.below (drawn_below hd_)); have n1_ := Aside0.mk (blk_below HE2.out (drawn_below hd_)); clear hd_ HTJ HE2; have HTJ := n0_; have HE2 := n1_; clear n0_ n1_))
              go_loopw [24] (fun v24 wr2 => ∃ k : Int, v24 = .int .i64 k ∧ Aside0 (0 ≤ k ∧ k ≤ J.length) ∧ Aside0 (TwoJ w wr2 Aj Aj2 cj cj2 J)) (fun v24 _ => ((J.length : Int) - intOf v24).toNat)
              case atStart => exact ⟨0, rfl, ⟨by omega⟩, HTJ⟩
              case round =>
                clear HTJ
                obtain ⟨k, rfl, HKK, HQ⟩ := hrel
                have k0 := HKK.out.1
                by_cases d1 : k < (J.length : Int)
                rotate_left
                · have M1 : decide (k < (J.length : Int)) = false := decide_eq_false d1
                  clear d1 k0
                  go_wp2_with (fail)
                  go_ret
                  exact ⟨rfl, HQ.out.bel⟩
                have M1 : decide (k < (J.length : Int)) = true := decide_eq_true d1
                have hdr := HQ.out.below (below_drew1 (Below.refl _ _))
                obtain ⟨ad1, hA1, rowsx⟩ := crow_at hdr.ra k k0 d1
                obtain ⟨ad2, hA2, rowsy⟩ := crow_at hdr.rb k k0 d1
                obtain ⟨x0, x1⟩ := rowsx _ (Below.refl _ _)
                obtain ⟨y0, y1⟩ := rowsy _ (Below.refl _ _)
                clear rowsx rowsy
                generalize (J.getD k.toNat z39).f0 = e0 at x0 y0
                generalize (J.getD k.toNat z39).f1 = e1 at x1 y1
                subst hA1 hA2
                have r0 := eq_true k0
                have r1 := eq_true d1
                have hv1 : wrap64 (k + 1) = k + 1 := by have := HJL.out; unfold wrap64; omega
                have hv2 : IntKind.i64.wrap (k + 1) = k + 1 := (i64_w _).trans hv1
                have HKD := Aside0.mk (And.intro k0 d1)
                have HQD := Aside0.mk hdr
                clear d1 k0 hdr
                go_wp2_with (fail)
                refine wp_region_still_lit (by kernel_rfl) (by kernel_rfl) ?_
                change wpStill _ _ (World.drew _) (fun a' => _) _ _
                repeat (first | still_step)
                refine wpStill_nil ?_
                go_wp2_with (fail)
                go_roundw
                case rel => exact ⟨k + 1, rfl, ⟨by have := HKD.out; omega⟩, HQD⟩
                case measure => have := HKD.out; simp [intOf]; omega
            have M1 : decide (k < (bl.length : Int)) = true := decide_eq_true d1
            obtain ⟨ad, hA, rows⟩ := crow_at HCb.out k k0 d1
            subst hA
            have htk := take_snoc bl k.toNat (by omega)
            obtain ⟨x0, x1⟩ := rows wr.drew (below_drew1 HBp.out)
            generalize bl.getD k.toNat z39 = x at x0 x1 htk rows
            obtain ⟨kk, dd⟩ := x
            dsimp only at x0 x1 rows
            have hnx : bl.take (k + 1).toNat = o ++ [⟨kk, dd⟩] := by rw [show (k + 1).toNat = k.toNat + 1 by omega, htk, ← HK.out.2.2.1]
            have r0 := eq_true k0
            have r1 := eq_true d1
            have hv1 : wrap64 (k + 1) = k + 1 := by have := HBL.out; unfold wrap64; omega
            have hv2 : IntKind.i64.wrap (k + 1) = k + 1 := (i64_w _).trans hv1
            have HKD := Aside0.mk (And.intro k0 d1)
            have HNX := Aside0.mk hnx
            have HRd := Aside0.mk (Kd.R_drew HRp.out)
            have HBd := Aside0.mk (below_drew1 HBp.out)
            have HROWS := Aside0.mk rows
            clear d1 k0 htk hnx rows
            go_wp2_with (fail)
            refine Calm.wp_region_calmC [(5, fun w_ => w_.cell? (ad.add (k.toNat * 2)) = some (.int .i64 kk)), (10, fun w_ => w_.cell? ⟨(ad.add (k.toNat * 2)).block, (ad.add (k.toNat * 2)).off + 1, none⟩ = some (.string dd))] [0, 1, 2, 3, 4, 5, 6, 7, 8, 9, 10, 11] [12, 13, 14] (by kernel_rfl) (by kernel_rfl) (Calm.allC_cons (by exact x0) (Calm.allC_cons (by exact x1) Calm.allC_nil)) ?_
            repeat (first
              | (refine Calm.g_value (v := ?_) (a' := ?_) rfl rfl (by rfl) ?_ ?_ ?_; rotate_left; (· rintro w' hS'; (try simp only [Calm.SC_cons, Calm.SC_nil, Nat.reduceEqDiff, forall_const, false_implies, and_true, true_and] at hS'); (try obtain ⟨hS1, hS2⟩ := hS'); go_simp; with_reducible rfl); rotate_left; (· simp only [Act.put, List.setIfInBounds_toArray, List.set_cons_zero, List.set_cons_succ, i64_w, i32_w]; rfl)))
            refine Calm.g_nil ?_
            refine Calm.c_value (v := ?_) (w1 := ?_) (a' := ?_) rfl rfl (by rfl) ?_ ?_ ?_ ?_
            rotate_left
            rotate_left
            · go_simp; first | (refine And.intro ?_ ?_ <;> rfl) | rfl
            · repeat (first | exact Calm.okC_nil | (refine Calm.okC_cons (Or.inl (by decide +kernel)) ?_) | (refine Calm.okC_cons (Or.inr (by (first | assumption | (go_simp; done)))) ?_))
            rotate_left
            · simp only [Act.put, List.setIfInBounds_toArray, List.set_cons_zero, List.set_cons_succ, i64_w, i32_w]; rfl
            refine Calm.c_law rfl ?_
            refine Kd.R_append_step k39 (w0 := w10) w10.heap.size (by rfl) (.tmp 124) (.tmp 136) 37 40 (.agg #[.int .i64 0, .string (⟨#[]⟩ : ByteArray)]) 24 rfl Tryd.underlying37 info40_ rfl (by decide) (by omega) (.slice Ap o.length cp) o ⟨kk, dd⟩ [.int .i64 kk, .string dd] (fun k => w10.heap.size ≤ k) (fun _ => False) rfl rfl ?aP (fun _ hk => hk.elim) ?aF HRd.out HBd.out ?aS ?aL ?_
            case aP => exact k39_mkM _ _ _ _
            case aF => exact fun k hk => Nat.le_trans HBd.out.size hk
            case aS => exact HBd.out.size
            case aL => have h1_ := HKD.out; have h2_ := HK.out; have h3_ := HBL.out; omega
            intro v6 w6 hR6 hB6 hg6 hat
            obtain ⟨A6, cp6, rfl⟩ := Kd.R_slice hR6
            have HR6 := Aside0.mk hR6
            have HB6 := Aside0.mk hB6
            clear hR6 hB6 hg6 hat
            refine And.intro ?_ ?_
            · repeat (first | exact Calm.okC_nil | (refine Calm.okC_cons (Or.inl (by decide +kernel)) ?_) | (refine Calm.okC_cons (Or.inr (by (first | assumption | (go_simp; done)))) ?_))
            refine Calm.put_dst (a' := ?_) rfl ?_ ?_
            rotate_left
            · simp only [Act.put, List.setIfInBounds_toArray, List.set_cons_zero, List.set_cons_succ, i64_w, i32_w]; rfl
            refine Calm.c_value (v := ?_) (w1 := ?_) (a' := ?_) rfl rfl (by rfl) ?_ ?_ ?_ ?_
            rotate_left
            rotate_left
            · go_simp; first | (refine And.intro ?_ ?_ <;> rfl) | rfl
            · repeat (first | exact Calm.okC_nil | (refine Calm.okC_cons (Or.inl (by decide +kernel)) ?_) | (refine Calm.okC_cons (Or.inr (by (first | assumption | (go_simp; done)))) ?_))
            rotate_left
            · simp only [Act.put, List.setIfInBounds_toArray, List.set_cons_zero, List.set_cons_succ, i64_w, i32_w]; rfl
            refine Calm.h_nil ?_
            simp only [Exit.inBlock, Exit.then]
            go_wp2_with (fail)
            go_roundw
            case rel => exact ⟨A6, cp6, o ++ [⟨kk, dd⟩], k + 1, by rw [List.length_append]; rfl, rfl, ⟨by have := HKD.out; omega, by have := HKD.out; omega, HNX.out.symm, by have := HKD.out; have h2_ := HK.out; rw [List.length_append]; simp; omega⟩, HR6, HB6⟩
            case measure => have := HKD.out; simp [intOf]; omega
        have M1 : decide (k < (a.length : Int)) = true := decide_eq_true d1
        obtain ⟨ad, hA, rows⟩ := crow_at HCa.out k k0 d1
        subst hA
        have htk := take_snoc a k.toNat (by omega)
        obtain ⟨x0, x1⟩ := rows wr.drew (below_drew1 HBp.out)
        generalize a.getD k.toNat z39 = x at x0 x1 htk rows
        obtain ⟨kk, dd⟩ := x
        dsimp only at x0 x1 rows
        have hnx : a.take (k + 1).toNat = o ++ [⟨kk, dd⟩] := by rw [show (k + 1).toNat = k.toNat + 1 by omega, htk, ← HK.out.2.2.1]
        have r0 := eq_true k0
        have r1 := eq_true d1
        have hv1 : wrap64 (k + 1) = k + 1 := by have := HAL.out.1; unfold wrap64; omega
        have hv2 : IntKind.i64.wrap (k + 1) = k + 1 := (i64_w _).trans hv1
        have HKD := Aside0.mk (And.intro k0 d1)
        have HNX := Aside0.mk hnx
        have HRd := Aside0.mk (Kd.R_drew HRp.out)
        have HBd := Aside0.mk (below_drew1 HBp.out)
        have HROWS := Aside0.mk rows
        clear d1 k0 htk hnx rows
        go_wp2_with (fail)
        refine Calm.wp_region_calmC [(5, fun w_ => w_.cell? (ad.add (k.toNat * 2)) = some (.int .i64 kk)), (10, fun w_ => w_.cell? ⟨(ad.add (k.toNat * 2)).block, (ad.add (k.toNat * 2)).off + 1, none⟩ = some (.string dd))] [0, 1, 2, 3, 4, 5, 6, 7, 8, 9, 10, 11] [12, 13, 14] (by kernel_rfl) (by kernel_rfl) (Calm.allC_cons (by exact x0) (Calm.allC_cons (by exact x1) Calm.allC_nil)) ?_
        repeat (first
          | (refine Calm.g_value (v := ?_) (a' := ?_) rfl rfl (by rfl) ?_ ?_ ?_; rotate_left; (· rintro w' hS'; (try simp only [Calm.SC_cons, Calm.SC_nil, Nat.reduceEqDiff, forall_const, false_implies, and_true, true_and] at hS'); (try obtain ⟨hS1, hS2⟩ := hS'); go_simp; with_reducible rfl); rotate_left; (· simp only [Act.put, List.setIfInBounds_toArray, List.set_cons_zero, List.set_cons_succ, i64_w, i32_w]; rfl)))
        refine Calm.g_nil ?_
        refine Calm.c_value (v := ?_) (w1 := ?_) (a' := ?_) rfl rfl (by rfl) ?_ ?_ ?_ ?_
        rotate_left
        rotate_left
        · go_simp; first | (refine And.intro ?_ ?_ <;> rfl) | rfl
        · repeat (first | exact Calm.okC_nil | (refine Calm.okC_cons (Or.inl (by decide +kernel)) ?_) | (refine Calm.okC_cons (Or.inr (by (first | assumption | (go_simp; done)))) ?_))
        rotate_left
        · simp only [Act.put, List.setIfInBounds_toArray, List.set_cons_zero, List.set_cons_succ, i64_w, i32_w]; rfl
        refine Calm.c_law rfl ?_
        refine Kd.R_append_step k39 (w0 := wb) wb.heap.size (by rfl) (.tmp 104) (.tmp 116) 37 40 (.agg #[.int .i64 0, .string (⟨#[]⟩ : ByteArray)]) 24 rfl Tryd.underlying37 info40_ rfl (by decide) (by omega) (.slice Ap o.length cp) o ⟨kk, dd⟩ [.int .i64 kk, .string dd] (fun k => wb.heap.size ≤ k) (fun _ => False) rfl rfl ?aP (fun _ hk => hk.elim) ?aF HRd.out HBd.out ?aS ?aL ?_
        case aP => exact k39_mkM _ _ _ _
        case aF => exact fun k hk => Nat.le_trans HBd.out.size hk
        case aS => exact HBd.out.size
        case aL => have h1_ := HKD.out; have h2_ := HK.out; have h3_ := HAL.out.1; omega
        intro v6 w6 hR6 hB6 hg6 hat
        obtain ⟨A6, cp6, rfl⟩ := Kd.R_slice hR6
        have HR6 := Aside0.mk hR6
        have HB6 := Aside0.mk hB6
        clear hR6 hB6 hg6 hat
        refine And.intro ?_ ?_
        · repeat (first | exact Calm.okC_nil | (refine Calm.okC_cons (Or.inl (by decide +kernel)) ?_) | (refine Calm.okC_cons (Or.inr (by (first | assumption | (go_simp; done)))) ?_))
        refine Calm.put_dst (a' := ?_) rfl ?_ ?_
        rotate_left
        · simp only [Act.put, List.setIfInBounds_toArray, List.set_cons_zero, List.set_cons_succ, i64_w, i32_w]; rfl
        refine Calm.c_value (v := ?_) (w1 := ?_) (a' := ?_) rfl rfl (by rfl) ?_ ?_ ?_ ?_
        rotate_left
        rotate_left
        · go_simp; first | (refine And.intro ?_ ?_ <;> rfl) | rfl
        · repeat (first | exact Calm.okC_nil | (refine Calm.okC_cons (Or.inl (by decide +kernel)) ?_) | (refine Calm.okC_cons (Or.inr (by (first | assumption | (go_simp; done)))) ?_))
        rotate_left
        · simp only [Act.put, List.setIfInBounds_toArray, List.set_cons_zero, List.set_cons_succ, i64_w, i32_w]; rfl
        refine Calm.h_nil ?_
        simp only [Exit.inBlock, Exit.then]
        go_wp2_with (fail)
        go_roundw
        case rel => exact ⟨A6, cp6, o ++ [⟨kk, dd⟩], k + 1, by rw [List.length_append]; rfl, rfl, ⟨by have := HKD.out; omega, by have := HKD.out; omega, HNX.out.symm, by have := HKD.out; have h2_ := HK.out; rw [List.length_append]; simp; omega⟩, HR6, HB6⟩
        case measure => have := HKD.out; simp [intOf]; omega
    subst hz
    obtain ⟨ad, x, hA, hx, rows⟩ := el HR.out HG.out.2 i hi0 c1
    subst hA
    have x0 := rows wr HC.out.bel
    have p0 := eq_true hi0
    have p1 := eq_true c1
    have hw1 : wrap64 (i + 1) = i + 1 := by unfold wrap64; omega
    have hw2 : IntKind.i64.wrap (i + 1) = i + 1 := (i64_w _).trans hw1
    have hu0 : 0 ≤ IntKind.u64.wrap x := (u64_range x).1
    obtain ⟨d, hd⟩ : ∃ d : Int, IntKind.u64.wrap x % 9 = d := ⟨_, rfl⟩
    have hd0 : 0 ≤ d ∧ d < 9 := by omega
    have ht1 : Int.tmod (IntKind.u64.wrap x) 9 = d := by rw [Int.tmod_eq_emod_of_nonneg hu0, hd]
    have hwd : wrap64 d = d := wrap_in _ (by omega) (by omega)
    have hs3 := HSZ.out
    have hws : wrap64 ((s.size : Int) - p) = (s.size : Int) - p := wrap_in _ (by omega) (by omega)
    have hnn : 0 ≤ (if d < (s.size : Int) - p then d else (s.size : Int) - p) ∧ p + (if d < (s.size : Int) - p then d else (s.size : Int) - p) ≤ s.size := by
      by_cases hq : d < (s.size : Int) - p
      · rw [if_pos hq]; omega
      · rw [if_neg hq]; omega
    obtain ⟨n, hn⟩ : ∃ n : Int, (if d < (s.size : Int) - p then d else (s.size : Int) - p) = n := ⟨_, rfl⟩
    rw [hn] at hnn
    have hwp : wrap64 (p + n) = p + n := wrap_in _ (by omega) (by omega)
    have q2 := eq_true (show p ≤ p + n by omega)
    have q3 := eq_true (show p + n ≤ (s.size : Int) by omega)
    have q4 := eq_true (show 0 ≤ p + n by omega)
    have hmid : s.extract 0 p.toNat ++ s.extract p.toNat (p + n).toNat = s.extract 0 (p + n).toNat := by rw [ByteArray.extract_append_extract, show min 0 p.toNat = 0 by omega, show max p.toNat (p + n).toNat = (p + n).toNat by omega]
    have hpz : (s.extract p.toNat (p + n).toNat).size = (p + n).toNat - p.toNat := by rw [ByteArray.size_extract]; omega
    obtain ⟨L, hL, heq⟩ := HD.out
    obtain ⟨l2, r2, hd2⟩ := runs_all _ (addr rm (s.extract p.toNat (p + n).toNat)) (inv_addr HMI.out _) (Nat.le_refl _)
    have h2 := runs_inv hd2 (inv_addr HMI.out _)
    have hrz : (addr rm (s.extract p.toNat (p + n).toNat)).rest.size = rm.rest.size + ((p + n).toNat - p.toNat) := by show (rm.rest ++ s.extract p.toNat (p + n).toNat).size = _; rw [ByteArray.size_append, hpz]
    rw [hrz] at h2
    have h4 := HMI0.out.2
    have hz2 : rm.rest.size + (s.extract p.toNat (p + n).toNat).size ≤ 100000 := by rw [hpz]; omega
    have hln : bl.length + l2.length ≤ 100000 := by omega
    obtain ⟨l3, hr3, he3⟩ := runs_app hL (inv_addr (inv_init ctl) _) HDC.out (s.extract p.toNat (p + n).toNat) l2 r2 hd2
    rw [addr_addr, hmid] at hr3
    have HDN := Aside0.mk (show ∃ L, Runs (addr (initR ctl) (s.extract 0 (p + n).toNat)) L r2 ∧ Eqv L (bl ++ l2) from ⟨l3, hr3, he3.trans (heq.app (Eqv.rfl' _))⟩)
    have HM0 := Aside0.mk (show rm.code = 0 from HDC.out)
    have HIN := Aside0.mk (show Inv r2 ∧ bl.length + l2.length + r2.rest.size ≤ (p + n).toNat from ⟨h2.1, by omega⟩)
    have HD2 := Aside0.mk (show Runs { rm with rest := rm.rest ++ s.extract p.toNat (p + n).toNat } l2 r2 from hd2)
    have HZ2 := Aside0.mk hz2
    have HLN := Aside0.mk hln
    have HIX := Aside0.mk (And.intro hi0 c2)
    have HPN := Aside0.mk (show 0 ≤ p + n ∧ p + n ≤ (s.size : Int) by omega)
    clear c1 c2 hi0 hp0 hp1 hsplit hx rows hu0 hd hd0 hs3 hnn hmid hpz hL heq hd2 h2 hrz h4 hz2 hln hr3 he3
    go_wp2_with (first | (go_at_call 15; (with_reducible refine (feed_c g2 rm (s.extract p.toNat (p + n).toNat) l2 r2 w _ HC.out.b2 HG2.out HC.out.bel HT.out HM0.out HMI.out HD2.out HZ2.out).mono ?_); rintro e_ w5 ⟨vx, rfl, hl⟩; obtain ⟨Ax, cx, rfl⟩ := Kd.R_slice hl.rr; have HC5 := Aside0.mk (HC.out.fed hl HNE.out); have HL5 := Aside0.mk hl; clear hl) | ((with_reducible refine gate_builtin (b := .append) (xs := #[.tmp 77, .tmp 78]) rfl ?_); at_builtin; refine Kd.R_append_rows k39 (w0 := w) w.heap.size rfl (.tmp 77) (.tmp 78) 33 39 (.agg #[.int .i64 0, .string (⟨#[]⟩ : ByteArray)]) 24 rfl Tryd.underlying33 info39_ rfl (by decide) (by omega) (.slice Ab bl.length cb) bl l2 _ _ _ (fun k => k ≠ g1 ∧ k ≠ g2 ∧ N0 ≤ k) (fun _ => False) rfl rfl HC5.out.rb (Kd.R_reads' HL5.out.rr).2.2 (fun _ _ h => h) (fun _ h => h.elim) ?aF HC5.out.bel ?aS ?aL ?_; (case aF => exact fun k hk => ⟨by have := blk_lt HC5.out.b1; omega, by have := blk_lt HC5.out.b2; omega, Nat.le_trans HC5.out.n0 hk⟩); (case aS => exact HC5.out.bel.size); (case aL => have := HLN.out; omega); intro v6 w6 hR6 hB6 hg6 hat; obtain ⟨bq, hbq⟩ : ∃ q, bl ++ l2 = q := ⟨_, rfl⟩; rw [hbq] at hR6; obtain ⟨Ab2, cb2, rfl⟩ := Kd.R_slice hR6; have HBQ := Aside0.mk hbq; have HC6 := Aside0.mk (HC5.out.app hR6 hB6 hg6); clear hR6 hB6 hg6 hat hbq))
    go_roundw
    case rel => exact ⟨Ab2, cb2, bq, r2, p + n, i + 1, rfl, rfl, by first | rfl | rw [hwp], rfl, ⟨by have := HIX.out; have := HPN.out; omega⟩, ⟨by rw [← HBQ.out]; exact HDN.out⟩, ⟨by rw [← HBQ.out, List.length_append]; exact HIN.out⟩, HC6⟩
    case measure => have := HIX.out; simp [intOf]; omega
end Go.Proofs.YtnnmdocdiedgiaaDoor.Walk
