/- The walk of LedgerOnce. -/
import Derived.Test.YtgdgegkokghedaaOnce10
import Derived.Deep.Cut
import Derived.Deep.CutRange
import Derived.Deep.CutBlock
namespace Go.Proofs.Ytgdgegkokghedaa.Walk
open Go.RowKit Go.Deep Go.Proofs.YtgdgegkokghedaaW.PrintWords Go.Proofs.YtgdgegkokghedaaW.PrintLast Go.Proofs.YtgdgegkokghedaaW.PrintMore Go.Proofs.Ytgdgegkokghedaa.PLedgerKeeps Go.Proofs.Ytgdgegkokghedaa Go.Proofs.Ytgdgegkokghedaa.Led Go.Proofs.Ytgdgegkokghedaa.BSet
set_option linter.unusedVariables false
set_option linter.unusedSimpArgs false
theorem info42_ : (Try.prog.info? 42).map (fun i => (i.zero, i.size, i.bytes)) = some (some (.agg #[.int .i64 0, .int .i64 0, .int .i64 0, .int .i64 0, .slice none 0 0]), 5, 56) := by kernel_rfl
theorem wf64 {x : Int} (h0 : 0 ≤ x) (h1 : x ≤ 4611686018427387903) : (Lit.int .i64 x).wf = true := by
  have h' : IntKind.i64.min ≤ x ∧ x ≤ IntKind.i64.max := by
    show -9223372036854775808 ≤ x ∧ x ≤ 9223372036854775807
    omega
  simpa [Lit.wf] using h'
theorem info2_ : (Try.prog.info? 2).map (fun i => (i.zero, i.size, i.bytes)) = some (some (.int .i64 0), 1, 8) := by kernel_rfl
theorem R_empty (w : World) {base : Nat} (hb : base ≤ w.heap.size) : Kd.R (Kd.int .i64) 2 (w.alloc (.cells #[] 2)) base (fun _ => True) (.slice (some ⟨w.heap.size, 0, none⟩) 0 0) [] :=
  ⟨fun _ _ => trivial, [], World.ownsRow_lit w #[] 0 hb (by decide) rfl, rfl, fun j p hj => by simp at hj⟩
theorem own_ge {v v1 : Value} {a b : Nat} (h : v1.ownBlock = v.ownBlock ∨ ∃ k, v1.ownBlock = some k ∧ b ≤ k) {c : Nat} (h0 : v.ownBlock = some c) (ha : a ≤ c) (hb : a ≤ b) : ∀ j, v1.ownBlock = some j → a ≤ j := fun j hj => by
  rcases h with e | ⟨k, e, hk⟩
  · rw [e, h0] at hj
    injection hj with hj
    omega
  · rw [e] at hj
    injection hj with hj
    omega
/-- An element of the row of acts. -/
theorem el_op {w : World} {A : Option Addr} {xs : List S42} (h : Kd.C k42 w A xs.length xs) (i : Int) (h0 : 0 ≤ i) (h1 : i < xs.length) : ∃ ad A4 c4, A = some ad ∧ Kd.C k34 w A4 (xs.getD i.toNat z42).f4.length (xs.getD i.toNat z42).f4 ∧ (xs.getD i.toNat z42).f4.length ≤ c4 ∧ ∀ W, Below w.heap.size w W → W.cell? (ad.add (i.toNat * 5)) = some (.int .i64 (xs.getD i.toNat z42).f0) ∧ W.cell? ⟨(ad.add (i.toNat * 5)).block, (ad.add (i.toNat * 5)).off + 1, none⟩ = some (.int .i64 (xs.getD i.toNat z42).f1) ∧ W.cell? ⟨(ad.add (i.toNat * 5)).block, (ad.add (i.toNat * 5)).off + 2, none⟩ = some (.int .i64 (xs.getD i.toNat z42).f2) ∧ W.cell? ⟨(ad.add (i.toNat * 5)).block, (ad.add (i.toNat * 5)).off + 3, none⟩ = some (.int .i64 (xs.getD i.toNat z42).f3) ∧ W.cell? ⟨(ad.add (i.toNat * 5)).block, (ad.add (i.toNat * 5)).off + 4, none⟩ = some (.slice A4 (xs.getD i.toNat z42).f4.length c4) := by
  obtain ⟨ad, A4, c4, e, c0, c1, c2, c3, c5, hl, hC⟩ := at_T42 h i h0 h1
  refine ⟨ad, A4, c4, e, hC, hl, fun W hb => ⟨(hb.cell (World.block_lt_of_cell? _ _ c0)).trans c0, (hb.cell (World.block_lt_of_cell? _ _ c1)).trans c1, (hb.cell (World.block_lt_of_cell? _ _ c2)).trans c2, (hb.cell (World.block_lt_of_cell? _ _ c3)).trans c3, (hb.cell (World.block_lt_of_cell? _ _ c5)).trans c5⟩⟩
set_option maxHeartbeats 8000000 in
set_option maxRecDepth 100000 in
theorem ledgerOnce_walk {P : Prop} (A : Option Addr) (cap : Nat) (xs : List S42) (w : World) (hr : k42.C w A xs.length xs) (hc : xs.length ≤ cap) (G0 : P) :
    Calls Try.prog 5 #[.slice A xs.length cap] w fun e w' => e = .returned (.bool true) ∧ Below w.heap.size w w' := by
  have HR := Aside0.mk hr
  clear hr hc G0
  have hmm := @run_makeMap Try.prog
  go_enter Try.func5, Try.ntmps5
  go_wp2_with (first | (go_at_call 8; (with_reducible refine (works_c _).mono ?_); rintro e_ w0 ⟨rfl, hb⟩; have HB0 := Aside0.mk hb; clear hb) | (go_at_call 9; (with_reducible refine (new_c _).mono ?_); rintro e_ w1 ⟨g, rfl, hg, hblk, hb⟩; have HL1 := Aside0.mk (LP.start (lg_new (w0 := w) hblk) (below_step HB0.out hb)); have HG := Aside0.mk (show w.heap.size ≤ g from Nat.le_trans HB0.out.size hg); clear hg hblk hb))
  clear hmm
  have HS1 := Aside0.mk ((made w1).same (w' := (w1.alloc (.map #[] 0)).alloc (.map #[] 0)) ((below_alloc (Below.refl _ _) _).block _ (made w1).lt))
  have hd1 := made (w1.alloc (.map #[] 0))
  rw [show (w1.alloc (.map #[] 0)).heap.size = w1.heap.size + 1 from Array.size_push _] at hd1
  have HD1 := Aside0.mk hd1
  have HL2 := Aside0.mk (HL1.out.below (below_alloc (below_alloc (Below.refl w1.heap.size w1) (.map #[] 0)) (.map #[] 0)))
  clear hd1
  obtain ⟨bd, hbd⟩ : ∃ b, w1.heap.size + 1 = b := ⟨_, rfl⟩
  have HBD := Aside0.mk (show w1.heap.size ≤ bd ∧ w.heap.size ≤ bd ∧ w1.heap.size ≠ bd by have := HL1.out.bel.size; omega)
  rw [hbd] at HD1 ⊢
  obtain ⟨bs, hbs⟩ : ∃ b, w1.heap.size = b := ⟨_, rfl⟩
  have HBS := Aside0.mk (show w1.heap.size ≤ bs ∧ w.heap.size ≤ bs ∧ bs ≠ bd by have := HL1.out.bel.size; have := HBD.out; omega)
  rw [hbs] at HS1 ⊢
  clear hbd hbs
  go_loopw [6] (fun v6 wr => ∃ i : Nat, v6 = .int .i64 (i : Int) ∧ Aside0 (i ≤ 150) ∧ ∃ v s sl dl, Aside0 (LP w w1 wr g (.slice none 0 0) v s) ∧ Aside0 (OQ s sl dl [] i) ∧ Aside0 (BSet.BSet wr bs sl) ∧ Aside0 (BSet.BSet wr bd dl)) (fun v6 _ => (150 - intOf v6).toNat)
  case atStart => exact ⟨0, rfl, ⟨by omega⟩, _, _, [], [], HL2, ⟨OQ.init⟩, HS1, HD1⟩
  case round =>
    clear HS1 HD1 HL2
    obtain ⟨i, rfl, HI, v, s, sl, dl, HD, HQ, HS, HT⟩ := hrel
    by_cases d1 : (i : Int) < (xs.length : Int)
    · by_cases d2 : (i : Int) < 150
      · have M1 : decide ((i : Int) < (xs.length : Int)) = true := decide_eq_true d1
        have M1' : decide (i < xs.length) = true := decide_eq_true (by omega)
        have M2 : decide ((i : Int) < 150) = true := decide_eq_true d2
        have M2' : decide (i < 150) = true := decide_eq_true (by omega)
        have n1 : i < xs.length := by omega
        have hw1 : wrap64 ((i : Int) + 1) = ((i + 1 : Nat) : Int) := by unfold wrap64; omega
        have hw2 : IntKind.i64.wrap ((i : Int) + 1) = ((i + 1 : Nat) : Int) := (i64_w _).trans hw1
        obtain ⟨ad, A4, c4, hA, hC4, hl4, rows⟩ := el_op HR.out (i : Int) (by omega) d1
        subst hA
        obtain ⟨x0, x1, x2, x3, x4⟩ := rows wr (below_step HD.out.bel (Below.refl _ _))
        rw [Int.toNat_natCast] at hC4 hl4 x0 x1 x2 x3 x4
        generalize xs.getD i z42 = y at hC4 hl4 x0 x1 x2 x3 x4
        obtain ⟨kd, n0, now, sz, rg⟩ := y
        dsimp only at hC4 hl4 x0 x1 x2 x3 x4
        have HC4 := Aside0.mk hC4
        have HL4 := Aside0.mk hl4
        have HJ := Aside0.mk (And.intro d1 d2)
        have p1 := eq_true d1
        have p2 : ((i : Int) < (xs.length : Int)) = True := p1
        have p3 := eq_true n1
        clear d1 d2 n1 hC4 hl4 rows
        have hbox := blk_new wr (.cells #[.int .i64 kd, .int .i64 n0, .int .i64 now, .int .i64 sz, .slice A4 rg.length c4] 42)
        have hb : Below wr.heap.size wr (wr.alloc (.cells #[.int .i64 kd, .int .i64 n0, .int .i64 now, .int .i64 sz, .slice A4 rg.length c4] 42)) := below_alloc (Below.refl _ _) _
        obtain ⟨wb, hwb⟩ : ∃ wb, wr.alloc (.cells #[.int .i64 kd, .int .i64 n0, .int .i64 now, .int .i64 sz, .slice A4 rg.length c4] 42) = wb := ⟨_, rfl⟩
        rw [hwb] at hb hbox
        have H2 := Aside0.mk (HD.out.below hb)
        have HP := Aside0.mk (LP.start H2.out.lg H2.out.bel)
        have HS2 := Aside0.mk (HS.out.same (hb.block bs HS.out.lt))
        have HT2 := Aside0.mk (HT.out.same (hb.block bd HT.out.lt))
        have HX := Aside0.mk hbox
        have HNG := Aside0.mk (show wr.heap.size ≠ g from fun he => by have := blk_lt HD.out.lg.blk; omega)
        have HNO := Aside0.mk (show some wr.heap.size ≠ v.ownBlock from fun he => by have := ((Kd.R_bound HD.out.lg.row).1 _ he.symm).2.2.1; omega)
        have c0 := (show _ = some (Value.int .i64 kd) from (blk_cell hbox 0).trans rfl)
        have c1 := (show _ = some (Value.int .i64 n0) from (blk_cell hbox 1).trans rfl)
        have c2 := (show _ = some (Value.int .i64 now) from (blk_cell hbox 2).trans rfl)
        have c3 := (show _ = some (Value.int .i64 sz) from (blk_cell hbox 3).trans rfl)
        have c5 := (show _ = some (Value.slice A4 rg.length c4) from (blk_cell hbox 4).trans rfl)
        clear hbox hb
        go_upto_block 2 with (fail)
        go_cut [8, 9] from 18 to 111 (fun s8 s9 wc => ∃ v2 s2 sl2 ta tb, Aside0 (LP w w1 wc g (.slice none 0 0) v2 s2) ∧ Aside0 (OQ s2 sl2 dl (ta ++ tb) (i + 1)) ∧ Aside0 (BSet.BSet wc bs sl2) ∧ Aside0 (BSet.BSet wc bd dl) ∧ Aside0 (Kd.R (Kd.int .i64) 2 wc w.heap.size (fun _ => True) s8 ta) ∧ Aside0 (Kd.R (Kd.int .i64) 2 wc w.heap.size (fun _ => True) s9 tb))
        case first =>
          have hlen : s.fl.length ≤ 100000 := by have := HQ.out.flen.1; have := HI.out; omega
          by_cases k0 : kd = 0
          · subst k0
            by_cases ho : sentOk s n0 sz
            · obtain ⟨hq, hnew⟩ := HQ.out.sent (now := now) ho
              have HQ' := Aside0.mk hq
              have HNEW := Aside0.mk hnew
              have HWF := Aside0.mk (show (Lit.int .i64 n0).wf = true from wf64 (by have := HQ.out.inv.t0; have := ho.1; omega) ho.2.1)
              have HLM := Aside0.mk (show sl.length < maxLen by have := HQ.out.len; have := HI.out; unfold maxLen; omega)
              have HSN := Aside0.mk (sent_c g s v v n0 now sz w wb wb HP.out HG.out ho hlen)
              clear ho hq hnew hlen
              go_wp2_with (first | (go_at_call 11; (with_reducible refine (HSN.out).mono ?_); rintro e_ w2 ⟨rfl, v2, h2⟩; have H3 := Aside0.mk (H2.out.trans h2); have HS3 := Aside0.mk (HS2.out.later HP.out.lg h2.keep); have HT3 := Aside0.mk (HT2.out.later HP.out.lg h2.keep); have d1 := (show _ = some (Value.int .i64 n0) from (blk_cell ((h2.keep.2 _ (blk_lt HX.out) HNG.out HNO.out).trans HX.out) 1).trans rfl); clear h2) | (at_mapUpdate; refine BSet.update_arm rfl _ _ _ (.inl rfl) HS3.out HLM.out n0 HWF.out HNEW.out rfl rfl rfl ?_; intro w3 hm_ ht_; have HS4 := Aside0.mk hm_; have HT4 := Aside0.mk (HT3.out.other ht_ HBS.out.2.2.symm); have H4 := Aside0.mk (H3.out.turned HS3.out ht_ HBS.out.2.1 HBS.out.1); clear hm_ ht_))
              go_meet
              case rel => exact ⟨v2, _, n0 :: sl, [], [], H4, HQ', HS4, HT4, ⟨Kd.R_nil _ _ _ _ _⟩, ⟨Kd.R_nil _ _ _ _ _⟩⟩
            · have HSN := Aside0.mk (sent_no g s v v n0 now sz w wb wb HP.out ho)
              have HQ' := Aside0.mk (HQ.out.mono (Nat.le_succ i))
              clear ho hlen
              go_wp2_with (go_at_call 11; (with_reducible refine (HSN.out).mono ?_); rintro e_ w2 ⟨rfl, h2⟩; have H3 := Aside0.mk (H2.out.trans h2); have HS3 := Aside0.mk (HS2.out.later HP.out.lg h2.keep); have HT3 := Aside0.mk (HT2.out.later HP.out.lg h2.keep); clear h2)
              go_meet
              case rel => exact ⟨v, s, sl, [], [], H3, HQ', HS3, HT3, ⟨Kd.R_nil _ _ _ _ _⟩, ⟨Kd.R_nil _ _ _ _ _⟩⟩
          · have K0 : (kd == 0) = false := beq_eq_false_iff_ne.2 k0
            by_cases k1 : kd = 1
            · subst k1
              have HAC := Aside0.mk (acked_c w wb wb g c4 A4 rg v v s HP.out HG.out (HP.out.arg HG.out HC4.out) HL4.out HQ.out.inv hlen)
              have HQ' := Aside0.mk ((HQ.out.act (ack_parts s rg) (inv_ack HQ.out.inv rg)).mono (Nat.le_succ i))
              clear k0 hlen
              go_wp2_with (go_at_call 12; (with_reducible refine (HAC.out).mono ?_); rintro e_ w2 ⟨va, vb, v2, rfl, h2, hra, hrb⟩; have H3 := Aside0.mk (H2.out.trans h2); have HS3 := Aside0.mk (HS2.out.later HP.out.lg h2.keep); have HT3 := Aside0.mk (HT2.out.later HP.out.lg h2.keep); have HRA := Aside0.mk (Kd.R_lower hra H2.out.bel.size); have HRB := Aside0.mk (Kd.R_lower hrb H2.out.bel.size); clear h2 hra hrb)
              go_meet
              case rel => exact ⟨v2, _, sl, _, _, H3, HQ', HS3, HT3, HRA, HRB⟩
            · have K1 : (kd == 1) = false := beq_eq_false_iff_ne.2 k1
              by_cases k2 : kd = 2
              · subst k2
                have HEX := Aside0.mk (expire_c w wb wb g now v v s HP.out HG.out HQ.out.inv hlen)
                have HQ' := Aside0.mk ((HQ.out.act (exp_parts now s) (inv_expR HQ.out.inv)).mono (Nat.le_succ i))
                clear k0 k1 hlen
                go_wp2_with (go_at_call 13; (with_reducible refine (HEX.out).mono ?_); rintro e_ w2 ⟨va, v2, rfl, h2, hra⟩; have H3 := Aside0.mk (H2.out.trans h2); have HS3 := Aside0.mk (HS2.out.later HP.out.lg h2.keep); have HT3 := Aside0.mk (HT2.out.later HP.out.lg h2.keep); have HRA := Aside0.mk (Kd.R_lower hra H2.out.bel.size); clear h2 hra)
                go_meet
                case rel => exact ⟨v2, _, sl, [], _, H3, HQ', HS3, HT3, ⟨Kd.R_nil _ _ _ _ _⟩, HRA⟩
              · have K2 : (kd == 2) = false := beq_eq_false_iff_ne.2 k2
                have HQ' := Aside0.mk (HQ.out.mono (Nat.le_succ i))
                clear k0 k1 k2 hlen
                go_wp2_with (fail)
                go_meet
                case rel => exact ⟨v, s, sl, [], [], H2, HQ', HS2, HT2, ⟨Kd.R_nil _ _ _ _ _⟩, ⟨Kd.R_nil _ _ _ _ _⟩⟩
        case rest =>
          obtain ⟨v2, s2, sl2, ta, tb, H3, HQ3, HS3, HT3, HRA, HRB⟩ := hcut
          obtain ⟨Aa, ca, rfl⟩ := Kd.R_slice HRA.out
          obtain ⟨Ab, cb, rfl⟩ := Kd.R_slice HRB.out
          have HCA := Aside0.mk (Kd.R_reads' HRA.out).2.2
          have HCB := Aside0.mk (Kd.R_reads' HRB.out).2.2
          have HLN := Aside0.mk (show ta.length ≤ 200 ∧ tb.length ≤ 200 by have h1 := HQ3.out.flen.2.1; rw [List.length_append] at h1; have := HJ.out; omega)
          obtain ⟨out, ho⟩ : ∃ q, ta ++ tb = q := ⟨_, rfl⟩
          have HO := Aside0.mk ho
          clear ho HRA HRB
          go_wp2_with (first | ((with_reducible refine gate_builtin (b := .append) (xs := #[.tmp 64, .tmp 65]) rfl ?_); at_builtin; refine Kd.R_append_rows (Kd.int .i64) (w0 := w) w.heap.size rfl (.tmp 64) (.tmp 65) 30 2 (.int .i64 0) 8 rfl Try.underlying30 info2_ rfl (by decide) (by omega) (.slice (some ⟨wc.heap.size, 0, none⟩) 0 0) [] ta _ _ _ (fun _ => True) (fun _ => False) rfl rfl (R_empty wc H3.out.bel.size) (Kd.C_below HCA.out (below_alloc (Below.refl _ _) _)) (fun _ _ h => h) (fun _ h => h.elim) (fun _ _ => trivial) (below_alloc H3.out.bel _) ?aS ?aL ?_; (case aS => exact (below_alloc H3.out.bel _).size); (case aL => have := HLN.out; simp only [List.length_nil]; omega); intro v5 w5 hR5 hB5 hg5 hat5; rw [List.nil_append] at hR5; have HB5 := Aside0.mk ((below_alloc (Below.refl wc.heap.size wc) (.cells #[] 2)).grown hg5 (below_alloc (Below.refl wc.heap.size wc) (.cells #[] 2)).size (fun j hj => by cases hj; exact Nat.le_refl _)); have HO5 := Aside0.mk (show ∀ j, v5.ownBlock = some j → wc.heap.size ≤ j from fun j hj => own_ge hat5 (c := wc.heap.size) rfl (Nat.le_refl _) (below_alloc (Below.refl wc.heap.size wc) (.cells #[] 2)).size j hj); have HR5 := Aside0.mk hR5; have HBB5 := Aside0.mk hB5; clear hR5 hB5 hg5 hat5) | ((with_reducible refine gate_builtin (b := .append) (xs := #[.tmp 66, .tmp 67]) rfl ?_); at_builtin; refine Kd.R_append_rows (Kd.int .i64) (w0 := w) w.heap.size rfl (.tmp 66) (.tmp 67) 30 2 (.int .i64 0) 8 rfl Try.underlying30 info2_ rfl (by decide) (by omega) v5 ta tb _ _ _ (fun _ => True) (fun _ => False) rfl rfl HR5.out (Kd.C_below HCB.out HB5.out) (fun _ _ h => h) (fun _ h => h.elim) (fun _ _ => trivial) HBB5.out ?aS2 ?aL2 ?_; (case aS2 => exact HBB5.out.size); (case aL2 => have := HLN.out; omega); intro v6 w6 hR6 hB6 hg6 hat6; rw [HO.out] at hR6; have HB6 := Aside0.mk (HB5.out.grown hg6 HB5.out.size (fun j hj => HO5.out j hj)); obtain ⟨Aq, cq, rfl⟩ := Kd.R_slice hR6; have HR6 := Aside0.mk hR6; clear hR6 hB6 hg6 hat6))
          have H6 := Aside0.mk (H3.out.below HB6.out)
          have HS6 := Aside0.mk (HS3.out.same (HB6.out.block bs HS3.out.lt))
          have HT6 := Aside0.mk (HT3.out.same (HB6.out.block bd HT3.out.lt))
          have HQ6 : Aside0 (OQ s2 sl2 dl out (i + 1)) := ⟨by have h := HQ3.out; rw [HO.out] at h; exact h⟩
          have HW := Aside0.mk HQ6.out.inv.w0
          clear HD HQ HS HT H2 HP HS2 HT2 HX HNG HNO HQ3 H3 HS3 HT3 HCA HCB HLN HB5 HO5 HR5 HBB5 HB6 x0 x1 x2 x3 x4 c0 c1 c2 c3 c5 hwb
          obtain ⟨wo, hwo⟩ : ∃ x, x = wr := ⟨_, rfl⟩
          subst hwo
          go_loopw [10] (fun v10 wr => ∃ k : Nat, v10 = .int .i64 (k : Int) ∧ Aside0 (k ≤ out.length) ∧ Aside0 (LP w w1 wr g (.slice none 0 0) v2 s2) ∧ Aside0 (BSet.BSet wr bs sl2) ∧ Aside0 (BSet.BSet wr bd ((out.take k).reverse ++ dl)) ∧ Aside0 (Kd.R (Kd.int .i64) 2 wr w.heap.size (fun _ => True) (.slice Aq out.length cq) out)) (fun v10 _ => ((out.length : Int) - intOf v10).toNat)
          case atStart => exact ⟨0, rfl, ⟨Nat.zero_le _⟩, H6, HS6, HT6, HR6⟩
          case round =>
            clear H6 HS6 HT6 HR6
            obtain ⟨k, rfl, HK, H7, HS7, HT7, HR7⟩ := hrel
            by_cases e1 : (k : Int) < (out.length : Int)
            · have M3 : decide ((k : Int) < (out.length : Int)) = true := decide_eq_true e1
              have M3' : decide (k < out.length) = true := decide_eq_true (by omega)
              have n3 : k < out.length := by omega
              have hw3 : wrap64 ((k : Int) + 1) = ((k + 1 : Nat) : Int) := by have := HQ6.out.flen.2.1; have := HJ.out; unfold wrap64; omega
              have hw4 : IntKind.i64.wrap ((k : Int) + 1) = ((k + 1 : Nat) : Int) := (i64_w _).trans hw3
              obtain ⟨aq, hA, rows⟩ := el_int (Kd.R_reads' HR7.out).2.2 (k : Int) (by omega) e1
              subst hA
              have y0 := rows wr (Below.refl _ _)
              rw [Int.toNat_natCast] at y0
              obtain ⟨m1, m2, m3, m4⟩ := HQ6.out.at n3
              have htk := take_rev out n3
              have hlt : ((out.take k).reverse ++ dl).length < maxLen := by
                have h1 := HQ6.out.flen
                rw [List.length_append, List.length_reverse, List.length_take]
                have := HJ.out
                unfold maxLen
                omega
              generalize out.getD k 0 = n at y0 m1 m2 m3 m4 htk
              have HIN := Aside0.mk (decide_eq_true m1)
              have hlk := BSet.lookup HT7.out (wf64 m3 m4)
              rw [decide_eq_false m2] at hlk
              have HNEW := Aside0.mk m2
              have HWF := Aside0.mk (wf64 m3 m4)
              have HTK := Aside0.mk htk
              have HLT := Aside0.mk hlt
              have HE := Aside0.mk e1
              have q1 := eq_true e1
              have q2 : ((k : Int) < (out.length : Int)) = True := q1
              have q3 := eq_true n3
              clear e1 n3 m1 m2 m3 m4 htk hlt rows
              go_wp2_with (first | (at_lookup; refine BSet.lookup_arm rfl _ _ rfl HS7.out n HWF.out rfl rfl HIN.out ?_) | (at_mapUpdate; refine BSet.update_arm rfl _ _ _ (.inl rfl) HT7.out HLT.out n HWF.out HNEW.out rfl rfl rfl ?_; intro w8 hm_ ht_; have HT8 := Aside0.mk hm_; have HS8 := Aside0.mk (HS7.out.other ht_ HBS.out.2.2); have H8 := Aside0.mk (H7.out.turned HT7.out ht_ HBD.out.2.1 HBD.out.1); have HR8 := Aside0.mk (R_turned HR7.out rfl HT7.out ht_); clear hm_ ht_))
              go_roundw
              case rel => exact ⟨k + 1, by first | rfl | simp, ⟨by have := HE.out; omega⟩, H8, HS8, ⟨by rw [HTK.out]; exact HT8.out⟩, HR8⟩
              case measure => have := HE.out; simp [intOf]; omega
            · have M3 : decide ((k : Int) < (out.length : Int)) = false := decide_eq_false e1
              have M3' : decide (k < out.length) = false := decide_eq_false (by omega)
              obtain rfl : k = out.length := by have := HK.out; omega
              have HT8 : Aside0 (BSet.BSet wr bd (out.reverse ++ dl)) := ⟨by have h := HT7.out; rw [List.take_length] at h; exact h⟩
              have HQ8 := Aside0.mk HQ6.out.done
              have hcn := HQ8.out.count
              have hln : s2.fl.length ≤ 100000 := by have := HQ8.out.flen.1; have := HJ.out; omega
              have hb1 : sl2.length ≤ 200 := by have := HQ8.out.len; have := HJ.out; omega
              have HFL := Aside0.mk (fun wz (h : LP w wz wz g v2 v2 s2) => flight_c g s2 v2 v2 w wz wz h hln (fun x hx => (HQ8.out.inv.fl x hx).2.2))
              obtain ⟨la, hla⟩ : ∃ a, sl2.length = a := ⟨_, rfl⟩
              obtain ⟨lb, hlb⟩ : ∃ a, (out.reverse ++ dl).length = a := ⟨_, rfl⟩
              rw [hla, hlb] at hcn
              rw [hla] at hb1
              have hs : wrap64 ((la : Int) - (lb : Int)) = (s2.fl.length : Int) := by unfold wrap64; omega
              have hs' : IntKind.i64.wrap ((la : Int) - (lb : Int)) = (s2.fl.length : Int) := (i64_w _).trans hs
              have W1 : decide (s2.win < 2400) = false := decide_eq_false (by have := HW.out; omega)
              have HLA := Aside0.mk hla
              have HLB := Aside0.mk hlb
              clear e1 hcn hln hb1 hla hlb
              go_wp2_with (first | (go_at_call 19; (with_reducible refine (HFL.out _ (LP.start H7.out.lg H7.out.bel)).mono ?_); rintro e_ w8 ⟨rfl, h8⟩; have H8 := Aside0.mk (H7.out.trans h8); have HT9 := Aside0.mk (HT8.out.later H7.out.lg h8.keep); have HS8 := Aside0.mk (HS7.out.later H7.out.lg h8.keep); clear h8) | (at_len; refine BSet.len_arm rfl _ rfl HS8.out rfl HLA.out ?_) | (at_len; refine BSet.len_arm rfl _ rfl HT9.out rfl HLB.out ?_) | (go_at_call 10; (with_reducible refine (window_c g _ _ _ w8 H8.out.lg).mono ?_); rintro e_ w9 ⟨rfl, hd9⟩; have H9 := Aside0.mk (H8.out.drawn hd9); have HS10 := Aside0.mk (HS8.out.same ((below_drawn0 (Below.refl w8.heap.size w8) hd9).block bs HS8.out.lt)); have HT10 := Aside0.mk (HT9.out.same ((below_drawn0 (Below.refl w8.heap.size w8) hd9).block bd HT9.out.lt)); clear hd9))
              go_roundw
              case rel => exact ⟨i + 1, by first | rfl | simp, ⟨by have := HJ.out; omega⟩, v2, s2, sl2, _, H9, HQ8, HS10, HT10⟩
              case measure => have := HJ.out; simp [intOf]; omega
      · have M1 : decide ((i : Int) < (xs.length : Int)) = true := decide_eq_true d1
        have M1' : decide (i < xs.length) = true := decide_eq_true (by omega)
        have M2 : decide ((i : Int) < 150) = false := decide_eq_false d2
        have M2' : decide (i < 150) = false := decide_eq_false (by omega)
        clear d1 d2
        go_wp2_with (fail)
        go_ret
        exact ⟨rfl, HD.out.bel⟩
    · have M1 : decide ((i : Int) < (xs.length : Int)) = false := decide_eq_false d1
      have M1' : decide (i < xs.length) = false := decide_eq_false (by omega)
      clear d1
      go_wp2_with (fail)
      go_ret
      exact ⟨rfl, HD.out.bel⟩
end Go.Proofs.Ytgdgegkokghedaa.Walk
