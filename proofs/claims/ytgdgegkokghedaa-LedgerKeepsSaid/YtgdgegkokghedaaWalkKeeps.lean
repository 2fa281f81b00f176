/- The walk of LedgerKeeps. gen/mk_wkeeps.py writes this text. -/
import Derived.Test.YtgdgegkokghedaaRSteps
import Derived.Test.YtgdgegkokghedaaWalkOnce
import Derived.BigQuiet
namespace Go.Proofs.Ytgdgegkokghedaa.Walk
open Go.RowKit Go.Deep Go.Proofs.YtgdgegkokghedaaW.PrintWords Go.Proofs.YtgdgegkokghedaaW.PrintLast Go.Proofs.YtgdgegkokghedaaW.PrintMore Go.Proofs.Ytgdgegkokghedaa.PLedgerKeeps Go.Proofs.Ytgdgegkokghedaa Go.Proofs.Ytgdgegkokghedaa.Led
set_option linter.unusedVariables false
set_option linter.unusedSimpArgs false
section
variable {B B' : Nat} {w w2 : World} {g q : Nat} {s s' : LS} {v u : Value}
theorem lg_below (h : LG B w g s v) (hb : Below w.heap.size w w2) : LG B w2 g s v := ⟨blk_below h.blk hb, Kd.R_below h.row hb⟩
theorem rg_below (h : RG B w q s u) (hb : Below w.heap.size w w2) : RG B w2 q s u := ⟨blk_below h.blk hb, Kd.R_below h.row hb⟩
theorem blk_ne {k k' t t' : Nat} {c c' : Array Value} (h : w.heap[k]? = some (.cells c t (0, 0))) (h' : w.heap[k']? = some (.cells c' t' (0, 0))) (hne : t ≠ t') : k ≠ k' := fun he => by
  rw [he, h'] at h
  injection h with h
  injection h with _ h _
  exact hne h.symm
theorem later_l {k t : Nat} {cs : Array Value} (hb : w.heap[k]? = some (.cells cs t (0, 0))) (h : LG B w g s v) (h1 : t ≠ 56) (h2 : 58 ≠ t) (hk : KeepBut w w2 g v.ownBlock) : w2.heap[k]? = some (.cells cs t (0, 0)) :=
  (hk.2 k (blk_lt hb) (blk_ne hb h.blk h1) (blk_apart h.row hb h2)).trans hb
theorem later_r {k t : Nat} {cs : Array Value} (hb : w.heap[k]? = some (.cells cs t (0, 0))) (h : RG B w q s u) (h1 : t ≠ 48) (h2 : 69 ≠ t) (hk : KeepBut w w2 q u.ownBlock) : w2.heap[k]? = some (.cells cs t (0, 0)) :=
  (hk.2 k (blk_lt hb) (blk_ne hb h.blk h1) (blk_apart h.row hb h2)).trans hb
theorem lg_after_r (h : LG B w g s v) (hr : RG B' w q s' u) (hk : KeepBut w w2 q u.ownBlock) : LG B w2 g s v :=
  ⟨later_r h.blk hr (by decide) (by decide) hk, Kd.R_mono (Kd.R_step (Kd.R_tight2 rfl h.row) (fun k hok hlt => hk.2 k hlt (fun he => blk_apart h.row hr.blk (by decide) (by rw [← he]; exact hok.1)) (fun he => own_apart h.row hr.row (by decide) k hok.1.symm he))) (fun k hk => hk.2)⟩
theorem rg_after_l (h : RG B w q s u) (hl : LG B' w g s' v) (hk : KeepBut w w2 g v.ownBlock) : RG B w2 q s u :=
  ⟨later_l h.blk hl (by decide) (by decide) hk, Kd.R_mono (Kd.R_step (Kd.R_tight2 rfl h.row) (fun k hok hlt => hk.2 k hlt (fun he => blk_apart h.row hl.blk (by decide) (by rw [← he]; exact hok.1)) (fun he => own_apart h.row hl.row (by decide) k hok.1.symm he))) (fun k hk => hk.2)⟩
theorem rngs_later {base : Nat} {ok : Nat → Prop} {vo : Value} {l : List S34} (hl : LG B w g s v) (hr : Kd.R k34 34 w base ok vo l) (hk : KeepBut w w2 g v.ownBlock) : Kd.R k34 34 w2 base ok vo l :=
  Kd.R_mono (Kd.R_step (Kd.R_tight2 rfl hr) (fun k hok hlt => hk.2 k hlt (fun he => blk_apart hr hl.blk (by decide) (by rw [← he]; exact hok.1)) (fun he => own_apart hr hl.row (by decide) k hok.1.symm he))) (fun k hk => hk.2)
end
theorem rg_arg {w0 W : World} {q : Nat} {u : Value} {s : LS} (h : RG w0.heap.size W q s u) (hb : Below w0.heap.size w0 W) (hg : w0.heap.size ≤ q) {A : Option Addr} {n : Nat} {xs : List S34} (hC : Kd.C k34 w0 A n xs) : ∀ w, KeepBut W w q u.ownBlock → Kd.C k34 w A n xs := fun w hk => by
  refine c34_heap hC (fun k hlt => (hk.2 k (Nat.lt_of_lt_of_le hlt hb.size) (fun he => by omega) (fun he => ?_)).trans (hb.block k hlt))
  have := ((Kd.R_bound h.row).1 k he.symm).2.1
  omega
theorem info34_ : (Try.prog.info? 34).map (fun i => (i.zero, i.size, i.bytes)) = some (some (.agg #[.int .i64 0, .int .i64 0]), 2, 16) := by kernel_rfl
theorem k34_KM {w : World} {base : Nat} {ok : Nat → Prop} {x : S34} {cs : List Value} (h : k34.K w x cs) : k34.M w base ok x cs := by rw [k34_open h]; exact k34_mkM _ _ _ _
theorem R_empty34 (w : World) {base : Nat} (hb : base ≤ w.heap.size) : Kd.R k34 34 (w.alloc (.cells #[] 34)) base (fun _ => True) (.slice (some ⟨w.heap.size, 0, none⟩) 0 0) [] :=
  ⟨fun _ _ => trivial, [], World.ownsRow_lit w #[] 0 hb (by decide) rfl, rfl, fun j p hj => by simp at hj⟩
theorem parts_len {s s' : LS} {out : List Int} (h : Parts s s' out) : out.length + s'.fl.length = s.fl.length := by
  have hl := h.perm.length_eq
  rw [List.length_append] at hl
  unfold Led.nums at hl
  rw [List.length_map, List.length_map] at hl
  omega
set_option maxHeartbeats 8000000 in
set_option maxRecDepth 100000 in
theorem ledgerKeeps_walk (A : Option Addr) (cap : Nat) (xs : List S42) (w : World) (hr : k42.C w A xs.length xs) (hc : xs.length ≤ cap) (G0 : xs.length * 56 ≤ 140737488351232 ∧ ∀ y ∈ xs, (Lit.int .i64 y.f0).wf = true ∧ (Lit.int .i64 y.f1).wf = true ∧ (Lit.int .i64 y.f2).wf = true ∧ (Lit.int .i64 y.f3).wf = true ∧ (y.f4.length * 16 ≤ 140737488351232 ∧ ∀ z ∈ y.f4, (Lit.int .i64 z.f0).wf = true ∧ (Lit.int .i64 z.f1).wf = true)) :
    Calls Try.prog 4 #[.slice A xs.length cap] w fun e w' => e = .returned (.bool true) ∧ Below w.heap.size w w' := by
  have HR := Aside0.mk hr
  have HG0 := Aside0.mk G0.2
  clear hr hc G0
  go_enter Try.func4, Try.ntmps4
  go_wp2_with (first | (go_at_call 9; (with_reducible refine (new_c _).mono ?_); rintro e_ w1 ⟨g, rfl, hg, hblk, hb⟩; have HL1 := Aside0.mk (lg_new (w0 := w) hblk); have HG := Aside0.mk hg; have HB1 := Aside0.mk hb; clear hg hblk hb) | (go_at_call 14; (with_reducible refine (rnew_c _).mono ?_); rintro e_ w2 ⟨q, rfl, hq, hblk, hb⟩; have HR2 := Aside0.mk (rg_new (w0 := w) hblk); have HL2 := Aside0.mk (lg_below HL1.out hb); have HGQ := Aside0.mk (show w.heap.size ≤ q from Nat.le_trans HB1.out.size hq); have HB2 := Aside0.mk (below_step HB1.out hb); clear hq hblk hb))
  go_loopw [5] (fun v5 wr => ∃ i : Nat, v5 = .int .i64 (i : Int) ∧ Aside0 (i ≤ 150) ∧ ∃ v u s, Aside0 (LG w.heap.size wr g s v) ∧ Aside0 (RG w.heap.size wr q s u) ∧ Aside0 (Below w.heap.size w wr) ∧ Aside0 (Inv s) ∧ Aside0 (s.fl.length ≤ i)) (fun v5 _ => (150 - intOf v5).toNat)
  case atStart => exact ⟨0, rfl, ⟨by omega⟩, _, _, _, HL2, HR2, HB2, ⟨inv_init⟩, ⟨Nat.le_refl _⟩⟩
  case round =>
    clear HL1 HL2 HR2 HB1 HB2
    obtain ⟨i, rfl, HI, v, u, s, HL, HRG, HB, HIV, HLE⟩ := hrel
    by_cases d1 : (i : Int) < (xs.length : Int)
    · by_cases d2 : (i : Int) < 150
      · have M1 : decide ((i : Int) < (xs.length : Int)) = true := decide_eq_true d1
        have M1' : decide (i < xs.length) = true := decide_eq_true (by omega)
        have M2 : decide ((i : Int) < 150) = true := decide_eq_true d2
        have M2' : decide (i < 150) = true := decide_eq_true (by omega)
        have n1 : i < xs.length := by omega
        have hw1 : wrap64 ((i : Int) + 1) = ((i + 1 : Nat) : Int) := by unfold wrap64; omega
        have hw2 : IntKind.i64.wrap ((i : Int) + 1) = ((i + 1 : Nat) : Int) := (i64_w _).trans hw1
        obtain ⟨ad, A4, c4, hA, hC4, hl4, rows⟩ := el_op HR.out (i : Int) (by omega) d1
        subst hA
        obtain ⟨x0, x1, x2, x3, x4⟩ := rows wr (below_step HB.out (Below.refl _ _))
        rw [Int.toNat_natCast] at hC4 hl4 x0 x1 x2 x3 x4
        have hgl := (HG0.out (xs.getD i z42) (by rw [List.getD_eq_getElem?_getD, List.getElem?_eq_getElem n1]; exact List.getElem_mem _)).2.2.2.2.1
        generalize xs.getD i z42 = y at hC4 hl4 x0 x1 x2 x3 x4 hgl
        obtain ⟨kd, n0, now, sz, rg⟩ := y
        dsimp only at hC4 hl4 x0 x1 x2 x3 x4 hgl
        have HGL := Aside0.mk hgl
        have HC4 := Aside0.mk hC4
        have HL4 := Aside0.mk hl4
        have HJ := Aside0.mk (And.intro d1 d2)
        have p1 := eq_true d1
        have p2 : ((i : Int) < (xs.length : Int)) = True := p1
        have p3 := eq_true n1
        have hlen : s.fl.length ≤ 100000 := by have := HLE.out; have := HI.out; omega
        have HLN := Aside0.mk hlen
        clear d1 d2 n1 hC4 hl4 rows hlen hgl
        have hbox := blk_new wr (.cells #[.int .i64 kd, .int .i64 n0, .int .i64 now, .int .i64 sz, .slice A4 rg.length c4] 42)
        have hb : Below wr.heap.size wr (wr.alloc (.cells #[.int .i64 kd, .int .i64 n0, .int .i64 now, .int .i64 sz, .slice A4 rg.length c4] 42)) := below_alloc (Below.refl _ _) _
        obtain ⟨wb, hwb⟩ : ∃ wb, wr.alloc (.cells #[.int .i64 kd, .int .i64 n0, .int .i64 now, .int .i64 sz, .slice A4 rg.length c4] 42) = wb := ⟨_, rfl⟩
        rw [hwb] at hb hbox
        have HLb := Aside0.mk (lg_below HL.out hb)
        have HRb := Aside0.mk (rg_below HRG.out hb)
        have HBb := Aside0.mk (below_step HB.out hb)
        have HX := Aside0.mk hbox
        have b0 := (show _ = some (Value.int .i64 kd) from (blk_cell hbox 0).trans rfl)
        have b1 := (show _ = some (Value.int .i64 n0) from (blk_cell hbox 1).trans rfl)
        have b2 := (show _ = some (Value.int .i64 now) from (blk_cell hbox 2).trans rfl)
        have b3 := (show _ = some (Value.int .i64 sz) from (blk_cell hbox 3).trans rfl)
        have b4 := (show _ = some (Value.slice A4 rg.length c4) from (blk_cell hbox 4).trans rfl)
        clear hbox hb
        go_upto_block 2 with (fail)
        go_cut [] from 22 to 138 (fun wc => ∃ v2 u2 s2, Aside0 (LG w.heap.size wc g s2 v2) ∧ Aside0 (RG w.heap.size wc q s2 u2) ∧ Aside0 (Below w.heap.size w wc) ∧ Aside0 (Inv s2) ∧ Aside0 (s2.fl.length ≤ i + 1))
        case first =>
          by_cases k0 : kd = 0
          · subst k0
            have hdr : Below wb.heap.size wb wb.drew := below_drew1 (Below.refl _ _)
            have HLd := Aside0.mk (lg_below HLb.out hdr)
            have HRd := Aside0.mk (rg_below HRb.out hdr)
            have HBd := Aside0.mk (below_step HBb.out hdr)
            have HXd := Aside0.mk (blk_below HX.out hdr)
            clear hdr
            by_cases ho : sentOk s n0 sz
            · have HSN := Aside0.mk (sent_c g s v v n0 now sz w _ _ (LP.start HLd.out HBd.out) HG.out ho HLN.out)
              have HRN := Aside0.mk (fun w2 (hr : RG w.heap.size w2 q s u) (hb : Below w.heap.size w w2) => rsent_c q s u u n0 now sz w w2 w2 (RP.start hr hb) HGQ.out HIV.out.t0 ho HLN.out)
              have HIV2 := Aside0.mk (inv_sent HIV.out (now := now) ho)
              clear ho
              go_wp2_with (fail)
              refine Calm.wp_region_phC [(2, fun w_ => w_.cell? ⟨wr.heap.size, 1, none⟩ = some (.int .i64 n0)), (4, fun w_ => w_.cell? ⟨wr.heap.size, 2, none⟩ = some (.int .i64 now)), (6, fun w_ => w_.cell? ⟨wr.heap.size, 3, none⟩ = some (.int .i64 sz)), (10, fun w_ => w_.cell? ⟨wr.heap.size, 1, none⟩ = some (.int .i64 n0)), (12, fun w_ => w_.cell? ⟨wr.heap.size, 2, none⟩ = some (.int .i64 now)), (14, fun w_ => w_.cell? ⟨wr.heap.size, 3, none⟩ = some (.int .i64 sz))] [([0, 1, 2, 3, 4, 5, 6, 8, 9, 10, 11, 12, 13, 14], [7, 15]), ([16], [])] (by kernel_rfl) (by kernel_rfl) ?_
              refine Calm.ph_next ?_ ?_
              · repeat (first | exact Calm.okI_nil | (refine Calm.okI_cons (Or.inl (by decide)) ?_) | (refine Calm.okI_cons (Or.inr (by first | exact (blk_cell HXd.out 1).trans rfl | exact (blk_cell HXd.out 2).trans rfl | exact (blk_cell HXd.out 3).trans rfl)) ?_))
              repeat (first
                | (refine Calm.g_value (v := ?_) (a' := ?_) rfl rfl (by rfl) ?_ ?_ ?_; rotate_left; (· rintro w' hS'; (try simp only [Calm.SC_cons, Calm.SC_nil, Nat.reduceEqDiff, forall_const, false_implies, and_true, true_and] at hS'); (try obtain ⟨hS1, hS2⟩ := hS'); go_simp; with_reducible rfl); rotate_left; (· simp only [Act.put, List.setIfInBounds_toArray, List.set_cons_zero, List.set_cons_succ, i64_w, i32_w]; rfl)))
              refine Calm.g_nil ?_
              refine Calm.c_call rfl rfl Try.func11 (by kernel_rfl) rfl #[.pointer (some ⟨g, 0, none⟩), .int .i64 n0, .int .i64 now, .int .i64 sz] (by rfl) rfl (by (try simp only [List.map_toArray, List.map_cons, List.map_nil]); rfl) ?_
              (with_reducible refine (HSN.out).mono ?_)
              rintro e_ w2 ⟨rfl, v2, h2⟩; have HR2 := Aside0.mk (rg_after_l HRd.out HLd.out h2.keep); have HX2 := Aside0.mk (later_l HXd.out HLd.out (by decide) (by decide) h2.keep); have HL2 := Aside0.mk h2; clear h2
              refine ⟨_, rfl, ?_, ?_⟩
              · repeat (first | exact Calm.okC_nil | (refine Calm.okC_cons (Or.inl (by decide +kernel)) ?_) | (refine Calm.okC_cons (Or.inr (by first | exact (blk_cell HX2.out 1).trans rfl | exact (blk_cell HX2.out 2).trans rfl | exact (blk_cell HX2.out 3).trans rfl)) ?_))
              refine Calm.put_to (a' := ?_) ?_ ?_
              rotate_left
              · simp only [Act.put, List.setIfInBounds_toArray, List.set_cons_zero, List.set_cons_succ, i64_w, i32_w]; rfl
              refine Calm.c_call rfl rfl Try.func15 (by kernel_rfl) rfl #[.pointer (some ⟨q, 0, none⟩), .int .i64 n0, .int .i64 now, .int .i64 sz] (by rfl) rfl (by (try simp only [List.map_toArray, List.map_cons, List.map_nil]); rfl) ?_
              (with_reducible refine (HRN.out w2 HR2.out HL2.out.bel).mono ?_)
              rintro e_ w3 ⟨rfl, u2, h3⟩; have HL3 := Aside0.mk (lg_after_r HL2.out.lg HR2.out h3.keep); have HR3 := Aside0.mk h3.lg; have HB3 := Aside0.mk h3.bel; clear h3
              refine ⟨_, rfl, ?_, ?_⟩
              · repeat (first | exact Calm.okC_nil | (refine Calm.okC_cons (Or.inl (by decide +kernel)) ?_) | (refine Calm.okC_cons (Or.inr (by fail)) ?_))
              refine Calm.put_to (a' := ?_) ?_ ?_
              rotate_left
              · simp only [Act.put, List.setIfInBounds_toArray, List.set_cons_zero, List.set_cons_succ, i64_w, i32_w]; rfl
              refine Calm.h_nil ?_
              refine Calm.ph_next ?_ ?_
              · repeat (first | exact Calm.okI_nil | (refine Calm.okI_cons (Or.inl (by decide)) ?_) | (refine Calm.okI_cons (Or.inr (by fail)) ?_))
              repeat (first
                | (refine Calm.g_value (v := ?_) (a' := ?_) rfl rfl (by rfl) ?_ ?_ ?_; rotate_left; (· rintro w' hS'; (try simp only [Calm.SC_cons, Calm.SC_nil, Nat.reduceEqDiff, forall_const, false_implies, and_true, true_and] at hS'); (try obtain ⟨hS1, hS2⟩ := hS'); go_simp; with_reducible rfl); rotate_left; (· simp only [Act.put, List.setIfInBounds_toArray, List.set_cons_zero, List.set_cons_succ, i64_w, i32_w]; rfl)))
              refine Calm.g_nil ?_
              refine Calm.h_nil ?_
              refine Calm.ph_end ?_
              simp only [Exit.inBlock, Exit.then]
              go_wp2_with (fail)
              go_meet
              case rel => exact ⟨_, _, _, HL3, HR3, HB3, HIV2, ⟨by show (s.fl ++ [_]).length ≤ i + 1; rw [List.length_append]; have := HLE.out; simp only [List.length_cons, List.length_nil]; omega⟩⟩
            · have HSN := Aside0.mk (sent_no g s v v n0 now sz w _ _ (LP.start HLd.out HBd.out) ho)
              have HRN := Aside0.mk (fun w2 (hr : RG w.heap.size w2 q s u) (hb : Below w.heap.size w w2) => rsent_no q s u u n0 now sz w w2 w2 (RP.start hr hb) ho)
              clear ho
              go_wp2_with (fail)
              refine Calm.wp_region_phC [(2, fun w_ => w_.cell? ⟨wr.heap.size, 1, none⟩ = some (.int .i64 n0)), (4, fun w_ => w_.cell? ⟨wr.heap.size, 2, none⟩ = some (.int .i64 now)), (6, fun w_ => w_.cell? ⟨wr.heap.size, 3, none⟩ = some (.int .i64 sz)), (10, fun w_ => w_.cell? ⟨wr.heap.size, 1, none⟩ = some (.int .i64 n0)), (12, fun w_ => w_.cell? ⟨wr.heap.size, 2, none⟩ = some (.int .i64 now)), (14, fun w_ => w_.cell? ⟨wr.heap.size, 3, none⟩ = some (.int .i64 sz))] [([0, 1, 2, 3, 4, 5, 6, 8, 9, 10, 11, 12, 13, 14], [7, 15]), ([16], [])] (by kernel_rfl) (by kernel_rfl) ?_
              refine Calm.ph_next ?_ ?_
              · repeat (first | exact Calm.okI_nil | (refine Calm.okI_cons (Or.inl (by decide)) ?_) | (refine Calm.okI_cons (Or.inr (by first | exact (blk_cell HXd.out 1).trans rfl | exact (blk_cell HXd.out 2).trans rfl | exact (blk_cell HXd.out 3).trans rfl)) ?_))
              repeat (first
                | (refine Calm.g_value (v := ?_) (a' := ?_) rfl rfl (by rfl) ?_ ?_ ?_; rotate_left; (· rintro w' hS'; (try simp only [Calm.SC_cons, Calm.SC_nil, Nat.reduceEqDiff, forall_const, false_implies, and_true, true_and] at hS'); (try obtain ⟨hS1, hS2⟩ := hS'); go_simp; with_reducible rfl); rotate_left; (· simp only [Act.put, List.setIfInBounds_toArray, List.set_cons_zero, List.set_cons_succ, i64_w, i32_w]; rfl)))
              refine Calm.g_nil ?_
              refine Calm.c_call rfl rfl Try.func11 (by kernel_rfl) rfl #[.pointer (some ⟨g, 0, none⟩), .int .i64 n0, .int .i64 now, .int .i64 sz] (by rfl) rfl (by (try simp only [List.map_toArray, List.map_cons, List.map_nil]); rfl) ?_
              (with_reducible refine (HSN.out).mono ?_)
              rintro e_ w2 ⟨rfl, h2⟩; have HR2 := Aside0.mk (rg_after_l HRd.out HLd.out h2.keep); have HX2 := Aside0.mk (later_l HXd.out HLd.out (by decide) (by decide) h2.keep); have HL2 := Aside0.mk h2; clear h2
              refine ⟨_, rfl, ?_, ?_⟩
              · repeat (first | exact Calm.okC_nil | (refine Calm.okC_cons (Or.inl (by decide +kernel)) ?_) | (refine Calm.okC_cons (Or.inr (by first | exact (blk_cell HX2.out 1).trans rfl | exact (blk_cell HX2.out 2).trans rfl | exact (blk_cell HX2.out 3).trans rfl)) ?_))
              refine Calm.put_to (a' := ?_) ?_ ?_
              rotate_left
              · simp only [Act.put, List.setIfInBounds_toArray, List.set_cons_zero, List.set_cons_succ, i64_w, i32_w]; rfl
              refine Calm.c_call rfl rfl Try.func15 (by kernel_rfl) rfl #[.pointer (some ⟨q, 0, none⟩), .int .i64 n0, .int .i64 now, .int .i64 sz] (by rfl) rfl (by (try simp only [List.map_toArray, List.map_cons, List.map_nil]); rfl) ?_
              (with_reducible refine (HRN.out w2 HR2.out HL2.out.bel).mono ?_)
              rintro e_ w3 ⟨rfl, h3⟩; have HL3 := Aside0.mk (lg_after_r HL2.out.lg HR2.out h3.keep); have HR3 := Aside0.mk h3.lg; have HB3 := Aside0.mk h3.bel; clear h3
              refine ⟨_, rfl, ?_, ?_⟩
              · repeat (first | exact Calm.okC_nil | (refine Calm.okC_cons (Or.inl (by decide +kernel)) ?_) | (refine Calm.okC_cons (Or.inr (by fail)) ?_))
              refine Calm.put_to (a' := ?_) ?_ ?_
              rotate_left
              · simp only [Act.put, List.setIfInBounds_toArray, List.set_cons_zero, List.set_cons_succ, i64_w, i32_w]; rfl
              refine Calm.h_nil ?_
              refine Calm.ph_next ?_ ?_
              · repeat (first | exact Calm.okI_nil | (refine Calm.okI_cons (Or.inl (by decide)) ?_) | (refine Calm.okI_cons (Or.inr (by fail)) ?_))
              repeat (first
                | (refine Calm.g_value (v := ?_) (a' := ?_) rfl rfl (by rfl) ?_ ?_ ?_; rotate_left; (· rintro w' hS'; (try simp only [Calm.SC_cons, Calm.SC_nil, Nat.reduceEqDiff, forall_const, false_implies, and_true, true_and] at hS'); (try obtain ⟨hS1, hS2⟩ := hS'); go_simp; with_reducible rfl); rotate_left; (· simp only [Act.put, List.setIfInBounds_toArray, List.set_cons_zero, List.set_cons_succ, i64_w, i32_w]; rfl)))
              refine Calm.g_nil ?_
              refine Calm.h_nil ?_
              refine Calm.ph_end ?_
              simp only [Exit.inBlock, Exit.then]
              go_wp2_with (fail)
              go_meet
              case rel => exact ⟨_, _, _, HL3, HR3, HB3, HIV, ⟨Nat.le_succ_of_le HLE.out⟩⟩
          · have K0 : (kd == 0) = false := beq_eq_false_iff_ne.2 k0
            by_cases k1 : kd = 1
            · subst k1
              have hlr : rg.length ≤ 1000000 ∨ True := .inr trivial
              have HCb := Aside0.mk (fun W (hb : Below w.heap.size w W) => c34_heap HC4.out (w2 := W) (fun k hk => hb.block k hk))
              obtain ⟨rt, rl_, rs, re, hR⟩ : ∃ rt rl_ rs re, ackR s rg = ⟨rs, rt, rl_, re⟩ := ⟨_, _, _, _, rfl⟩
              have HPT := Aside0.mk (parts_len (ack_parts s rg))
              have HIV2 := Aside0.mk (inv_ack HIV.out rg)
              have HAL := Aside0.mk (fun W cr Ar (hl : LG w.heap.size W g s v) (hb : Below w.heap.size w W) (hC : ∀ w, KeepBut W w g v.ownBlock → Kd.C k34 w Ar rg.length rg) (hcap : rg.length ≤ cr) => acked_c w W W g cr Ar rg v v s (LP.start hl hb) HG.out hC hcap HIV.out HLN.out)
              have HAR := Aside0.mk (fun W (hr : RG w.heap.size W q s u) (hb : Below w.heap.size w W) => racked_c w W W q c4 A4 rg u u s (RP.start hr hb) HGQ.out (rg_arg hr hb HGQ.out HC4.out) HL4.out HIV.out HLN.out)
              rw [hR] at HPT HIV2 HAL HAR
              dsimp only at HPT HIV2 HAL HAR
              have HSM := Aside0.mk (show rt.length ≤ 100000 ∧ rl_.length ≤ 100000 ∧ rs.fl.length ≤ i + 1 by have := HPT.out; rw [List.length_append] at this; have := HLE.out; have := HLN.out; omega)
              clear hR hlr k0
              have b5 := ((below_alloc (Below.refl wb.heap.size wb) (.cells #[] 34)).cell (blk_lt HX.out)).trans b4
              go_wp2_with (first | ((with_reducible refine gate_builtin (b := .append) (xs := #[.tmp 59, .tmp 61]) rfl ?_); at_builtin; refine Kd.R_append_rows k34 (w0 := w) w.heap.size rfl (.tmp 59) (.tmp 61) 35 34 (.agg #[.int .i64 0, .int .i64 0]) 16 rfl Try.underlying35 info34_ rfl (by decide) (by omega) (.slice (some ⟨wb.heap.size, 0, none⟩) 0 0) [] rg _ _ _ (fun _ => True) (fun _ => False) rfl rfl (R_empty34 wb HBb.out.size) (HCb.out _ (below_alloc HBb.out _)) (fun x cs hK => k34_KM hK) (fun _ h => h.elim) (fun _ _ => trivial) (below_alloc HBb.out _) ?aS ?aL ?_; (case aS => exact (below_alloc HBb.out _).size); (case aL => have := HGL.out; simp only [List.length_nil]; omega); intro v5 w5 hR5 hB5 hg5 hat5; rw [List.nil_append] at hR5; have hb5 := (below_alloc (Below.refl wb.heap.size wb) (.cells #[] 34)).grown hg5 (below_alloc (Below.refl wb.heap.size wb) (.cells #[] 34)).size (fun j hj => by cases hj; exact Nat.le_refl _); obtain ⟨Av, cv, rfl⟩ := Kd.R_slice hR5; have HL5 := Aside0.mk (lg_below HLb.out hb5); have HR5 := Aside0.mk (rg_below HRb.out hb5); have HB5 := Aside0.mk (below_step HBb.out hb5); have HX5 := Aside0.mk (blk_below HX.out hb5); have HV5 := Aside0.mk hR5; clear hR5 hB5 hg5 hat5 hb5) | (go_at_call 12; (with_reducible refine (HAL.out w5 cv Av HL5.out HB5.out (fun w' hk => (Kd.R_reads' (rngs_later HL5.out HV5.out hk)).2.2) (Kd.R_reads' HV5.out).2.1).mono ?_); rintro e_ w6 ⟨va, vb, v6, rfl, h6, ha, hb⟩; obtain ⟨Aa, ca, rfl⟩ := Kd.R_slice ha; obtain ⟨Ab, cb, rfl⟩ := Kd.R_slice hb; have HL6 := Aside0.mk h6; have HR6 := Aside0.mk (rg_after_l HR5.out HL5.out h6.keep); have hx6 := later_l HX5.out HL5.out (by decide) (by decide) h6.keep; have d4 := (show _ = some (Value.slice A4 rg.length c4) from (blk_cell hx6 4).trans rfl); have HTA := Aside0.mk ha; have HTB := Aside0.mk hb; clear h6 ha hb hx6) | (go_at_call 16; (with_reducible refine (HAR.out w6 HR6.out HL6.out.bel).mono ?_); rintro e_ w7 ⟨vc, vd, u7, rfl, h7, hc, hd⟩; obtain ⟨Ac, cc, rfl⟩ := Kd.R_slice hc; obtain ⟨Ad, cd, rfl⟩ := Kd.R_slice hd; have HL7 := Aside0.mk (lg_after_r HL6.out.lg HR6.out h7.keep); have ha7 := rints_later HR6.out HTA.out h7.keep; have hb7 := rints_later HR6.out HTB.out h7.keep; have HR7 := Aside0.mk h7.lg; have HB7 := Aside0.mk h7.bel; have HCA := Aside0.mk (Kd.R_reads' ha7).2; have HCB := Aside0.mk (Kd.R_reads' hb7).2; have HCC := Aside0.mk (Kd.R_reads' hc).2; have HCD := Aside0.mk (Kd.R_reads' hd).2; clear h7 ha7 hb7 hc hd) | (go_at_call 17; (with_reducible refine (same_c (r := true) HCA.out.2 HCA.out.1 HCC.out.2 HCC.out.1 HSM.out.1 (decide_eq_true rfl)).mono ?_); rintro e_ w8 ⟨rfl, hd8⟩; have HD8 := Aside0.mk (below_drawn0 (Below.refl w7.heap.size w7) hd8); clear hd8) | (go_at_call 17; (with_reducible refine (same_c (r := true) (Kd.C_below HCB.out.2 HD8.out) HCB.out.1 (Kd.C_below HCD.out.2 HD8.out) HCD.out.1 HSM.out.2.1 (decide_eq_true rfl)).mono ?_); rintro e_ w9 ⟨rfl, hd9⟩; have HD9 := Aside0.mk (below_drawn0 HD8.out hd9); clear hd9))
              go_meet
              case rel => exact ⟨v6, u7, rs, ⟨lg_below HL7.out HD9.out⟩, ⟨rg_below HR7.out HD9.out⟩, ⟨below_step HB7.out HD9.out⟩, HIV2, ⟨HSM.out.2.2⟩⟩
            · have K1 : (kd == 1) = false := beq_eq_false_iff_ne.2 k1
              by_cases k2 : kd = 2
              · subst k2
                have hdr : Below wb.heap.size wb wb.drew := below_drew1 (Below.refl _ _)
                have HLd := Aside0.mk (lg_below HLb.out hdr)
                have HRd := Aside0.mk (rg_below HRb.out hdr)
                have HBd := Aside0.mk (below_step HBb.out hdr)
                have HXd := Aside0.mk (blk_below HX.out hdr)
                clear hdr
                obtain ⟨rs, rt, hR⟩ : ∃ rs rt, expR now s = (rs, rt) := ⟨_, _, rfl⟩
                have HPT := Aside0.mk (parts_len (exp_parts now s))
                have HIV2 := Aside0.mk (inv_expR (now := now) HIV.out)
                have HEL := Aside0.mk (expire_c w _ _ g now v v s (LP.start HLd.out HBd.out) HG.out HIV.out HLN.out)
                have her := fun W (hr : RG w.heap.size W q s u) (hb : Below w.heap.size w W) => rexpire_c w W W q now u u s (RP.start hr hb) HGQ.out HIV.out HLN.out
                rw [rexp_eq now HIV.out, hR] at her
                have HER := Aside0.mk her
                rw [hR] at HPT HIV2 HEL
                dsimp only at HPT HIV2 HEL HER
                have HSM := Aside0.mk (show rt.length ≤ 100000 ∧ rs.fl.length ≤ i + 1 by have := HPT.out; have := HLE.out; have := HLN.out; omega)
                clear her hR k0 k1
                go_wp2_with (fail)
                refine Calm.wp_region_phC [(2, fun w_ => w_.cell? ⟨wr.heap.size, 2, none⟩ = some (.int .i64 now)), (6, fun w_ => w_.cell? ⟨wr.heap.size, 2, none⟩ = some (.int .i64 now))] [([0, 1, 2, 4, 5, 6], [3, 7, 8]), ([9], [])] (by kernel_rfl) (by kernel_rfl) ?_
                refine Calm.ph_next ?_ ?_
                · repeat (first | exact Calm.okI_nil | (refine Calm.okI_cons (Or.inl (by decide)) ?_) | (refine Calm.okI_cons (Or.inr (by exact (blk_cell HXd.out 2).trans rfl)) ?_))
                repeat (first
                  | (refine Calm.g_value (v := ?_) (a' := ?_) rfl rfl (by rfl) ?_ ?_ ?_; rotate_left; (· rintro w' hS'; (try simp only [Calm.SC_cons, Calm.SC_nil, Nat.reduceEqDiff, forall_const, false_implies, and_true, true_and] at hS'); (try obtain ⟨hS1, hS2⟩ := hS'); go_simp; with_reducible rfl); rotate_left; (· simp only [Act.put, List.setIfInBounds_toArray, List.set_cons_zero, List.set_cons_succ, i64_w, i32_w]; rfl)))
                refine Calm.g_nil ?_
                refine Calm.c_call rfl rfl Try.func13 (by kernel_rfl) rfl #[.pointer (some ⟨g, 0, none⟩), .int .i64 now] (by rfl) rfl (by (try simp only [List.map_toArray, List.map_cons, List.map_nil]); rfl) ?_
                (with_reducible refine (HEL.out).mono ?_)
                rintro e_ w2 ⟨va, v2, rfl, h2, ha⟩; obtain ⟨Aa, ca, rfl⟩ := Kd.R_slice ha; have HR2 := Aside0.mk (rg_after_l HRd.out HLd.out h2.keep); have HX2 := Aside0.mk (later_l HXd.out HLd.out (by decide) (by decide) h2.keep); have HL2 := Aside0.mk h2; have HTA := Aside0.mk ha; clear h2 ha
                refine ⟨_, rfl, ?_, ?_⟩
                · repeat (first | exact Calm.okC_nil | (refine Calm.okC_cons (Or.inl (by decide +kernel)) ?_) | (refine Calm.okC_cons (Or.inr (by exact (blk_cell HX2.out 2).trans rfl)) ?_))
                refine Calm.put_to (a' := ?_) ?_ ?_
                rotate_left
                · simp only [Act.put, List.setIfInBounds_toArray, List.set_cons_zero, List.set_cons_succ, i64_w, i32_w]; rfl
                refine Calm.c_call rfl rfl Try.func18 (by kernel_rfl) rfl #[.pointer (some ⟨q, 0, none⟩), .int .i64 now] (by rfl) rfl (by (try simp only [List.map_toArray, List.map_cons, List.map_nil]); rfl) ?_
                (with_reducible refine (HER.out w2 HR2.out HL2.out.bel).mono ?_)
                rintro e_ w3 ⟨vb, u2, rfl, h3, hb⟩; obtain ⟨Ab, cb, rfl⟩ := Kd.R_slice hb; have HL3 := Aside0.mk (lg_after_r HL2.out.lg HR2.out h3.keep); have HR3 := Aside0.mk h3.lg; have HB3 := Aside0.mk h3.bel; have ha3 := rints_later HR2.out HTA.out h3.keep; have HCA := Aside0.mk (Kd.R_reads' ha3).2; have HCB := Aside0.mk (Kd.R_reads' hb).2; clear h3 ha3 hb
                refine ⟨_, rfl, ?_, ?_⟩
                · repeat (first | exact Calm.okC_nil | (refine Calm.okC_cons (Or.inl (by decide +kernel)) ?_) | (refine Calm.okC_cons (Or.inr (by fail)) ?_))
                refine Calm.put_to (a' := ?_) ?_ ?_
                rotate_left
                · simp only [Act.put, List.setIfInBounds_toArray, List.set_cons_zero, List.set_cons_succ, i64_w, i32_w]; rfl
                refine Calm.c_call rfl rfl Try.func17 (by kernel_rfl) rfl #[.slice Aa rt.length ca, .slice Ab rt.length cb] (by rfl) rfl (by (try simp only [List.map_toArray, List.map_cons, List.map_nil]); rfl) ?_
                (with_reducible refine (same_c (r := true) HCA.out.2 HCA.out.1 HCB.out.2 HCB.out.1 HSM.out.1 (decide_eq_true rfl)).mono ?_)
                rintro e_ w4 ⟨rfl, hd4⟩; have HD4 := Aside0.mk (below_drawn0 (Below.refl w3.heap.size w3) hd4); clear hd4
                refine ⟨_, rfl, ?_, ?_⟩
                · repeat (first | exact Calm.okC_nil | (refine Calm.okC_cons (Or.inl (by decide +kernel)) ?_) | (refine Calm.okC_cons (Or.inr (by fail)) ?_))
                refine Calm.put_to (a' := ?_) ?_ ?_
                rotate_left
                · simp only [Act.put, List.setIfInBounds_toArray, List.set_cons_zero, List.set_cons_succ, i64_w, i32_w]; rfl
                refine Calm.h_nil ?_
                refine Calm.ph_next ?_ ?_
                · repeat (first | exact Calm.okI_nil | (refine Calm.okI_cons (Or.inl (by decide)) ?_) | (refine Calm.okI_cons (Or.inr (by fail)) ?_))
                repeat (first
                  | (refine Calm.g_value (v := ?_) (a' := ?_) rfl rfl (by rfl) ?_ ?_ ?_; rotate_left; (· rintro w' hS'; (try simp only [Calm.SC_cons, Calm.SC_nil, Nat.reduceEqDiff, forall_const, false_implies, and_true, true_and] at hS'); (try obtain ⟨hS1, hS2⟩ := hS'); go_simp; with_reducible rfl); rotate_left; (· simp only [Act.put, List.setIfInBounds_toArray, List.set_cons_zero, List.set_cons_succ, i64_w, i32_w]; rfl)))
                refine Calm.g_nil ?_
                refine Calm.h_nil ?_
                refine Calm.ph_end ?_
                simp only [Exit.inBlock, Exit.then]
                go_wp2_with (fail)
                go_meet
                case rel => exact ⟨_, _, rs, ⟨lg_below HL3.out HD4.out⟩, ⟨rg_below HR3.out HD4.out⟩, ⟨below_step HB3.out HD4.out⟩, HIV2, ⟨HSM.out.2⟩⟩
              · have K2 : (kd == 2) = false := beq_eq_false_iff_ne.2 k2
                clear k0 k1 k2
                go_wp2_with (fail)
                go_meet
                case rel => exact ⟨_, _, s, HLb, HRb, HBb, HIV, ⟨Nat.le_succ_of_le HLE.out⟩⟩
        case rest =>
          obtain ⟨v2, u2, s2, H3, HR3, HB3, HIV3, HLE3⟩ := hcut
          have HLN3 := Aside0.mk (show s2.fl.length ≤ 100000 by have := HLE3.out; have := HJ.out; omega)
          have HZ := Aside0.mk (fun x hx => (HIV3.out.fl x hx).2.2)
          obtain ⟨sm, hsm⟩ : ∃ q, sumZ s2.fl = q := ⟨_, rfl⟩
          have HSZ := Aside0.mk hsm
          obtain ⟨fn, hfn⟩ : ∃ q, s2.fl.length = q := ⟨_, rfl⟩
          have HFN := Aside0.mk hfn
          obtain ⟨wn, hwn⟩ : ∃ q, s2.win = q := ⟨_, rfl⟩
          have HWN := Aside0.mk hwn
          obtain ⟨wt, hwt⟩ : ∃ q, waitV s2.back = q := ⟨_, rfl⟩
          have HWT := Aside0.mk hwt
          clear hsm hfn hwn hwt HL HRG HB HIV HLE HLb HRb HBb HX HC4 HL4 x0 x1 x2 x3 x4 b0 b1 b2 b3 b4 hwb
          go_wp2_with (first | (go_at_call 19; (with_reducible refine (flight_c g s2 v2 v2 w wc wc (LP.start H3.out HB3.out) HLN3.out HZ.out).mono ?_); rintro e_ w4 ⟨rfl, h4⟩; rw [HSZ.out, HFN.out]; have HL4 := Aside0.mk h4; have HR4 := Aside0.mk (rg_after_l HR3.out H3.out h4.keep); clear h4) | (go_at_call 20; (with_reducible refine (rflight_c q s2 u2 u2 w w4 w4 (RP.start HR4.out HL4.out.bel) HLN3.out HZ.out).mono ?_); rintro e_ w5 ⟨rfl, h5⟩; rw [HSZ.out, HFN.out]; have HL5 := Aside0.mk (lg_after_r HL4.out.lg HR4.out h5.keep); have HR5 := Aside0.mk h5; have e2 := (blk_cell h5.lg.blk 2).trans (rfl : _ = some (Value.int .i64 s2.win)); rw [HWN.out] at e2; clear h5))
          have HWI := Aside0.mk (show ∀ n, Calls Try.prog 10 #[.pointer (some ⟨g, 0, none⟩)] (w5.drewN n) fun e w' => e = .returned (.int .i64 wn) ∧ ∃ m, w' = (w5.drewN n).drewN m from fun n => (window_c g _ s2 v2 (w5.drewN n) (lg_below HL5.out (pw_below_drewN (Below.refl _ _) n))).mono (fun e w' h => ⟨by rw [← HWN.out]; exact h.1, by obtain ⟨m, hm⟩ := h.2; exact ⟨m, hm⟩⟩))
          have HW1 := Aside0.mk (show ∀ n, Calls Try.prog 21 #[.pointer (some ⟨g, 0, none⟩)] (w5.drewN n) fun e w' => e = .returned (.int .i64 wt) ∧ ∃ m, w' = (w5.drewN n).drewN m from fun n => (wait_c g _ s2 v2 (w5.drewN n) (lg_below HL5.out (pw_below_drewN (Below.refl _ _) n)) HIV3.out.b0 HIV3.out.b1).mono (fun e w' h => ⟨by rw [← HWT.out]; exact h.1, by obtain ⟨m, hm⟩ := h.2; exact ⟨m, hm⟩⟩))
          have HW2 := Aside0.mk (show ∀ n, Calls Try.prog 22 #[.pointer (some ⟨q, 0, none⟩)] (w5.drewN n) fun e w' => e = .returned (.int .i64 wt) ∧ ∃ m, w' = (w5.drewN n).drewN m from fun n => (rwait_c q _ s2 u2 (w5.drewN n) (rg_below HR5.out.lg (pw_below_drewN (Below.refl _ _) n)) HIV3.out.b0 HIV3.out.b1).mono (fun e w' h => ⟨by rw [← HWT.out]; exact h.1, by obtain ⟨m, hm⟩ := h.2; exact ⟨m, hm⟩⟩))
          go_quiet (first | (go_at_call 10; refine Calls.quiet_of (HWI.out _)) | (go_at_call 21; refine Calls.quiet_of (HW1.out _)) | (go_at_call 22; refine Calls.quiet_of (HW2.out _)))
          simp only [Exit.then]
          have hq := pw_below_drewN (Below.refl w5.heap.size w5) nq
          have HL6 := Aside0.mk (lg_below HL5.out hq)
          have HR6 := Aside0.mk (rg_below HR5.out.lg hq)
          have HB6 := Aside0.mk (below_step HR5.out.bel hq)
          clear hq
          go_wp2_with (fail)
          go_roundw
          case rel => exact ⟨i + 1, by first | rfl | simp, ⟨by have := HJ.out; omega⟩, v2, u2, s2, HL6, HR6, HB6, HIV3, HLE3⟩
          case measure => have := HJ.out; simp [intOf]; omega
      · have M1 : decide ((i : Int) < (xs.length : Int)) = true := decide_eq_true d1
        have M1' : decide (i < xs.length) = true := decide_eq_true (by omega)
        have M2 : decide ((i : Int) < 150) = false := decide_eq_false d2
        have M2' : decide (i < 150) = false := decide_eq_false (by omega)
        clear d1 d2
        go_wp2_with (fail)
        go_ret
        exact ⟨rfl, HB.out⟩
    · have M1 : decide ((i : Int) < (xs.length : Int)) = false := decide_eq_false d1
      have M1' : decide (i < xs.length) = false := decide_eq_false (by omega)
      clear d1
      go_wp2_with (fail)
      go_ret
      exact ⟨rfl, HB.out⟩
end Go.Proofs.Ytgdgegkokghedaa.Walk
