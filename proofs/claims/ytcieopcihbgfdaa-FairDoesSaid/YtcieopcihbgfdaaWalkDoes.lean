/- The walk of FairDoes. gen/mk_does20.py writes this text. -/
import Derived.Test.YtcieopcihbgfdaaWalkAlone
import Derived.Test.YtcieopcihbgfdaaDd20
import Derived.Test.YtcieopcihbgfdaaGoodFairDoes
namespace Go.Proofs.Ytcieopcihbgfdaa.Walk
open Go.RowKit Go.Proofs.YtcieopcihbgfdaaW.PrintWords Go.Proofs.YtcieopcihbgfdaaW.PrintLast Go.Proofs.YtcieopcihbgfdaaW.PrintMore Go.Proofs.Ytcieopcihbgfdaa.PFairDoes Go.Proofs.Ytcieopcihbgfdaa Go.Proofs.Ytcieopcihbgfdaa.Fair Go.Proofs.Ytcieopcihbgfdaa.Fq Go.Proofs.Ytcieopcihbgfdaa.Rf
set_option linter.unusedVariables false
set_option linter.unusedSimpArgs false
def z41 : S41 := ⟨0, 0, ByteArray.empty⟩
theorem add_fld (ad : Addr) (n j : Nat) (hj : 0 < j) : ad.add (n + j) = ⟨(ad.add n).block, (ad.add n).off + j, none⟩ := by
  unfold Addr.add
  rw [if_neg (by omega)]
  split
  · subst_vars; simp
  · simp only [Addr.mk.injEq, and_true, true_and]; omega
theorem crow41 {w : World} {A : Option Addr} {xs : List S41} (h : Kd.C k41 w A xs.length xs) (i : Nat) (h1 : i < xs.length) : ∃ ad, A = some ad ∧ ∀ W, Below w.heap.size w W → W.cell? (ad.add (i * 3)) = some (.int .i64 (xs.getD i z41).f0) ∧ W.cell? ⟨(ad.add (i * 3)).block, (ad.add (i * 3)).off + 1, none⟩ = some (.int .i64 (xs.getD i z41).f1) ∧ W.cell? ⟨(ad.add (i * 3)).block, (ad.add (i * 3)).off + 2, none⟩ = some (.string (xs.getD i z41).f2) := by
  obtain ⟨ad, c, e, _, hK, hc0⟩ := Kd.C_get h z41 (i : Int) (by omega) (by omega)
  refine ⟨ad, e, fun W hb => ?_⟩
  obtain ⟨ad2, c2, e2, _, hK2, hc2⟩ := Kd.C_get (Kd.C_below h hb) z41 (i : Int) (by omega) (by omega)
  obtain rfl : ad = ad2 := Option.some.inj (e.symm.trans e2)
  rw [Int.toNat_natCast] at hK2 hc2
  obtain rfl := k41_open hK2
  have f0 := hc2 0 _ rfl
  have f1 := hc2 1 _ rfl
  have f2 := hc2 2 _ rfl
  rw [show i * k41.sz + 0 = i * 3 from rfl] at f0
  rw [show i * k41.sz + 1 = i * 3 + 1 from rfl, add_fld _ _ _ (by decide)] at f1
  rw [show i * k41.sz + 2 = i * 3 + 2 from rfl, add_fld _ _ _ (by decide)] at f2
  exact ⟨f0, f1, f2⟩
theorem cutV_b (n : Int) : 1 ≤ cutV n ∧ cutV n ≤ 1048576 := by
  unfold cutV mn mx
  split <;> split <;> omega
theorem box_cells {w : World} {b : Nat} {kd id : Int} {t : ByteArray} {T : Nat} (h : w.heap[b]? = some (.cells #[.int .i64 kd, .int .i64 id, .string t] T (0, 0))) : w.cell? ⟨b, 0, none⟩ = some (.int .i64 kd) ∧ w.cell? ⟨b, 1, none⟩ = some (.int .i64 id) ∧ w.cell? ⟨b, 2, none⟩ = some (.string t) := ⟨(blk_cell h 0).trans rfl, (blk_cell h 1).trans rfl, (blk_cell h 2).trans rfl⟩
theorem io_facts {i n : Nat} (h : i < n) (h2 : i < 150) : wrap64 ((i : Int) + 1) = ((i + 1 : Nat) : Int) ∧ IntKind.i64.wrap ((i : Int) + 1) = ((i + 1 : Nat) : Int) ∧ decide ((i : Int) < (n : Int)) = true ∧ decide (i < n) = true ∧ decide ((i : Int) < 150) = true ∧ decide (i < 150) = true ∧ ((i : Int) < (n : Int)) = True ∧ (i < n) = True ∧ ((0 : Int) ≤ (i : Int)) = True := by
  have hw : wrap64 ((i : Int) + 1) = ((i + 1 : Nat) : Int) := by unfold wrap64; omega
  exact ⟨hw, (i64_w _).trans hw, decide_eq_true (by omega), decide_eq_true h, decide_eq_true (by omega), decide_eq_true h2, eq_true (by omega), eq_true h, eq_true (by omega)⟩
set_option maxHeartbeats 8000000 in
set_option maxRecDepth 100000 in
theorem fairDoes_walk {P1 : Prop} (a0 a1 : Int) (A : Option Addr) (cap : Nat) (xs : List S41) (w : World) (hr : Kd.C k41 w A xs.length xs) (hc : xs.length ≤ cap) (G0 : (Lit.int .i64 a0).wf = true) (G1 : (Lit.int .i64 a1).wf = true) (G2 : P1 ∧ ∀ y ∈ xs, good41 y) :
    Calls Try.prog 5 #[.int .i64 a0, .int .i64 a1, .slice A xs.length cap] w fun e w' => e = .returned (.bool true) ∧ Below w.heap.size w w' := by
  have HR := Aside0.mk hr
  have HG2 := Aside0.mk G2.2
  clear hr hc G0 G1 G2
  go_enter Try.func5, Try.ntmps5
  go_wp2_with (first | (go_at_call 9; (with_reducible refine (new_a a0 a1 w w (Below.refl _ _)).mono ?_); rintro e_ w1 ⟨g, rfl, h_⟩; have H1 := Aside0.mk h_; clear h_) | (go_at_call 13; (with_reducible refine (rnew_c a0 a1 w w1 H1.out.bel).mono ?_); rintro e_ w2 ⟨gr, rfl, h_⟩; obtain ⟨tg, h_⟩ := dd_start H1.out h_; have H2 := Aside0.mk h_; clear h_))
  have HF0 := Aside0.mk (show FI ⟨cutV a0, cutV a1, [], false⟩ from fi_new (cutV_b _).1 (cutV_b _).2 (cutV_b _).1 (cutV_b _).2)
  go_loopw [9] (fun v9 wr => ∃ (i : Nat) (s : FS) (tg : Nat → Nat), v9 = .int .i64 (i : Int) ∧ Aside0 (i ≤ 150) ∧ Aside0 (DD w wr tg g gr s s) ∧ Aside0 (FI s) ∧ Aside0 (s.st.length ≤ i)) (fun v9 _ => (150 - intOf v9).toNat)
  case atStart => exact ⟨0, _, tg, rfl, ⟨by omega⟩, H2, HF0, ⟨Nat.le_refl _⟩⟩
  case round =>
    clear H1 H2 HF0
    obtain ⟨i, s, tg, rfl, HI, HD, HFI, HSL⟩ := hrel
    by_cases d1 : i < xs.length
    · by_cases d2 : i < 150
      · obtain ⟨i1, i2, i3, i4, i5, i6, i7, i8, i9⟩ := io_facts d1 d2
        obtain ⟨ad, hA, rows⟩ := crow41 HR.out i d1
        subst hA
        obtain ⟨x0, x1, x2⟩ := rows wr HD.out.bel
        have hgd := (HG2.out (xs.getD i z41) (by rw [List.getD_eq_getElem?_getD, List.getElem?_eq_getElem d1]; exact List.getElem_mem _)).2.1
        generalize xs.getD i z41 = y at x0 x1 x2 hgd
        obtain ⟨kd, id, t⟩ := y
        dsimp only at x0 x1 x2 hgd
        have HWF := Aside0.mk hgd
        have HJ := Aside0.mk (And.intro d1 d2)
        have hbox := blk_new wr (.cells #[.int .i64 kd, .int .i64 id, .string t] 41)
        obtain ⟨tgb, hob, htb⟩ := HD.out.alloc (.cells #[.int .i64 kd, .int .i64 id, .string t] 41)
        obtain ⟨wb, hwb⟩ : ∃ wb, wr.alloc (.cells #[.int .i64 kd, .int .i64 id, .string t] 41) = wb := ⟨_, rfl⟩
        rw [hwb] at hob hbox
        obtain ⟨bo, hbo⟩ : ∃ bo, wr.heap.size = bo := ⟨_, rfl⟩
        rw [hbo] at htb hbox
        have HOB := Aside0.mk hob
        have HX := Aside0.mk hbox
        have HGX := Aside0.mk htb
        obtain ⟨b0, b1, b2⟩ := box_cells hbox
        have HLN := Aside0.mk (show s.st.length ≤ 100000 by have := HSL.out; have := HI.out; omega)
        clear d1 d2 rows hgd hob htb hbox
        by_cases k0 : kd = 0
        · subst k0
          have hdr : Below wb.heap.size wb wb.drew := below_drew1 (Below.refl _ _)
          have HOD := Aside0.mk (HOB.out.same hdr)
          have HXd := Aside0.mk (blk_below HX.out hdr)
          have HGXd := Aside0.mk HGX.out
          obtain ⟨d0, d1_, d2_⟩ := box_cells HXd.out
          clear hdr
          go_wp2_with (fail)
          refine Calm.wp_region_phC [(2, fun w_ => w_.cell? ⟨bo, 1, none⟩ = some (Value.int .i64 id)), (4, fun w_ => w_.cell? ⟨bo, 2, none⟩ = some (Value.string t)), (8, fun w_ => w_.cell? ⟨bo, 1, none⟩ = some (Value.int .i64 id)), (10, fun w_ => w_.cell? ⟨bo, 2, none⟩ = some (Value.string t))] [([0, 1, 2, 3, 4, 6, 7, 8, 9, 10], [5, 11]), ([12], [])] (by kernel_rfl) (by kernel_rfl) ?_
          refine Calm.ph_next ?_ ?_
          · repeat (first | exact Calm.okI_nil | (refine Calm.okI_cons (Or.inl (by decide)) ?_) | (refine Calm.okI_cons (Or.inr (by first | exact d1_ | exact d2_)) ?_))
          repeat (first
            | (refine Calm.g_value (v := ?_) (a' := ?_) rfl rfl (by rfl) ?_ ?_ ?_; rotate_left; (· rintro w' hS'; (try simp only [Calm.SC_cons, Calm.SC_nil, Nat.reduceEqDiff, forall_const, false_implies, and_true, true_and] at hS'); (try obtain ⟨hS1, hS2⟩ := hS'); go_simp; with_reducible rfl); rotate_left; (· simp only [Act.put, List.setIfInBounds_toArray, List.set_cons_zero, List.set_cons_succ, i64_w, i32_w]; rfl)))
          refine Calm.g_nil ?_
          refine Calm.c_call rfl rfl Try.func10 (by kernel_rfl) rfl #[.pointer (some ⟨g, 0, none⟩), .int .i64 id, .string t] (by rfl) rfl (by (try simp only [List.map_toArray, List.map_cons, List.map_nil]); rfl) ?_
          (with_reducible refine (push_d HOD.out HFI.out HWF.out HLN.out).mono ?_)
          rintro e_ w3 ⟨rfl, tg3, h_, ho_⟩; have H3 := Aside0.mk h_; have HX3 := Aside0.mk (show _ = _ from (ho_ bo (blk_lt HXd.out) HGXd.out).2.trans HXd.out); have HGX3 := Aside0.mk (ho_ bo (blk_lt HXd.out) HGXd.out).1; obtain ⟨g0, g1_, g2_⟩ := box_cells HX3.out; clear h_ ho_
          refine ⟨_, rfl, ?_, ?_⟩
          · repeat (first | exact Calm.okC_nil | (refine Calm.okC_cons (Or.inl (by decide +kernel)) ?_) | (refine Calm.okC_cons (Or.inr (by first | exact g1_ | exact g2_)) ?_))
          refine Calm.put_to (a' := ?_) ?_ ?_
          rotate_left
          · simp only [Act.put, List.setIfInBounds_toArray, List.set_cons_zero, List.set_cons_succ, i64_w, i32_w]; rfl
          refine Calm.c_call rfl rfl Try.func14 (by kernel_rfl) rfl #[.pointer (some ⟨gr, 0, none⟩), .int .i64 id, .string t] (by rfl) rfl (by (try simp only [List.map_toArray, List.map_cons, List.map_nil]); rfl) ?_
          (with_reducible refine (rpush_d H3.out HFI.out HWF.out HLN.out).mono ?_)
          rintro e_ w4 ⟨rfl, tg4, h_, ho_⟩; have HZ := Aside0.mk h_; clear h_ ho_
          refine ⟨_, rfl, ?_, ?_⟩
          · repeat (first | exact Calm.okC_nil | (refine Calm.okC_cons (Or.inl (by decide +kernel)) ?_) | (refine Calm.okC_cons (Or.inr (by fail)) ?_))
          refine Calm.put_to (a' := ?_) ?_ ?_
          rotate_left
          · simp only [Act.put, List.setIfInBounds_toArray, List.set_cons_zero, List.set_cons_succ, i64_w, i32_w]; rfl
          refine Calm.h_nil ?_
          refine Calm.ph_next ?_ ?_
          · repeat (first | exact Calm.okI_nil | (refine Calm.okI_cons (Or.inl (by decide)) ?_) | (refine Calm.okI_cons (Or.inr (by fail)) ?_))
          repeat (first
            | (refine Calm.g_value (v := ?_) (a' := ?_) rfl rfl (by rfl) ?_ ?_ ?_; rotate_left; (· rintro w' hS'; (try simp only [Calm.SC_cons, Calm.SC_nil, Nat.reduceEqDiff, forall_const, false_implies, and_true, true_and] at hS'); (try obtain ⟨hS1, hS2⟩ := hS'); go_simp; with_reducible rfl); rotate_left; (· simp only [Act.put, List.setIfInBounds_toArray, List.set_cons_zero, List.set_cons_succ, i64_w, i32_w]; rfl)))
          refine Calm.g_nil ?_
          refine Calm.h_nil ?_
          refine Calm.ph_end ?_
          simp only [Exit.inBlock, Exit.then]
          have HFZ := Aside0.mk (HFI.out.push (t := t) HWF.out)
          have HLE := Aside0.mk (show (pushS s id t).st.length ≤ i + 1 by have := push_len s id t HFI.out; have := HSL.out; omega)
          have HLZ := Aside0.mk (show (pushS s id t).st.length ≤ 100000 by have := HLE.out; have := HI.out; omega)
          obtain ⟨sz, hsz⟩ : ∃ z, pushS s id t = z := ⟨_, rfl⟩
          rw [hsz] at HZ HFZ HLZ HLE
          clear hsz
          go_wp2_with (first | (go_at_call 12; (with_reducible refine (count_d HZ.out HFZ.out HLZ.out).mono ?_); rintro e_ w8 ⟨rfl, tg8, h_, ho_⟩; have H8 := Aside0.mk h_; clear h_ ho_) | (go_at_call 18; (with_reducible refine (rcount_d H8.out HFZ.out HLZ.out).mono ?_); rintro e_ w9 ⟨rfl, tg9, h_, ho_⟩; have H9 := Aside0.mk h_; clear h_ ho_))
          go_roundw
          case rel => exact ⟨i + 1, sz, tg9, by first | rfl | simp, ⟨by clear i1 i2; have := HJ.out; omega⟩, H9, HFZ, HLE⟩
          case measure => clear i1 i2; have := HJ.out; simp [intOf]; omega
        · by_cases k1 : kd = 1
          · clear k0
            subst k1
            obtain ⟨⟨⟨na, nt, nb⟩, ns⟩, hnx⟩ : ∃ y, nextV s = y := ⟨_, rfl⟩
            have HNX := Aside0.mk hnx
            have HFZ := Aside0.mk (show FI ns by have := HFI.out.next; rw [hnx] at this; exact this)
            have HLE := Aside0.mk (show ns.st.length ≤ i + 1 by have h1 := next_len s HFI.out; rw [hnx] at h1; have h2 : ns.st.length ≤ s.st.length := h1; have := HSL.out; omega)
            have HLZ := Aside0.mk (show ns.st.length ≤ 100000 by have := HLE.out; have := HI.out; omega)
            clear hnx
            go_wp2_with (first | (go_at_call 11; (with_reducible refine (next_d HOB.out HFI.out HLN.out HNX.out).mono ?_); rintro e_ w3 ⟨rfl, tg3, h_, ho_⟩; have H3 := Aside0.mk h_; clear h_ ho_) | (go_at_call 15; (with_reducible refine (rnext_d H3.out HFI.out HLN.out HNX.out).mono ?_); rintro e_ w4 ⟨rfl, tg4, h_, ho_⟩; have HZ := Aside0.mk h_; clear h_ ho_) | (first | (go_at_call 12; (with_reducible refine (count_d HZ.out HFZ.out HLZ.out).mono ?_); rintro e_ w8 ⟨rfl, tg8, h_, ho_⟩; have H8 := Aside0.mk h_; clear h_ ho_) | (go_at_call 18; (with_reducible refine (rcount_d H8.out HFZ.out HLZ.out).mono ?_); rintro e_ w9 ⟨rfl, tg9, h_, ho_⟩; have H9 := Aside0.mk h_; clear h_ ho_)))
            go_roundw
            case rel => exact ⟨i + 1, ns, tg9, by first | rfl | simp, ⟨by clear i1 i2; have := HJ.out; omega⟩, H9, HFZ, HLE⟩
            case measure => clear i1 i2; have := HJ.out; simp [intOf]; omega
          · by_cases k2 : kd = 2
            · clear k0 k1
              subst k2
              have hdr : Below wb.heap.size wb wb.drew := below_drew1 (Below.refl _ _)
              have HOD := Aside0.mk (HOB.out.same hdr)
              have HXd := Aside0.mk (blk_below HX.out hdr)
              have HGXd := Aside0.mk HGX.out
              obtain ⟨d0, d1_, d2_⟩ := box_cells HXd.out
              clear hdr
              go_wp2_with (fail)
              refine Calm.wp_region_phC [(2, fun w_ => w_.cell? ⟨bo, 1, none⟩ = some (Value.int .i64 id)), (6, fun w_ => w_.cell? ⟨bo, 1, none⟩ = some (Value.int .i64 id))] [([0, 1, 2, 4, 5, 6], [3, 7]), ([8], [])] (by kernel_rfl) (by kernel_rfl) ?_
              refine Calm.ph_next ?_ ?_
              · repeat (first | exact Calm.okI_nil | (refine Calm.okI_cons (Or.inl (by decide)) ?_) | (refine Calm.okI_cons (Or.inr (by first | exact d1_ | exact d2_)) ?_))
              repeat (first
                | (refine Calm.g_value (v := ?_) (a' := ?_) rfl rfl (by rfl) ?_ ?_ ?_; rotate_left; (· rintro w' hS'; (try simp only [Calm.SC_cons, Calm.SC_nil, Nat.reduceEqDiff, forall_const, false_implies, and_true, true_and] at hS'); (try obtain ⟨hS1, hS2⟩ := hS'); go_simp; with_reducible rfl); rotate_left; (· simp only [Act.put, List.setIfInBounds_toArray, List.set_cons_zero, List.set_cons_succ, i64_w, i32_w]; rfl)))
              refine Calm.g_nil ?_
              refine Calm.c_call rfl rfl Try.func16 (by kernel_rfl) rfl #[.pointer (some ⟨g, 0, none⟩), .int .i64 id] (by rfl) rfl (by (try simp only [List.map_toArray, List.map_cons, List.map_nil]); rfl) ?_
              (with_reducible refine (drop_d HOD.out HFI.out HWF.out HLN.out).mono ?_)
              rintro e_ w3 ⟨rfl, tg3, h_, ho_⟩; have H3 := Aside0.mk h_; have HX3 := Aside0.mk (show _ = _ from (ho_ bo (blk_lt HXd.out) HGXd.out).2.trans HXd.out); have HGX3 := Aside0.mk (ho_ bo (blk_lt HXd.out) HGXd.out).1; obtain ⟨g0, g1_, g2_⟩ := box_cells HX3.out; clear h_ ho_
              refine ⟨_, rfl, ?_, ?_⟩
              · repeat (first | exact Calm.okC_nil | (refine Calm.okC_cons (Or.inl (by decide +kernel)) ?_) | (refine Calm.okC_cons (Or.inr (by first | exact g1_ | exact g2_)) ?_))
              refine Calm.put_to (a' := ?_) ?_ ?_
              rotate_left
              · simp only [Act.put, List.setIfInBounds_toArray, List.set_cons_zero, List.set_cons_succ, i64_w, i32_w]; rfl
              refine Calm.c_call rfl rfl Try.func17 (by kernel_rfl) rfl #[.pointer (some ⟨gr, 0, none⟩), .int .i64 id] (by rfl) rfl (by (try simp only [List.map_toArray, List.map_cons, List.map_nil]); rfl) ?_
              (with_reducible refine (rdrop_d H3.out HFI.out HLN.out).mono ?_)
              rintro e_ w4 ⟨rfl, tg4, h_, ho_⟩; have HZ := Aside0.mk h_; clear h_ ho_
              refine ⟨_, rfl, ?_, ?_⟩
              · repeat (first | exact Calm.okC_nil | (refine Calm.okC_cons (Or.inl (by decide +kernel)) ?_) | (refine Calm.okC_cons (Or.inr (by fail)) ?_))
              refine Calm.put_to (a' := ?_) ?_ ?_
              rotate_left
              · simp only [Act.put, List.setIfInBounds_toArray, List.set_cons_zero, List.set_cons_succ, i64_w, i32_w]; rfl
              refine Calm.h_nil ?_
              refine Calm.ph_next ?_ ?_
              · repeat (first | exact Calm.okI_nil | (refine Calm.okI_cons (Or.inl (by decide)) ?_) | (refine Calm.okI_cons (Or.inr (by fail)) ?_))
              repeat (first
                | (refine Calm.g_value (v := ?_) (a' := ?_) rfl rfl (by rfl) ?_ ?_ ?_; rotate_left; (· rintro w' hS'; (try simp only [Calm.SC_cons, Calm.SC_nil, Nat.reduceEqDiff, forall_const, false_implies, and_true, true_and] at hS'); (try obtain ⟨hS1, hS2⟩ := hS'); go_simp; with_reducible rfl); rotate_left; (· simp only [Act.put, List.setIfInBounds_toArray, List.set_cons_zero, List.set_cons_succ, i64_w, i32_w]; rfl)))
              refine Calm.g_nil ?_
              refine Calm.h_nil ?_
              refine Calm.ph_end ?_
              simp only [Exit.inBlock, Exit.then]
              have HFZ := Aside0.mk (HFI.out.drop id)
              have HLE := Aside0.mk (show (dropS s id).st.length ≤ i + 1 by have := (dropL (id := id) HFI.out).2.2; have := HSL.out; omega)
              have HLZ := Aside0.mk (show (dropS s id).st.length ≤ 100000 by have := HLE.out; have := HI.out; omega)
              obtain ⟨sz, hsz⟩ : ∃ z, dropS s id = z := ⟨_, rfl⟩
              rw [hsz] at HZ HFZ HLZ HLE
              clear hsz
              go_wp2_with (first | (go_at_call 12; (with_reducible refine (count_d HZ.out HFZ.out HLZ.out).mono ?_); rintro e_ w8 ⟨rfl, tg8, h_, ho_⟩; have H8 := Aside0.mk h_; clear h_ ho_) | (go_at_call 18; (with_reducible refine (rcount_d H8.out HFZ.out HLZ.out).mono ?_); rintro e_ w9 ⟨rfl, tg9, h_, ho_⟩; have H9 := Aside0.mk h_; clear h_ ho_))
              go_roundw
              case rel => exact ⟨i + 1, sz, tg9, by first | rfl | simp, ⟨by clear i1 i2; have := HJ.out; omega⟩, H9, HFZ, HLE⟩
              case measure => clear i1 i2; have := HJ.out; simp [intOf]; omega
            · have z0 : (kd == 0) = false := beq_eq_false_iff_ne.2 k0
              have z1 : (kd == 1) = false := beq_eq_false_iff_ne.2 k1
              have z2 : (kd == 2) = false := beq_eq_false_iff_ne.2 k2
              clear k0 k1 k2
              have HZ := Aside0.mk HOB.out
              have HFZ := Aside0.mk HFI.out
              have HLE := Aside0.mk (show s.st.length ≤ i + 1 by have := HSL.out; omega)
              have HLZ := Aside0.mk HLN.out
              obtain ⟨sz, hsz⟩ : ∃ z, s = z := ⟨_, rfl⟩
              rw [hsz] at HZ HFZ HLZ HLE
              clear hsz
              go_wp2_with (first | (go_at_call 12; (with_reducible refine (count_d HZ.out HFZ.out HLZ.out).mono ?_); rintro e_ w8 ⟨rfl, tg8, h_, ho_⟩; have H8 := Aside0.mk h_; clear h_ ho_) | (go_at_call 18; (with_reducible refine (rcount_d H8.out HFZ.out HLZ.out).mono ?_); rintro e_ w9 ⟨rfl, tg9, h_, ho_⟩; have H9 := Aside0.mk h_; clear h_ ho_))
              go_roundw
              case rel => exact ⟨i + 1, sz, tg9, by first | rfl | simp, ⟨by clear i1 i2; have := HJ.out; omega⟩, H9, HFZ, HLE⟩
              case measure => clear i1 i2; have := HJ.out; simp [intOf]; omega
      · have M1 : decide ((i : Int) < (xs.length : Int)) = true := decide_eq_true (by omega)
        have M2 : decide (i < xs.length) = true := decide_eq_true (by omega)
        have M3 : decide ((i : Int) < 150) = false := decide_eq_false (by omega)
        have M4 : decide (i < 150) = false := decide_eq_false (by omega)
        clear d1 d2
        go_wp2_with (fail)
        go_ret
        exact ⟨rfl, HD.out.bel⟩
    · have M1 : decide ((i : Int) < (xs.length : Int)) = false := decide_eq_false (by omega)
      have M2 : decide (i < xs.length) = false := decide_eq_false (by omega)
      clear d1
      go_wp2_with (fail)
      go_ret
      exact ⟨rfl, HD.out.bel⟩
end Go.Proofs.Ytcieopcihbgfdaa.Walk
