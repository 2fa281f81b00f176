/- The walk of FairOrder. gen/mk_order20.py writes this text. -/
import Derived.Test.YtcieopcihbgfdaaWalkAlone
import Derived.Test.YtcieopcihbgfdaaOc20
import Derived.Test.YtcieopcihbgfdaaGoodFairOrder
namespace Go.Proofs.Ytcieopcihbgfdaa.Walk
open Go.RowKit Go.Proofs.YtcieopcihbgfdaaW.PrintWords Go.Proofs.YtcieopcihbgfdaaW.PrintLast Go.Proofs.YtcieopcihbgfdaaW.PrintMore Go.Proofs.Ytcieopcihbgfdaa.PFairDoes Go.Proofs.Ytcieopcihbgfdaa Go.Proofs.Ytcieopcihbgfdaa.Fair Go.Proofs.Ytcieopcihbgfdaa.Fq
set_option linter.unusedVariables false
set_option linter.unusedSimpArgs false
def z41 : S41 := ⟨0, 0, ByteArray.empty⟩
theorem add_fld (ad : Addr) (n j : Nat) (hj : 0 < j) : ad.add (n + j) = ⟨(ad.add n).block, (ad.add n).off + j, none⟩ := by
  unfold Addr.add
  rw [if_neg (by omega)]
  split
  · subst_vars; simp
  · simp only [Addr.mk.injEq, and_true, true_and]; omega
theorem crow41 {w : World} {A : Option Addr} {xs : List S41} (h : Kd.C k41 w A xs.length xs) (i : Nat) (h1 : i < xs.length) : ∃ ad, A = some ad ∧ ∀ W, Below w.heap.size w W → W.cell? (ad.add (i * 3)) = some (.int .i64 (xs.getD i z41).f0) ∧ W.cell? ⟨(ad.add (i * 3)).block, (ad.add (i * 3)).off + 1, none⟩ = some (.int .i64 (xs.getD i z41).f1) ∧ W.cell? ⟨(ad.add (i * 3)).block, (ad.add (i * 3)).off + 2, none⟩ = some (.string (xs.getD i z41).f2) := by
  obtain ⟨ad, c, e, _, hK, hc0⟩ := Kd.C_get h z41 (i : Int) (by omega) (by omega)
  refine ⟨ad, e, fun W hb => ?_⟩
  obtain ⟨ad2, c2, e2, _, hK2, hc2⟩ := Kd.C_get (Kd.C_below h hb) z41 (i : Int) (by omega) (by omega)
  obtain rfl : ad = ad2 := Option.some.inj (e.symm.trans e2)
  rw [Int.toNat_natCast] at hK2 hc2
  obtain rfl := k41_open hK2
  have f0 := hc2 0 _ rfl
  have f1 := hc2 1 _ rfl
  have f2 := hc2 2 _ rfl
  rw [show i * k41.sz + 0 = i * 3 from rfl] at f0
  rw [show i * k41.sz + 1 = i * 3 + 1 from rfl, add_fld _ _ _ (by decide)] at f1
  rw [show i * k41.sz + 2 = i * 3 + 2 from rfl, add_fld _ _ _ (by decide)] at f2
  exact ⟨f0, f1, f2⟩
theorem cutV_b (n : Int) : 1 ≤ cutV n ∧ cutV n ≤ 1048576 := by
  unfold cutV mn mx
  split <;> split <;> omega
theorem or_start {w0 w1 : World} {g : Nat} {lim qu : Int} (h : FA w0 w1 g ⟨lim, qu, [], false⟩) : OR w0 (w1.alloc (.map #[] 0)) (fun b => b = w1.heap.size) g w1.heap.size 0 (fun _ => none) (fun _ => 0) ⟨lim, qu, [], false⟩ (listOf []) := by
  have hs := h.bel.size
  have hb : Below w1.heap.size w1 (w1.alloc (.map #[] 0)) := below_alloc (Below.refl _ _) _
  have hm := VM.made w1
  have h1 : FO w0 w1 w1 (fun b => w0.heap.size ≤ b ∧ ¬ (b = w1.heap.size)) g ⟨lim, qu, [], false⟩ := FO.again2 h (fun k hk hlt => ⟨hk, by omega⟩) (fun k hk hlt => by omega)
  exact ⟨fun b hb => by rw [hb]; exact ⟨hs, hm.lt⟩, FO.other h1 (below_step h.bel hb) (fun k _ hlt => hb.block k hlt), rfl, hm, fun k => Kd.Q_nil _ _ _ _ _⟩
/-- The round's state. -/
structure RD (w wr : World) (g gm i N : Nat) (s : FS) : Prop where
  mem : ∃ mine nm f ow, OR w wr mine g gm nm f ow s (listOf s.st) ∧ nm ≤ i
  fi : FI s
  cnt : countL s.st = N
  le : N ≤ i
  len : s.st.length ≤ i
theorem RD.more {w wr : World} {g gm i N : Nat} {s : FS} (h : RD w wr g gm i N s) : RD w wr g gm (i + 1) N s := by
  obtain ⟨mine, nm, f, ow, h1, h2⟩ := h.mem
  exact ⟨⟨mine, nm, f, ow, h1, by omega⟩, h.fi, h.cnt, Nat.le_succ_of_le h.le, Nat.le_succ_of_le h.len⟩
theorem RD.move {w wr w2 : World} {g gm i N nm : Nat} {s : FS} {mine : Nat → Prop} {f : Int → Option Value} {ow : Nat → Int} (h : RD w wr g gm i N s) (ho : OR w w2 mine g gm nm f ow s (listOf s.st)) (hn : nm ≤ i) : RD w w2 g gm (i + 1) N s :=
  ⟨⟨mine, nm, f, ow, ho, by omega⟩, h.fi, h.cnt, Nat.le_succ_of_le h.le, Nat.le_succ_of_le h.len⟩
theorem list_le {s : FS} (hi : FI s) (id : Int) : (listOf s.st id).length ≤ countL s.st := by
  have := (dropL (id := id) hi).2.1
  omega
theorem RD.push {w wr w2 : World} {g gm i N nm nm2 : Nat} {s : FS} {mine : Nat → Prop} {f : Int → Option Value} {ow : Nat → Int} {id : Int} {t : ByteArray} (h : RD w wr g gm i N s) (ho : OR w w2 mine g gm nm2 f ow (pushS s id t) (upd (listOf s.st) id (listOf s.st id ++ [t]))) (hn : nm2 ≤ nm + 1) (hnm : nm ≤ i)
    (hp : (∀ k, listOf (pushS s id t).st k = if k = id then listOf s.st id ++ [t] else listOf s.st k) ∧ countL (pushS s id t).st = countL s.st + 1 ∧ (pushS s id t).st.length ≤ s.st.length + 1) (hf : FI (pushS s id t)) : RD w w2 g gm (i + 1) (N + 1) (pushS s id t) := by
  have := h.cnt
  have := h.le
  have := h.len
  exact ⟨⟨mine, nm2, f, ow, ho.ls (fun k => hp.1 k), by omega⟩, hf, by omega, by omega, by omega⟩
theorem box_cells {w : World} {b : Nat} {kd id : Int} {t : ByteArray} {T : Nat} (h : w.heap[b]? = some (.cells #[.int .i64 kd, .int .i64 id, .string t] T (0, 0))) : w.cell? ⟨b, 0, none⟩ = some (.int .i64 kd) ∧ w.cell? ⟨b, 1, none⟩ = some (.int .i64 id) ∧ w.cell? ⟨b, 2, none⟩ = some (.string t) := ⟨(blk_cell h 0).trans rfl, (blk_cell h 1).trans rfl, (blk_cell h 2).trans rfl⟩
theorem own_q {W : World} {B : Nat} {mine : Nat → Prop} {ow : Nat → Int} {k : Int} {v : Value} {xs : List ByteArray} (h : Kd.string.Q 9 W B (fun b => mine b ∧ ow b = k) v xs) : Kd.string.Q 9 W B (fun b => (mine b ∨ W.heap.size ≤ b) ∧ (if W.heap.size ≤ b then k else ow b) = k) v xs :=
  Kd.Q_mono h (fun b hb => ⟨.inl hb.1, by split; rfl; exact hb.2⟩)
theorem next_some {s : FS} (hi : FI s) (hne : s.st ≠ []) : ∃ a t s' r n1, nextV s = ((a, t, true), s') ∧ listOf s.st a = t :: r ∧ (∀ k, listOf s'.st k = upd (listOf s.st) a r k) ∧ countL s.st = countL s'.st + 1 ∧ (Lit.int .i64 a).wf = true ∧ s'.st.length ≤ s.st.length ∧ r.length + 1 = n1 := by
  have h := (nextL (got hi) hi).some hne
  obtain ⟨⟨⟨a, t, b⟩, s'⟩, hn⟩ : ∃ y, nextV s = y := ⟨_, rfl⟩
  rw [hn] at h
  dsimp only at h
  obtain ⟨rfl, h2, h3, h4, h5, h6⟩ := h
  obtain ⟨x, hx, hxa⟩ := mem_ids h5
  refine ⟨a, t, s', listOf s'.st a, _, hn, h2, fun k => ?_, h4, by rw [← hxa]; exact (hi.q x hx).k, h6, rfl⟩
  by_cases hk : k = a
  · rw [hk, upd_same]
  · rw [upd_other _ _ hk]; exact h3 k hk
theorem RD.take {w wr w2 : World} {g gm i N N' nm nm2 : Nat} {s s' : FS} {mine : Nat → Prop} {f : Int → Option Value} {ow : Nat → Int} {a : Int} {t : ByteArray} {r : List ByteArray} (h : RD w wr g gm i N s) (ho : OR w w2 mine g gm nm2 f ow s' (upd (listOf s.st) a r)) (hn : nm2 ≤ nm + 1) (hnm : nm ≤ i)
    (hl : listOf s.st a = t :: r) (hot : ∀ k, listOf s'.st k = upd (listOf s.st) a r k) (hc : countL s.st = countL s'.st + 1) (hle : s'.st.length ≤ s.st.length) (hf : FI s') (hN : N' + 1 = N) : RD w w2 g gm (i + 1) N' s' := by
  have := h.cnt
  have := h.le
  have := h.len
  exact ⟨⟨mine, nm2, f, ow, ho.ls hot, by omega⟩, hf, by omega, by omega, by omega⟩
theorem RD.drop {w wr w2 : World} {g gm i N N' NL nm nm2 : Nat} {s : FS} {mine : Nat → Prop} {f : Int → Option Value} {ow : Nat → Int} {id : Int} (h : RD w wr g gm i N s) (ho : OR w w2 mine g gm nm2 f ow (dropS s id) (upd (listOf s.st) id [])) (hn : nm2 ≤ nm + 1) (hnm : nm ≤ i)
    (hd : (∀ k, listOf (dropS s id).st k = if k = id then [] else listOf s.st k) ∧ countL (dropS s id).st + (listOf s.st id).length = countL s.st ∧ (dropS s id).st.length ≤ s.st.length) (hf : FI (dropS s id)) (hNL : (listOf s.st id).length = NL) (hN : N' + NL = N) : RD w w2 g gm (i + 1) N' (dropS s id) := by
  have := h.cnt
  have := h.le
  have := h.len
  have := hd.2.1
  have := hd.2.2
  exact ⟨⟨mine, nm2, f, ow, ho.ls (fun k => hd.1 k), by omega⟩, hf, by omega, by omega, by omega⟩
structure NFacts (N : Nat) : Prop where
  w1 : wrap64 ((N : Int) + 1) = ((N + 1 : Nat) : Int)
  w2 : IntKind.i64.wrap ((N : Int) + 1) = ((N + 1 : Nat) : Int)
theorem n_facts {N : Nat} (h : N ≤ 1000) : NFacts N := by
  have hw : wrap64 ((N : Int) + 1) = ((N + 1 : Nat) : Int) := by unfold wrap64; omega
  exact ⟨hw, (i64_w _).trans hw⟩
theorem sub_facts {N a r : Nat} (h : N ≤ 1000) (ha : r + a = N) : wrap64 ((N : Int) - (a : Int)) = (r : Int) ∧ IntKind.i64.wrap ((N : Int) - (a : Int)) = (r : Int) := by
  have hw : wrap64 ((N : Int) - (a : Int)) = (r : Int) := by unfold wrap64; omega
  exact ⟨hw, (i64_w _).trans hw⟩
theorem io_facts {i n : Nat} (h : i < n) (h2 : i < 150) : wrap64 ((i : Int) + 1) = ((i + 1 : Nat) : Int) ∧ IntKind.i64.wrap ((i : Int) + 1) = ((i + 1 : Nat) : Int) ∧ decide ((i : Int) < (n : Int)) = true ∧ decide (i < n) = true ∧ decide ((i : Int) < 150) = true ∧ decide (i < 150) = true ∧ ((i : Int) < (n : Int)) = True ∧ (i < n) = True ∧ ((0 : Int) ≤ (i : Int)) = True := by
  have hw : wrap64 ((i : Int) + 1) = ((i + 1 : Nat) : Int) := by unfold wrap64; omega
  exact ⟨hw, (i64_w _).trans hw, decide_eq_true (by omega), decide_eq_true h, decide_eq_true (by omega), decide_eq_true h2, eq_true (by omega), eq_true h, eq_true (by omega)⟩
theorem u_rangeN (y n : Int) (hn : 0 < n) (h : n ≤ 1000) : 0 ≤ Int.tmod (IntKind.u64.wrap y) n ∧ Int.tmod (IntKind.u64.wrap y) n < n := by
  have h0 : 0 ≤ IntKind.u64.wrap y := by
    show 0 ≤ y % 18446744073709551616
    omega
  rw [Int.tmod_eq_emod_of_nonneg h0]
  exact ⟨Int.emod_nonneg _ (by omega), Int.emod_lt_of_pos _ hn⟩
set_option maxHeartbeats 8000000 in
set_option maxRecDepth 100000 in
theorem fairOrder_walk {P1 : Prop} (a0 a1 : Int) (A : Option Addr) (cap : Nat) (xs : List S41) (w : World) (hr : Kd.C k41 w A xs.length xs) (hc : xs.length ≤ cap) (G0 : (Lit.int .i64 a0).wf = true) (G1 : (Lit.int .i64 a1).wf = true) (G2 : P1 ∧ ∀ y ∈ xs, good41 y) :
    Calls Try.prog 6 #[.int .i64 a0, .int .i64 a1, .slice A xs.length cap] w fun e w' => e = .returned (.bool true) ∧ Below w.heap.size w w' := by
  have HR := Aside0.mk hr
  have HG2 := Aside0.mk G2.2
  have hmm := @run_makeMap Try.prog
  have hz := u_rangeN a1 500 (by decide) (by decide)
  clear hr hc G0 G1 G2
  obtain ⟨q, hq, hz⟩ : ∃ q, IntKind.u64.wrap a1 = q ∧ (0 ≤ Int.tmod q 500 ∧ Int.tmod q 500 < 500) := ⟨_, rfl, hz⟩
  obtain ⟨m, hm, hz⟩ : ∃ m, Int.tmod q 500 = m ∧ (0 ≤ m ∧ m < 500) := ⟨_, rfl, hz⟩
  obtain ⟨m1, m2, m3, m4⟩ := m_facts hz.1 (show m < 1000 by omega)
  obtain ⟨k, hk, hkb⟩ : ∃ k : Int, (((m + 1).toNat : Nat) : Int) = k ∧ (1 ≤ k ∧ k ≤ 500) := ⟨_, rfl, by clear m1 m2 m3 m4 hm hq; omega⟩
  rw [hk] at m3 m4
  clear hz hk hkb
  go_enter Try.func6, Try.ntmps6
  go_wp2_with (first | (go_at_call 8; (with_reducible refine (works_c _).mono ?_); rintro e_ w0 ⟨rfl, hb⟩; have HB0 := Aside0.mk hb; clear hb) | (go_at_call 9; (with_reducible refine (new_a _ _ w w0 HB0.out).mono ?_); rintro e_ w1 ⟨g, rfl, h_⟩; have H1 := Aside0.mk h_; clear h_))
  clear m1 m2 m3 m4 hq hm
  have HO := Aside0.mk (or_start H1.out)
  have HF0 := Aside0.mk (show FI ⟨cutV a0, cutV k, [], false⟩ from fi_new (cutV_b _).1 (cutV_b _).2 (cutV_b _).1 (cutV_b _).2)
  obtain ⟨gm, hgm⟩ : ∃ x, w1.heap.size = x := ⟨_, rfl⟩
  rw [hgm] at HO ⊢
  generalize w1.alloc (.map #[] 0) = wx at HO ⊢
  have HRD0 := Aside0.mk (show RD w wx g gm 0 0 ⟨cutV a0, cutV k, [], false⟩ from ⟨⟨_, _, _, _, HO.out, Nat.le_refl _⟩, HF0.out, rfl, Nat.le_refl _, Nat.le_refl _⟩)
  clear hgm hmm
  go_loopw [9, 10] (fun v9 v10 wr => ∃ (i N : Nat) (s : FS), v9 = .int .i64 (N : Int) ∧ v10 = .int .i64 (i : Int) ∧ Aside0 (i ≤ 150) ∧ Aside0 (RD w wr g gm i N s)) (fun _ v10 _ => (150 - intOf v10).toNat)
  case atStart => exact ⟨0, 0, _, rfl, rfl, ⟨by omega⟩, HRD0⟩
  case round =>
    clear H1 HB0 HF0 HO HRD0
    obtain ⟨i, N, s, rfl, rfl, HI, HRD⟩ := hrel
    by_cases d1 : i < xs.length
    · by_cases d2 : i < 150
      · obtain ⟨i1, i2, i3, i4, i5, i6, i7, i8, i9⟩ := io_facts d1 d2
        obtain ⟨ad, hA, rows⟩ := crow41 HR.out i d1
        subst hA
        obtain ⟨mine, nm, f, ow, hor, hnm⟩ := HRD.out.mem
        obtain ⟨x0, x1, x2⟩ := rows wr hor.bel
        have hgd := (HG2.out (xs.getD i z41) (by rw [List.getD_eq_getElem?_getD, List.getElem?_eq_getElem d1]; exact List.getElem_mem _)).2.1
        generalize xs.getD i z41 = y at x0 x1 x2 hgd
        obtain ⟨kd, id, t⟩ := y
        dsimp only at x0 x1 x2 hgd
        have HWF := Aside0.mk hgd
        have HNM := Aside0.mk hnm
        have HJ := Aside0.mk (And.intro d1 d2)
        have hbox := blk_new wr (.cells #[.int .i64 kd, .int .i64 id, .string t] 41)
        have hob := hor.alloc (.cells #[.int .i64 kd, .int .i64 id, .string t] 41)
        obtain ⟨wb, hwb⟩ : ∃ wb, wr.alloc (.cells #[.int .i64 kd, .int .i64 id, .string t] 41) = wb := ⟨_, rfl⟩
        rw [hwb] at hob hbox
        obtain ⟨bo, hbo⟩ : ∃ bo, wr.heap.size = bo := ⟨_, rfl⟩
        rw [hbo] at hob hbox
        obtain ⟨mine2, hm2, hob⟩ : ∃ mine2 : Nat → Prop, mine2 bo ∧ OR w wb mine2 g gm nm f ow s (listOf s.st) := ⟨_, .inr rfl, hob⟩
        have HM2 := Aside0.mk hm2
        clear hm2
        have HOB := Aside0.mk hob
        have HX := Aside0.mk hbox
        have b0 := (show _ = some (Value.int .i64 kd) from (blk_cell hbox 0).trans rfl)
        have b1 := (show _ = some (Value.int .i64 id) from (blk_cell hbox 1).trans rfl)
        have b2 := (show _ = some (Value.string t) from (blk_cell hbox 2).trans rfl)
        have HLN := Aside0.mk (show s.st.length ≤ 100000 by have := HRD.out.len; have := HI.out; omega)
        have HNB := Aside0.mk (show N ≤ 150 ∧ nm ≤ 150 by have := HRD.out.le; have := HI.out; omega)
        have HFI := Aside0.mk HRD.out.fi
        clear d1 d2 rows hgd hnm hor hbox hob
        by_cases hs : t.size ≤ 300
        · have T1 : decide ((t.size : Int) > 300) = false := decide_eq_false (by clear i1 i2; omega)
          have T2 : decide ((300 : Int) < (t.size : Int)) = false := T1
          have T3 : decide (300 < t.size) = false := decide_eq_false (by clear i1 i2; omega)
          clear hs
          by_cases k0 : kd = 0
          · subst k0
            by_cases he : pushE s id t = 0
            · have HPL := Aside0.mk (pushL he HFI.out)
              have HF2 := Aside0.mk (HFI.out.push (t := t) HWF.out)
              have HNLB := Aside0.mk (show (listOf s.st id).length ≤ 150 by have := HPL.out.2.1; have := list_le HFI.out id; have := HRD.out.cnt; have := HNB.out; omega)
              go_wp2_with (go_at_call 10; (with_reducible refine (push_o HOB.out HFI.out HWF.out HLN.out he rfl).mono ?_); rintro e_ w2 ⟨rfl, h_, hk_⟩; have H2 := Aside0.mk h_; have hx_ := (hk_ bo HM2.out).trans HX.out; obtain ⟨c0, c1, c2⟩ := box_cells hx_; have HX2 := Aside0.mk hx_; clear hx_; clear h_ hk_)
              have hdr : Below w2.heap.size w2 w2.drew := below_drew1 (Below.refl _ _)
              have HOD := Aside0.mk (H2.out.below hdr)
              have HXd := Aside0.mk (blk_below HX2.out hdr)
              obtain ⟨AL, cL, hev, -⟩ := HOD.out.look HWF.out
              obtain ⟨NL, hNL⟩ : ∃ x, (listOf s.st id).length = x := ⟨_, rfl⟩
              have HNL := Aside0.mk hNL
              rw [hNL] at hev
              have HEV := Aside0.mk hev
              have HLK := Aside0.mk (fun W (hb : Below w2.drew.heap.size w2.drew W) => HOD.out.look_at HWF.out hev hb)
              have hq9 := HOD.out.rows id
              rw [hev] at hq9
              have HQ9 : Aside0 (Kd.string.Q 9 w2.drew w.heap.size (fun b => (mine2 b ∨ w2.drew.heap.size ≤ b) ∧ (if w2.drew.heap.size ≤ b then id else ow b) = id) (.slice AL NL cL) (listOf s.st id)) := ⟨own_q hq9⟩
              obtain ⟨d0, d1, d2⟩ := box_cells HXd.out
              obtain ⟨nw1, nw2⟩ := n_facts (show N ≤ 1000 by have := HNB.out; omega)
              clear hdr hev hNL hq9 he
              refine Calm.wp_region_calmC [(2, fun w_ => w_.cell? ⟨bo, 1, none⟩ = some (Value.int .i64 id)), (5, fun w_ => w_.cell? ⟨bo, 1, none⟩ = some (Value.int .i64 id)), (6, fun w_ => (Instr.lookup 44 (.map (some gm)) (.int .i64 id) false).run Try.prog w_ = .ok (.slice AL NL cL) w_), (8, fun w_ => w_.cell? ⟨bo, 2, none⟩ = some (Value.string t))] [0, 1, 2, 3, 4, 5, 6, 7, 8] [9, 10, 11] (by kernel_rfl) (by kernel_rfl) (Calm.allC_cons (by exact d1) (Calm.allC_cons (by exact d1) (Calm.allC_cons (by exact HLK.out _ (Below.refl _ _)) (Calm.allC_cons (by exact d2) Calm.allC_nil)))) ?_
              repeat (first
                | (refine Calm.g_value (v := ?_) (a' := ?_) rfl rfl (by rfl) ?_ ?_ ?_; rotate_left; (· rintro w' hS'; (try simp only [Calm.SC_cons, Calm.SC_nil, Nat.reduceEqDiff, forall_const, false_implies, and_true, true_and] at hS'); (try obtain ⟨hS1, hS2⟩ := hS'); go_simp; with_reducible rfl); rotate_left; (· simp only [Act.put, List.setIfInBounds_toArray, List.set_cons_zero, List.set_cons_succ, i64_w, i32_w]; rfl)))
              refine Calm.g_nil ?_
              refine Calm.c_value (v := ?_) (w1 := ?_) (a' := ?_) rfl rfl (by rfl) ?_ ?_ ?_ ?_
              rotate_left
              rotate_left
              · go_simp; first | (refine And.intro ?_ ?_ <;> rfl) | rfl
              · repeat (first | exact Calm.okC_nil | (refine Calm.okC_cons (Or.inl (by decide +kernel)) ?_) | (refine Calm.okC_cons (Or.inr (by (first | exact (blk_cell (blk_alloc HXd.out _) 1).trans rfl | exact (blk_cell (blk_alloc HXd.out _) 2).trans rfl | exact HLK.out _ (below_alloc (Below.refl _ _) _)))) ?_))
              rotate_left
              · simp only [Act.put, List.setIfInBounds_toArray, List.set_cons_zero, List.set_cons_succ, i64_w, i32_w]; rfl
              refine Calm.c_law rfl ?_
              refine Kd.Q_append_step Kd.string (w0 := w) w.heap.size (by rfl) (.tmp 67) (.tmp 70) 34 9 (.string (⟨#[]⟩ : ByteArray)) 16 rfl Try.underlying34 infoS rfl (by decide) (by decide) (.slice AL NL cL) (listOf s.st id) t [.string t] (fun b => (mine2 b ∨ w2.drew.heap.size ≤ b) ∧ (if w2.drew.heap.size ≤ b then id else ow b) = id) (fun _ => False) rfl rfl ?aP (fun _ hk => hk.elim) ?aF HQ9.out HOD.out.bel ?aS ?aL ?_
              case aP => rfl
              case aF => exact fun k hk => ⟨.inr hk, if_pos hk⟩
              case aS => exact HOD.out.bel.size
              case aL => have := HNL.out; have := HNLB.out; omega
              intro v1 w3 hQ_ hB_ hg_ hat_
              obtain ⟨A1, k1, hv1, -⟩ := Kd.Q_slice hQ_
              obtain ⟨n1, hn1⟩ : ∃ x, (listOf s.st id ++ [t]).length = x := ⟨_, rfl⟩
              rw [hn1] at hv1
              subst hv1
              clear hn1
              obtain ⟨w4, hmu, mine3, f3, ow3, n3, hn3, hor3⟩ := HOD.out.maps HWF.out (by unfold maxLen; have := HNB.out; omega) hB_ (by rw [HEV.out]; exact hg_) hQ_
              have HO3 := Aside0.mk hor3
              have HN3 := Aside0.mk hn3
              have hx3 := (hg_.block bo (blk_lt HXd.out) (fun e => by obtain ⟨cc, hc⟩ := Kd.Q_typed HQ9.out bo e.symm; exact ty_ne hc HXd.out (by decide) rfl)).trans HXd.out
              have HX3 := Aside0.mk hx3
              clear hQ_ hB_ hg_ hat_ hor3 hn3 hx3
              refine And.intro ?_ ?_
              · repeat (first | exact Calm.okC_nil | (refine Calm.okC_cons (Or.inl (by decide +kernel)) ?_) | (refine Calm.okC_cons (Or.inr (by exact (blk_cell HX3.out 1).trans rfl)) ?_))
              refine Calm.put_dst (a' := ?_) rfl ?_ ?_
              rotate_left
              · simp only [Act.put, List.setIfInBounds_toArray, List.set_cons_zero, List.set_cons_succ, i64_w, i32_w]; rfl
              refine Calm.c_store (w1 := ?_) rfl (by rfl) rfl ?_ ?_ ?_
              rotate_left
              · go_simp; rfl
              · repeat (first | exact Calm.okC_nil | (refine Calm.okC_cons (Or.inl (by decide +kernel)) ?_) | (refine Calm.okC_cons (Or.inr (by fail)) ?_))
              refine Calm.h_nil ?_
              simp only [Exit.inBlock, Exit.then]
              go_wp2_with (fail)
              go_roundw
              case rel => exact ⟨i + 1, _, _, by first | rfl | simp, by first | rfl | simp, ⟨by clear i1 i2; have := HJ.out; omega⟩, ⟨RD.push HRD.out HO3.out HN3.out HNM.out HPL.out HF2.out⟩⟩
              case measure => clear i1 i2; have := HJ.out; simp [intOf]; omega
            · obtain ⟨e0, he0⟩ : ∃ e, pushE s id t = e := ⟨_, rfl⟩
              have HE0 := Aside0.mk he0
              have HPN := Aside0.mk (push_no he)
              have ze : (e0 == 0) = false := beq_eq_false_iff_ne.2 (by rw [← he0]; exact he)
              clear he he0
              go_wp2_with (go_at_call 10; (with_reducible refine (push_o HOB.out HFI.out HWF.out HLN.out HE0.out HPN.out).mono ?_); rintro e_ w2 ⟨rfl, h_, hk_⟩; have H2 := Aside0.mk h_; clear h_ hk_)
              go_wp2_with (fail)
              go_roundw
              case rel => exact ⟨i + 1, _, _, by first | rfl | simp, by first | rfl | simp, ⟨by clear i1 i2; have := HJ.out; omega⟩, ⟨RD.move HRD.out H2.out HNM.out⟩⟩
              case measure => clear i1 i2; have := HJ.out; simp [intOf]; omega
          · by_cases k1 : kd = 1
            · clear k0
              subst k1
              by_cases hst : s.st = []
              · have hnil := nextV_none hst
                have HNX := Aside0.mk (show nextV s = ((0, ByteArray.empty, false), s) from hnil)
                have hz0 : N = 0 := by rw [← HRD.out.cnt, hst]; rfl
                subst hz0
                clear hnil hst
                go_wp2_with (go_at_call 11; (with_reducible refine (next_o HOB.out HFI.out HLN.out HNX.out).mono ?_); rintro e_ w5 ⟨rfl, h_, hk_⟩; have H5 := Aside0.mk h_; clear h_ hk_)
                go_wp2_with (fail)
                go_roundw
                case rel => exact ⟨i + 1, _, _, by first | rfl | simp, by first | rfl | simp, ⟨by clear i1 i2; have := HJ.out; omega⟩, ⟨RD.move HRD.out H5.out HNM.out⟩⟩
                case measure => clear i1 i2; have := HJ.out; simp [intOf]; omega
              · have hne : s.st ≠ [] := hst
                clear hst
                obtain ⟨a, tt, s', r, n1, hn, hla, hother, hct, hwa, hle, hn1⟩ := next_some HFI.out hne
                have HNX := Aside0.mk hn
                have HLA := Aside0.mk hla
                have HOT := Aside0.mk hother
                have HCT := Aside0.mk hct
                have HWA := Aside0.mk hwa
                have HLE := Aside0.mk hle
                have HN1 := Aside0.mk hn1
                have HF2 := Aside0.mk (show FI s' by have := HFI.out.next; rw [hn] at this; exact this)
                have hnp : 0 < N := by have := HRD.out.cnt; omega
                obtain ⟨N', hN'⟩ : ∃ N', N' + 1 = N := ⟨N - 1, by omega⟩
                have HNP := Aside0.mk hN'
                have u1 : decide ((N : Int) > 0) = true := decide_eq_true (by omega)
                have u2 : decide (0 < N) = true := decide_eq_true hnp
                obtain ⟨sw1, sw2⟩ := sub_facts (N := N) (a := 1) (r := N') (by have := HNB.out; omega) hN'
                rw [show ((1 : Nat) : Int) = 1 from rfl] at sw1 sw2
                have p1 : ((n1 : Int) == 0) = false := beq_eq_false_iff_ne.2 (by omega)
                have p2 : (n1 == 0) = false := beq_eq_false_iff_ne.2 (by omega)
                have p3 : (0 < n1) = True := eq_true (by omega)
                have p4 : decide (0 < n1) = true := decide_eq_true (by omega)
                have HMX := Aside0.mk (show nm < maxLen by unfold maxLen; have := HNB.out; omega)
                clear hn hla hother hct hwa hle hn1 hnp hN' hne
                go_wp2_with (go_at_call 11; (with_reducible refine (next_o HOB.out HFI.out HLN.out HNX.out).mono ?_); rintro e_ w5 ⟨rfl, h_, hk_⟩; obtain ⟨b_, off_, c_, A_, c2_, hlk, hcell, hcut, w6, hmu, mine6, f6, ow6, n6, hn6, hor6⟩ := h_.first HWA.out HMX.out HLA.out HN1.out; have HO6 := Aside0.mk hor6; have HN6 := Aside0.mk hn6; clear h_ hk_ hor6 hn6)
                go_wp2_with (fail)
                go_roundw
                case rel => exact ⟨i + 1, _, _, by first | rfl | simp, by first | rfl | simp, ⟨by clear i1 i2; have := HJ.out; omega⟩, ⟨RD.take HRD.out HO6.out HN6.out HNM.out HLA.out HOT.out HCT.out HLE.out HF2.out HNP.out⟩⟩
                case measure => clear i1 i2; have := HJ.out; simp [intOf]; omega
            · by_cases k2 : kd = 2
              · clear k0 k1
                subst k2
                have HDL := Aside0.mk (dropL (id := id) HFI.out)
                have HF2 := Aside0.mk (HFI.out.drop id)
                obtain ⟨NL, hNL⟩ : ∃ x, (listOf s.st id).length = x := ⟨_, rfl⟩
                have HNL := Aside0.mk hNL
                obtain ⟨N', hN'⟩ : ∃ N', N' + NL = N := ⟨N - NL, by have := list_le HFI.out id; have := HRD.out.cnt; omega⟩
                have HNP := Aside0.mk hN'
                obtain ⟨sw1, sw2⟩ := sub_facts (N := N) (a := NL) (r := N') (by have := HNB.out; omega) hN'
                have HDE := Aside0.mk (show dropE s id = (NL : Int) by unfold dropE; rw [hNL])
                have hdr : Below wb.heap.size wb wb.drew := below_drew1 (Below.refl _ _)
                have HOD := Aside0.mk (HOB.out.below hdr)
                have HXd := Aside0.mk (blk_below HX.out hdr)
                obtain ⟨AL, cL, hev, -⟩ := HOD.out.look HWF.out
                rw [hNL] at hev
                have HEV := Aside0.mk hev
                have HMX := Aside0.mk (show nm < maxLen by unfold maxLen; have := HNB.out; omega)
                obtain ⟨d0, d1, d2⟩ := box_cells HXd.out
                have HLK := Aside0.mk (fun W s'' (ho : OR w W mine2 g gm nm f ow s'' (listOf s.st)) => ho.look_at HWF.out hev (Below.refl _ _))
                clear hdr hNL hN' hev
                go_wp2_with (fail)
                refine Calm.wp_region_phC [(2, fun w_ => w_.cell? ⟨bo, 1, none⟩ = some (Value.int .i64 id)), (6, fun w_ => w_.cell? ⟨bo, 1, none⟩ = some (Value.int .i64 id)), (7, fun w_ => (Instr.lookup 44 (.map (some gm)) (.int .i64 id) false).run Try.prog w_ = .ok (.slice AL NL cL) w_)] [([0, 1, 2, 4, 5, 6, 7, 8], [3]), ([9], [])] (by kernel_rfl) (by kernel_rfl) ?_
                refine Calm.ph_next ?_ ?_
                · repeat (first | exact Calm.okI_nil | (refine Calm.okI_cons (Or.inl (by decide)) ?_) | (refine Calm.okI_cons (Or.inr (by first | exact d1 | exact HLK.out _ _ HOD.out)) ?_))
                repeat (first
                  | (refine Calm.g_value (v := ?_) (a' := ?_) rfl rfl (by rfl) ?_ ?_ ?_; rotate_left; (· rintro w' hS'; (try simp only [Calm.SC_cons, Calm.SC_nil, Nat.reduceEqDiff, forall_const, false_implies, and_true, true_and] at hS'); (try obtain ⟨hS1, hS2⟩ := hS'); go_simp; with_reducible rfl); rotate_left; (· simp only [Act.put, List.setIfInBounds_toArray, List.set_cons_zero, List.set_cons_succ, i64_w, i32_w]; rfl)))
                refine Calm.g_nil ?_
                refine Calm.c_call rfl rfl Try.func16 (by kernel_rfl) rfl #[.pointer (some ⟨g, 0, none⟩), .int .i64 id] (by rfl) rfl (by (try simp only [List.map_toArray, List.map_cons, List.map_nil]); rfl) ?_
                (with_reducible refine (drop_o HOD.out HFI.out HWF.out HLN.out HDE.out rfl).mono ?_)
                rintro e_ w2 ⟨rfl, h_, hk_⟩; have H2 := Aside0.mk h_; have hx_ := (hk_ bo HM2.out).trans HXd.out; have HX2 := Aside0.mk hx_; obtain ⟨g0, g1, g2⟩ := box_cells hx_; have hlk2 := HLK.out _ _ h_; obtain ⟨w6, hmu, mine6, f6, ow6, n6, hn6, hor6⟩ := h_.none HWF.out HMX.out; have HO6 := Aside0.mk hor6; have HN6 := Aside0.mk hn6; clear h_ hk_ hx_ hor6 hn6
                refine ⟨_, rfl, ?_, ?_⟩
                · repeat (first | exact Calm.okC_nil | (refine Calm.okC_cons (Or.inl (by decide +kernel)) ?_) | (refine Calm.okC_cons (Or.inr (by first | exact g1 | exact hlk2)) ?_))
                refine Calm.put_to (a' := ?_) ?_ ?_
                rotate_left
                · simp only [Act.put, List.setIfInBounds_toArray, List.set_cons_zero, List.set_cons_succ, i64_w, i32_w]; rfl
                refine Calm.h_nil ?_
                refine Calm.ph_next ?_ ?_
                · repeat (first | exact Calm.okI_nil | (refine Calm.okI_cons (Or.inl (by decide)) ?_) | (refine Calm.okI_cons (Or.inr (by fail)) ?_))
                repeat (first
                  | (refine Calm.g_value (v := ?_) (a' := ?_) rfl rfl (by rfl) ?_ ?_ ?_; rotate_left; (· rintro w' hS'; (try simp only [Calm.SC_cons, Calm.SC_nil, Nat.reduceEqDiff, forall_const, false_implies, and_true, true_and] at hS'); (try obtain ⟨hS1, hS2⟩ := hS'); go_simp; with_reducible rfl); rotate_left; (· simp only [Act.put, List.setIfInBounds_toArray, List.set_cons_zero, List.set_cons_succ, i64_w, i32_w]; rfl)))
                refine Calm.g_nil ?_
                refine Calm.h_nil ?_
                refine Calm.ph_end ?_
                simp only [Exit.inBlock, Exit.then]
                go_wp2_with (fail)
                go_roundw
                case rel => exact ⟨i + 1, _, _, by first | rfl | simp, by first | rfl | simp, ⟨by clear i1 i2; have := HJ.out; omega⟩, ⟨RD.drop HRD.out HO6.out HN6.out HNM.out HDL.out HF2.out HNL.out HNP.out⟩⟩
                case measure => clear i1 i2; have := HJ.out; simp [intOf]; omega
              · have z0 : (kd == 0) = false := beq_eq_false_iff_ne.2 k0
                have z1 : (kd == 1) = false := beq_eq_false_iff_ne.2 k1
                have z2 : (kd == 2) = false := beq_eq_false_iff_ne.2 k2
                clear k0 k1 k2
                go_wp2_with (fail)
                go_roundw
                case rel => exact ⟨i + 1, _, _, by first | rfl | simp, by first | rfl | simp, ⟨by clear i1 i2; have := HJ.out; omega⟩, ⟨RD.move HRD.out HOB.out HNM.out⟩⟩
                case measure => clear i1 i2; have := HJ.out; simp [intOf]; omega
        · have T1 : decide ((t.size : Int) > 300) = true := decide_eq_true (by clear i1 i2; omega)
          have T2 : decide ((300 : Int) < (t.size : Int)) = true := T1
          have T3 : decide (300 < t.size) = true := decide_eq_true (by clear i1 i2; omega)
          clear hs
          go_wp2_with (fail)
          go_ret
          exact ⟨rfl, HOB.out.bel⟩
      · have M1 : decide ((i : Int) < (xs.length : Int)) = true := decide_eq_true (by omega)
        have M2 : decide (i < xs.length) = true := decide_eq_true (by omega)
        have M3 : decide ((i : Int) < 150) = false := decide_eq_false (by omega)
        have M4 : decide (i < 150) = false := decide_eq_false (by omega)
        clear d1 d2
        have HRJ := Aside0.mk (show RD w wr g gm i N s ∧ i + N ≤ 300 from ⟨HRD.out, by have := HRD.out.le; have := HI.out; omega⟩)
        clear HRD
        go_wp2_with (fail)
        go_loopw [9] (fun v9 wr => ∃ (j N : Nat) (s : FS), v9 = .int .i64 (N : Int) ∧ Aside0 (RD w wr g gm j N s ∧ j + N ≤ 300)) (fun v9 _ => (intOf v9).toNat)
        case atStart => exact ⟨i, N, s, rfl, HRJ⟩
        case round =>
          clear HRJ
          obtain ⟨j, N, s, rfl, HRJ⟩ := hrel
          have HRD := Aside0.mk HRJ.out.1
          have HFI := Aside0.mk HRD.out.fi
          obtain ⟨mine, nm, f, ow, hor, hnm⟩ := HRD.out.mem
          have HOB := Aside0.mk hor
          have HNM := Aside0.mk hnm
          have HLN := Aside0.mk (show s.st.length ≤ 100000 by have := HRD.out.len; have := HRJ.out.2; omega)
          have HNB := Aside0.mk (show N ≤ 300 ∧ nm ≤ 300 by have := HRJ.out.2; omega)
          clear hor hnm
          by_cases hst : s.st = []
          · have HNX := Aside0.mk (show nextV s = ((0, ByteArray.empty, false), s) from nextV_none hst)
            have hz0 : N = 0 := by rw [← HRD.out.cnt, hst]; rfl
            subst hz0
            clear hst
            go_wp2_with (first | (go_at_call 11; (with_reducible refine (next_o HOB.out HFI.out HLN.out HNX.out).mono ?_); rintro e_ w5 ⟨rfl, h_, hk_⟩; have H5 := Aside0.mk h_; clear h_ hk_) | (go_at_call 12; (with_reducible refine (count_o H5.out HFI.out HLN.out HRD.out.cnt).mono ?_); rintro e_ w6 ⟨rfl, h_, hk_⟩; have H6 := Aside0.mk h_; clear h_ hk_))
            go_ret
            exact ⟨rfl, H6.out.bel⟩
          · have hne : s.st ≠ [] := hst
            clear hst
            obtain ⟨a, tt, s', r, n1, hn, hla, hother, hct, hwa, hle, hn1⟩ := next_some HFI.out hne
            have HNX := Aside0.mk hn
            have HLA := Aside0.mk hla
            have HOT := Aside0.mk hother
            have HCT := Aside0.mk hct
            have HWA := Aside0.mk hwa
            have HLE := Aside0.mk hle
            have HN1 := Aside0.mk hn1
            have HF2 := Aside0.mk (show FI s' by have := HFI.out.next; rw [hn] at this; exact this)
            have hnp : 0 < N := by have := HRD.out.cnt; omega
            obtain ⟨N', hN'⟩ : ∃ N', N' + 1 = N := ⟨N - 1, by omega⟩
            have HNP := Aside0.mk hN'
            have u1 : decide ((N : Int) > 0) = true := decide_eq_true (by omega)
            have u2 : decide (0 < N) = true := decide_eq_true hnp
            obtain ⟨sw1, sw2⟩ := sub_facts (N := N) (a := 1) (r := N') (by have := HNB.out; omega) hN'
            rw [show ((1 : Nat) : Int) = 1 from rfl] at sw1 sw2
            have p1 : ((n1 : Int) == 0) = false := beq_eq_false_iff_ne.2 (by omega)
            have p2 : (n1 == 0) = false := beq_eq_false_iff_ne.2 (by omega)
            have p3 : (0 < n1) = True := eq_true (by omega)
            have p4 : decide (0 < n1) = true := decide_eq_true (by omega)
            have HMX := Aside0.mk (show nm < maxLen by unfold maxLen; have := HNB.out; omega)
            clear hn hla hother hct hwa hle hn1 hnp hN' hne
            go_wp2_with (go_at_call 11; (with_reducible refine (next_o HOB.out HFI.out HLN.out HNX.out).mono ?_); rintro e_ w5 ⟨rfl, h_, hk_⟩; obtain ⟨b_, off_, c_, A_, c2_, hlk, hcell, hcut, w6, hmu, mine6, f6, ow6, n6, hn6, hor6⟩ := h_.first HWA.out HMX.out HLA.out HN1.out; have HO6 := Aside0.mk hor6; have HN6 := Aside0.mk hn6; clear h_ hk_ hor6 hn6)
            go_roundw
            case rel => exact ⟨j + 1, N', s', by first | rfl | simp, ⟨RD.take HRD.out HO6.out HN6.out HNM.out HLA.out HOT.out HCT.out HLE.out HF2.out HNP.out, by have := HNP.out; have := HRJ.out.2; omega⟩⟩
            case measure => clear sw1 sw2; have := HNP.out; simp [intOf]; omega
    · have M1 : decide ((i : Int) < (xs.length : Int)) = false := decide_eq_false (by omega)
      have M2 : decide (i < xs.length) = false := decide_eq_false (by omega)
      clear d1
      have HRJ := Aside0.mk (show RD w wr g gm i N s ∧ i + N ≤ 300 from ⟨HRD.out, by have := HRD.out.le; have := HI.out; omega⟩)
      clear HRD
      go_wp2_with (fail)
      go_loopw [9] (fun v9 wr => ∃ (j N : Nat) (s : FS), v9 = .int .i64 (N : Int) ∧ Aside0 (RD w wr g gm j N s ∧ j + N ≤ 300)) (fun v9 _ => (intOf v9).toNat)
      case atStart => exact ⟨i, N, s, rfl, HRJ⟩
      case round =>
        clear HRJ
        obtain ⟨j, N, s, rfl, HRJ⟩ := hrel
        have HRD := Aside0.mk HRJ.out.1
        have HFI := Aside0.mk HRD.out.fi
        obtain ⟨mine, nm, f, ow, hor, hnm⟩ := HRD.out.mem
        have HOB := Aside0.mk hor
        have HNM := Aside0.mk hnm
        have HLN := Aside0.mk (show s.st.length ≤ 100000 by have := HRD.out.len; have := HRJ.out.2; omega)
        have HNB := Aside0.mk (show N ≤ 300 ∧ nm ≤ 300 by have := HRJ.out.2; omega)
        clear hor hnm
        by_cases hst : s.st = []
        · have HNX := Aside0.mk (show nextV s = ((0, ByteArray.empty, false), s) from nextV_none hst)
          have hz0 : N = 0 := by rw [← HRD.out.cnt, hst]; rfl
          subst hz0
          clear hst
          go_wp2_with (first | (go_at_call 11; (with_reducible refine (next_o HOB.out HFI.out HLN.out HNX.out).mono ?_); rintro e_ w5 ⟨rfl, h_, hk_⟩; have H5 := Aside0.mk h_; clear h_ hk_) | (go_at_call 12; (with_reducible refine (count_o H5.out HFI.out HLN.out HRD.out.cnt).mono ?_); rintro e_ w6 ⟨rfl, h_, hk_⟩; have H6 := Aside0.mk h_; clear h_ hk_))
          go_ret
          exact ⟨rfl, H6.out.bel⟩
        · have hne : s.st ≠ [] := hst
          clear hst
          obtain ⟨a, tt, s', r, n1, hn, hla, hother, hct, hwa, hle, hn1⟩ := next_some HFI.out hne
          have HNX := Aside0.mk hn
          have HLA := Aside0.mk hla
          have HOT := Aside0.mk hother
          have HCT := Aside0.mk hct
          have HWA := Aside0.mk hwa
          have HLE := Aside0.mk hle
          have HN1 := Aside0.mk hn1
          have HF2 := Aside0.mk (show FI s' by have := HFI.out.next; rw [hn] at this; exact this)
          have hnp : 0 < N := by have := HRD.out.cnt; omega
          obtain ⟨N', hN'⟩ : ∃ N', N' + 1 = N := ⟨N - 1, by omega⟩
          have HNP := Aside0.mk hN'
          have u1 : decide ((N : Int) > 0) = true := decide_eq_true (by omega)
          have u2 : decide (0 < N) = true := decide_eq_true hnp
          obtain ⟨sw1, sw2⟩ := sub_facts (N := N) (a := 1) (r := N') (by have := HNB.out; omega) hN'
          rw [show ((1 : Nat) : Int) = 1 from rfl] at sw1 sw2
          have p1 : ((n1 : Int) == 0) = false := beq_eq_false_iff_ne.2 (by omega)
          have p2 : (n1 == 0) = false := beq_eq_false_iff_ne.2 (by omega)
          have p3 : (0 < n1) = True := eq_true (by omega)
          have p4 : decide (0 < n1) = true := decide_eq_true (by omega)
          have HMX := Aside0.mk (show nm < maxLen by unfold maxLen; have := HNB.out; omega)
          clear hn hla hother hct hwa hle hn1 hnp hN' hne
          go_wp2_with (go_at_call 11; (with_reducible refine (next_o HOB.out HFI.out HLN.out HNX.out).mono ?_); rintro e_ w5 ⟨rfl, h_, hk_⟩; obtain ⟨b_, off_, c_, A_, c2_, hlk, hcell, hcut, w6, hmu, mine6, f6, ow6, n6, hn6, hor6⟩ := h_.first HWA.out HMX.out HLA.out HN1.out; have HO6 := Aside0.mk hor6; have HN6 := Aside0.mk hn6; clear h_ hk_ hor6 hn6)
          go_roundw
          case rel => exact ⟨j + 1, N', s', by first | rfl | simp, ⟨RD.take HRD.out HO6.out HN6.out HNM.out HLA.out HOT.out HCT.out HLE.out HF2.out HNP.out, by have := HNP.out; have := HRJ.out.2; omega⟩⟩
          case measure => clear sw1 sw2; have := HNP.out; simp [intOf]; omega
end Go.Proofs.Ytcieopcihbgfdaa.Walk
