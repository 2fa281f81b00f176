/- The walk of AcksKeeps. gen/mk_keeps08.py writes this text. -/
import Derived.Test.YtanebifiafghnaaKeeps08
import Derived.Test.YtanebifiafghnaaGoodAcksKeeps
import Derived.Deep.Cut
import Derived.Deep.CutRange
import Derived.Deep.CutBlock
namespace Go.Proofs.Ytanebifiafghnaa.Walk
open Go.RowKit Go.Deep Go.Proofs.YtanebifiafghnaaW.PrintWords Go.Proofs.YtanebifiafghnaaW.PrintLast Go.Proofs.YtanebifiafghnaaW.PrintMore Go.Proofs.Ytanebifiafghnaa.PAcksRight Go.Proofs.Ytanebifiafghnaa Go.Proofs.Ytanebifiafghnaa.Ack
set_option linter.unusedVariables false
set_option linter.unusedSimpArgs false
theorem el_int {w : World} {A : Option Addr} {xs : List Int} (h : (Kd.int .i64).C w A xs.length xs) (i : Int) (h0 : 0 ≤ i) (h1 : i < xs.length) : ∃ ad, A = some ad ∧ ∀ W, Below w.heap.size w W → W.cell? (ad.add i.toNat) = some (.int .i64 (xs.getD i.toNat 0)) := by
  obtain ⟨ad, c, e, _, hK, hc0⟩ := Kd.C_get h 0 i h0 h1
  refine ⟨ad, e, fun W hb => ?_⟩
  obtain ⟨ad2, c2, e2, _, hK2, hc2⟩ := Kd.C_get (Kd.C_below h hb) 0 i h0 h1
  obtain rfl : ad = ad2 := Option.some.inj (e.symm.trans e2)
  obtain rfl : c2 = [.int .i64 (xs.getD i.toNat 0)] := hK2
  have := hc2 0 _ rfl
  rwa [show i.toNat * (Kd.int .i64).sz + 0 = i.toNat from by show i.toNat * 1 + 0 = _; omega] at this
def z45 : S45 := ⟨false, 0, 0⟩
theorem el45 {w : World} {A : Option Addr} {xs : List S45} (h : k45.C w A xs.length xs) (i : Nat) (h1 : i < xs.length) : ∃ ad, A = some ad ∧ ∀ W, Below w.heap.size w W → W.cell? (ad.add (i * 3)) = some (.bool (xs.getD i z45).f0) ∧ W.cell? ⟨(ad.add (i * 3)).block, (ad.add (i * 3)).off + 1, none⟩ = some (.int .i64 (xs.getD i z45).f1) ∧ W.cell? ⟨(ad.add (i * 3)).block, (ad.add (i * 3)).off + 2, none⟩ = some (.int .i64 (xs.getD i z45).f2) := by
  obtain ⟨ad, c, e, _, hK, hc0⟩ := Kd.C_get h z45 (i : Int) (by omega) (by omega)
  refine ⟨ad, e, fun W hb => ?_⟩
  obtain ⟨ad2, c2, e2, _, hK2, hc2⟩ := Kd.C_get (Kd.C_below h hb) z45 (i : Int) (by omega) (by omega)
  obtain rfl : ad = ad2 := Option.some.inj (e.symm.trans e2)
  rw [Int.toNat_natCast] at hK2 hc2
  obtain rfl := k45_open hK2
  have hc : ∀ j u, ([.bool (xs.getD i z45).f0, .int .i64 (xs.getD i z45).f1, .int .i64 (xs.getD i z45).f2] : List Value)[j]? = some u → W.cell? (ad.add (i * 3 + j)) = some u := hc2
  exact ⟨hc 0 _ rfl, by rw [← add_field _ _ 1 (by omega)]; exact hc 1 _ rfl, by rw [← add_field _ _ 2 (by omega)]; exact hc 2 _ rfl⟩
theorem radd_any {w0 w1 : World} {g : Nat} {v : Value} {l l2 : List S35} {lo hi : Int} (h : RG w0.heap.size w1 g l v) (hB : Below w0.heap.size w0 w1) (hg : w0.heap.size ≤ g) (hn : NF l) (hl : l.length ≤ 16) (ha : AddA l l2 lo hi) :
    Calls Try.prog 18 #[.pointer (some ⟨g, 0, none⟩), .int .i64 lo, .int .i64 hi] w1 fun e w' => ∃ v', e = .returned (.int .i64 (addE lo hi)) ∧ RQ w0 w1 w' g v v' l2 := by
  unfold addE
  cases hf : fineB ⟨lo, hi⟩ with
  | true =>
    refine (radd_ok w0 w1 g v l lo hi h hB hg hf hn.fine (by omega)).mono ?_
    rintro e w' ⟨v', rfl, hq⟩
    rw [radd_eq hn hf (ha.yes hf)] at hq
    exact ⟨v', rfl, hq⟩
  | false =>
    refine (radd_bad w0 w1 g v l lo hi h hB hf).mono ?_
    rintro e w' ⟨rfl, hq⟩
    obtain rfl := ha.no hf
    exact ⟨v, rfl, hq⟩
theorem R35_at {W : World} {base n c : Nat} {ok : Nat → Prop} {A : Option Addr} {l : List S35} (h : Kd.R k35 35 W base ok (.slice A n c) l) (h0 : 0 < n) : ∃ g, A = some ⟨g, 0, none⟩ := by
  obtain ⟨hok, inner, ⟨hl, ho⟩, hr⟩ := h
  rcases ho with ⟨hv, hn⟩ | ⟨g', cap, cur, hv, _⟩
  · injection hv with _ hv; omega
  · injection hv with h1 _ _; exact ⟨g', h1⟩
theorem if2 {i n : Nat} (h : i < n) (hn : n ≤ 1000000) : wrap64 ((i : Int) + 1) = ((i + 1 : Nat) : Int) ∧ IntKind.i64.wrap ((i : Int) + 1) = ((i + 1 : Nat) : Int) ∧ decide ((i : Int) < (n : Int)) = true ∧ decide (i < n) = true ∧ ((i : Int) < (n : Int)) = True ∧ (i < n) = True ∧ ((0 : Int) ≤ (i : Int)) = True := by
  have hw : wrap64 ((i : Int) + 1) = ((i + 1 : Nat) : Int) := by unfold wrap64; omega
  exact ⟨hw, (i64_w _).trans hw, decide_eq_true (by omega), decide_eq_true h, eq_true (by omega), eq_true h, eq_true (by omega)⟩
theorem if3 {i n : Nat} (h : i < n) (h2 : i < 100) : wrap64 ((i : Int) + 1) = ((i + 1 : Nat) : Int) ∧ IntKind.i64.wrap ((i : Int) + 1) = ((i + 1 : Nat) : Int) ∧ decide ((i : Int) < (n : Int)) = true ∧ decide (i < n) = true ∧ decide ((i : Int) < 100) = true ∧ decide (i < 100) = true ∧ ((i : Int) < (n : Int)) = True ∧ (i < n) = True ∧ ((0 : Int) ≤ (i : Int)) = True := by
  have hw : wrap64 ((i : Int) + 1) = ((i + 1 : Nat) : Int) := by unfold wrap64; omega
  exact ⟨hw, (i64_w _).trans hw, decide_eq_true (by omega), decide_eq_true h, decide_eq_true (by omega), decide_eq_true h2, eq_true (by omega), eq_true h, eq_true (by omega)⟩
theorem zoff (k : Nat) : k * 2 = ((k : Int)).toNat * k35.sz + 0 := by
  rw [Int.toNat_natCast]; rfl
theorem zcells {W : World} {gx k : Nat} {a b : Int} (s0 : W.cell? ⟨gx, k * 2, none⟩ = some (.int .i64 a)) (s1 : W.cell? ⟨gx, k * 2 + 1, none⟩ = some (.int .i64 b)) : ∀ j u, ([.int .i64 a, .int .i64 b] : List Value)[j]? = some u → W.cell? ⟨gx, (k : Int).toNat * k35.sz + j, none⟩ = some u := by
  intro j u hj
  rw [Int.toNat_natCast, show k35.sz = 2 from rfl]
  match j, hj with
  | 0, hj => cases hj; exact s0
  | 1, hj => cases hj; exact s1
  | (j + 2), hj => simp at hj
set_option maxHeartbeats 8000000 in
set_option maxRecDepth 100000 in
theorem acksKeeps_walk {P Q : Prop} (A : Option Addr) (cap : Nat) (xs : List S45) (A2 : Option Addr) (cap2 : Nat) (ys : List Int) (w : World) (hr : k45.C w A xs.length xs) (hc : xs.length ≤ cap) (hr2 : (Kd.int .i64).C w A2 ys.length ys) (hc2 : ys.length ≤ cap2) (G0 : P) (G1 : Q) :
    Calls Try.prog 6 #[.slice A xs.length cap, .slice A2 ys.length cap2] w fun e w' => e = .returned (.bool true) ∧ Below w.heap.size w w' := by
  have HR := Aside0.mk hr
  have HY := Aside0.mk hr2
  clear hr hc hr2 hc2 G0 G1
  go_enter Try.func6, Try.ntmps6
  go_wp2_with (first | (go_at_call 12; (with_reducible refine (new_c w).mono ?_); rintro e_ w1 ⟨g, rfl, hg, hblk, hb⟩; have HG := Aside0.mk hg; have HS1 := Aside0.mk (show SG w.heap.size w1 g [] (.slice none 0 0) from ⟨hblk, Kd.R_nil _ _ _ _ _⟩); have HB1 := Aside0.mk hb; clear hg hblk hb) | ((with_reducible refine gate_dst (N := 12) rfl ?_); refine box_event ?hg (N := 12) ?hd (cs := #[.slice none 0 0]) (t := 43) ?hr ?_; (case hd => rfl); (case hg => rfl); (case hr => first | (go_simp; done) | (go_simp; rfl)); intro q hgq w2 hbox hb2; have HQ0 := Aside0.mk hgq; have HX2 := Aside0.mk hbox; have HB2 := Aside0.mk hb2; clear hgq hbox hb2))
  have HQ := Aside0.mk (show w.heap.size ≤ q by have h1 := HB1.out.size; have h2 : w1.heap.size ≤ q := (by first | exact HQ0.out | exact Nat.le_of_eq HQ0.out | exact Nat.le_of_eq HQ0.out.symm); omega)
  have HD0 := Aside0.mk (show Duo w w2 g q (.slice none 0 0) (.slice none 0 0) [] from ⟨HS1.out.below HB2.out, ⟨HX2.out, Kd.R_nil _ _ _ _ _⟩, fun k hk => (by cases hk), below_step HB1.out HB2.out⟩)
  clear HS1 HB1 HB2 HX2 HQ0
  go_loopw [7, 8, 9] (fun v7 v8 v9 wr => ∃ i : Nat, v7 = .int .i64 (i : Int) ∧ Aside0 (i ≤ 100) ∧ ∃ v u l, Aside0 (Duo w wr g q v u l) ∧ Aside0 (NF l) ∧ Aside0 (l.length ≤ 16)) (fun v7 _ _ _ => (100 - intOf v7).toNat)
  case atStart => exact ⟨0, rfl, ⟨by omega⟩, _, _, [], HD0, ⟨NF.nil⟩, ⟨by decide⟩⟩
  case round =>
    clear HD0
    obtain ⟨i, rfl, HI, v, u, l, HD, HNF, HLN⟩ := hrel
    by_cases d1 : i < xs.length
    · by_cases d2 : i < 100
      · skip
        obtain ⟨ad, hA, rows⟩ := el45 HR.out i (by omega)
        subst hA
        have x0 := (rows wr HD.out.bel).1
        obtain ⟨-, x1, x2⟩ := rows wr HD.out.bel
        have ROWS := Aside0.mk rows
        generalize xs.getD i z45 = op at x0 x1 x2 ROWS
        obtain ⟨dr, lo, hi⟩ := op
        dsimp only at x0 x1 x2
        have hif := if3 (show i < xs.length by omega) (show i < 100 by omega)
        have HJ := Aside0.mk (And.intro d1 d2)
        clear d1 d2 rows
        obtain ⟨i1, i2, i3, i4, i5, i6, i7, i8, i9⟩ := hif
        go_upto_if 29 with (fail)
        go_cut [] from 29 to 68 (fun wc => ∃ v2 u2 l2, Aside0 (Duo w wc g q v2 u2 l2) ∧ Aside0 (NF l2) ∧ Aside0 (l2.length ≤ 16))
        case first =>
          cases dr with
          | true =>
            obtain ⟨r, ht⟩ := HNF.out.turn3 lo
            have HT := Aside0.mk ht
            have HNF2 := Aside0.mk (drop_nf HNF.out ht)
            have HLN2 := Aside0.mk (show (dropL lo r l).length ≤ 16 from Nat.le_trans drop_len HLN.out)
            have HDC := Aside0.mk (drop_c w wr wr g r v v l lo (SP.start HD.out.a HD.out.bel) HG.out HLN.out ht)
            clear ht
            obtain ⟨l2, hl2⟩ : ∃ x, dropL lo r l = x := ⟨_, rfl⟩
            have HE := Aside0.mk hl2
            rw [hl2] at HNF2 HLN2
            clear hl2
            go_wp2_with (first | (go_at_call 16; (with_reducible refine (HDC.out).mono ?_); rintro e_ w5 ⟨v2, rfl, h5⟩; have H5 := Aside0.mk (show Half w w5 g q v2 u l2 l by rw [← HE.out]; exact HD.out.act h5); clear h5; obtain ⟨-, z1, z2⟩ := ROWS.out w5 H5.out.bel; dsimp only at z1 z2) | (go_at_call 17; (with_reducible refine (rdrop_c w w5 q u l lo H5.out.b H5.out.bel HQ.out (by have := HLN.out; omega)).mono ?_); rintro e_ w6 ⟨u2, rfl, h6⟩; have H6 := Aside0.mk (show Duo w w6 g q v2 u2 l2 from H5.out.act (by rw [← HE.out, ← rdrop_eq HT.out]; exact h6)); clear h6))
            go_meet
            case rel => exact ⟨_, _, _, H6, HNF2, HLN2⟩
          | false =>
            have HDD := Aside0.mk (HD.out.below (below_drew1 (Below.refl _ _)))
            have hAD := add_any w wr.drew wr.drew g _ v l lo hi (SP.start HDD.out.a HDD.out.bel) HG.out HNF.out HLN.out
            obtain ⟨ee, hee⟩ : ∃ e, addE lo hi = e := ⟨_, rfl⟩
            have HEE := Aside0.mk hee
            rw [hee] at hAD
            have HAD := Aside0.mk hAD
            clear hee hAD
            go_wp2_with (fail)
            refine Calm.wp_region_calmC [(5, fun w_ => w_.cell? ⟨(ad.add (i * 3)).block, (ad.add (i * 3)).off + 1, none⟩ = some (.int .i64 lo)), (10, fun w_ => w_.cell? ⟨(ad.add (i * 3)).block, (ad.add (i * 3)).off + 2, none⟩ = some (.int .i64 hi)), (17, fun w_ => w_.cell? ⟨(ad.add (i * 3)).block, (ad.add (i * 3)).off + 1, none⟩ = some (.int .i64 lo)), (22, fun w_ => w_.cell? ⟨(ad.add (i * 3)).block, (ad.add (i * 3)).off + 2, none⟩ = some (.int .i64 hi))] [0, 1, 2, 3, 4, 5, 6, 7, 8, 9, 10, 12, 13, 14, 15, 16, 17, 18, 19, 20, 21, 22] [11, 23, 24] (by kernel_rfl) (by kernel_rfl) (Calm.allC_cons (by exact x1) (Calm.allC_cons (by exact x2) (Calm.allC_cons (by exact x1) (Calm.allC_cons (by exact x2) Calm.allC_nil)))) ?_
            repeat (first
              | (refine Calm.g_value (v := ?_) (a' := ?_) rfl rfl (by rfl) ?_ ?_ ?_; rotate_left; (· rintro w' hS'; (try simp only [Calm.SC_cons, Calm.SC_nil, Nat.reduceEqDiff, forall_const, false_implies, and_true, true_and] at hS'); (try obtain ⟨hS1, hS2⟩ := hS'); go_simp; with_reducible rfl); rotate_left; (· simp only [Act.put, List.setIfInBounds_toArray, List.set_cons_zero, List.set_cons_succ, i64_w, i32_w]; rfl)))
            refine Calm.g_nil ?_
            refine Calm.c_call rfl rfl Try.func13 (by kernel_rfl) rfl #[.pointer (some ⟨g, 0, none⟩), .int .i64 lo, .int .i64 hi] (by rfl) rfl (by (try simp only [List.map_toArray, List.map_cons, List.map_nil]); rfl) ?_
            (with_reducible refine (HAD.out).mono ?_)
            rintro e_ w5 ⟨v2, l2, rfl, h5, ha5⟩; have H5 := Aside0.mk (HDD.out.act h5); have HA5 := Aside0.mk ha5; clear h5 ha5; obtain ⟨-, z1, z2⟩ := ROWS.out w5 H5.out.bel
            refine ⟨_, rfl, ?_, ?_⟩
            · repeat (first | exact Calm.okC_nil | (refine Calm.okC_cons (Or.inl (by decide +kernel)) ?_) | (refine Calm.okC_cons (Or.inr (by first | exact z1 | exact z2)) ?_))
            refine Calm.put_to (a' := ?_) ?_ ?_
            rotate_left
            · simp only [Act.put, List.setIfInBounds_toArray, List.set_cons_zero, List.set_cons_succ, i64_w, i32_w]; rfl
            refine Calm.c_call rfl rfl Try.func18 (by kernel_rfl) rfl #[.pointer (some ⟨q, 0, none⟩), .int .i64 lo, .int .i64 hi] (by rfl) rfl (by (try simp only [List.map_toArray, List.map_cons, List.map_nil]); rfl) ?_
            (with_reducible refine ((radd_any (w0 := w) (w1 := w5) (g := q) H5.out.b H5.out.bel HQ.out HNF.out HLN.out HA5.out)).mono ?_)
            rintro e_ w6 ⟨u2, rfl, h6⟩; have H6 := Aside0.mk (H5.out.act h6); clear h6; rw [HEE.out]
            refine ⟨_, rfl, ?_, ?_⟩
            · repeat (first | exact Calm.okC_nil | (refine Calm.okC_cons (Or.inl (by decide +kernel)) ?_) | (refine Calm.okC_cons (Or.inr (by fail)) ?_))
            refine Calm.put_to (a' := ?_) ?_ ?_
            rotate_left
            · simp only [Act.put, List.setIfInBounds_toArray, List.set_cons_zero, List.set_cons_succ, i64_w, i32_w]; rfl
            refine Calm.c_value (v := ?_) (w1 := ?_) (a' := ?_) rfl rfl (by rfl) ?_ ?_ ?_ ?_
            rotate_left
            rotate_left
            · go_simp; first | (refine And.intro ?_ ?_ <;> rfl) | rfl
            · repeat (first | exact Calm.okC_nil | (refine Calm.okC_cons (Or.inl (by decide +kernel)) ?_) | (refine Calm.okC_cons (Or.inr (by (first | assumption | (go_simp; done)))) ?_))
            rotate_left
            · simp only [Act.put, List.setIfInBounds_toArray, List.set_cons_zero, List.set_cons_succ, i64_w, i32_w]; rfl
            refine Calm.h_nil ?_
            simp only [Exit.inBlock, Exit.then]
            go_wp2_with (fail)
            go_meet
            case rel => exact ⟨_, _, _, H6, ⟨HA5.out.nf⟩, ⟨HA5.out.len⟩⟩
        case rest =>
          clear HD HNF HLN x0 x1 x2
          obtain ⟨v2, u2, l2, HD, HNF, HL2⟩ := hcut
          obtain ⟨wm, hwm⟩ : ∃ x, x = wc := ⟨_, rfl⟩
          subst hwm
          obtain ⟨wo, hwo⟩ : ∃ x, x = wr := ⟨_, rfl⟩
          subst hwo
          obtain ⟨Au, cu, hu⟩ := Kd.R_slice HD.out.b.row
          subst hu
          obtain ⟨ks, hks⟩ := same_self l2 (by have := HL2.out; omega)
          have HKS := Aside0.mk hks
          clear hks
          go_wp2_with (first | (go_at_call 14; (with_reducible refine (ranges_c g wm.heap.size _ _ w.heap.size wm HD.out.a (by have := HL2.out; omega) (Nat.le_refl _)).mono ?_); rintro e_ w5 ⟨v5, rfl, hr5, hb5⟩; obtain ⟨A5, c5, rfl⟩ := Kd.R_slice hr5; have HR5 := Aside0.mk hr5; have HB5 := Aside0.mk hb5; have H5 := Aside0.mk (HD.out.below hb5); have q5 := (show _ = some (Value.slice Au l2.length cu) from (blk_cell H5.out.b.blk 0).trans rfl); clear hr5 hb5) | (go_at_call 10; (with_reducible refine (vizardref08_Same.calls ks A5 c5 l2 Au cu l2 true w5 (Kd.R_reads' HR5.out).2.2 (Kd.R_reads' HR5.out).2.1 (Kd.R_reads' H5.out.b.row).2.2 (Kd.R_reads' H5.out.b.row).2.1 HKS.out).mono ?_); rintro e_ w6 ⟨rfl, hd⟩; have hb6 := below_drawn0 (Below.refl w5.heap.size w5) hd; have HR6 := Aside0.mk (Kd.R_below HR5.out hb6); have HB6 := Aside0.mk (below_step HB5.out hb6); clear hd hb6))
          clear q5 HR5 HB5 H5
          go_loopw [9] (fun v9 wr => ∃ (k : Nat) (zs : List S35), v9 = .int .i64 (k : Int) ∧ Aside0 (k ≤ l2.length) ∧ Aside0 (zs.length = l2.length) ∧ Aside0 (Kd.R k35 35 wr wm.heap.size (fun _ => True) (.slice A5 l2.length c5) zs) ∧ Aside0 (Below wm.heap.size wm wr)) (fun v9 _ => ((l2.length : Int) - intOf v9).toNat)
          case atStart => exact ⟨0, l2, rfl, ⟨Nat.zero_le _⟩, ⟨rfl⟩, HR6, HB6⟩
          case round =>
            clear HR6 HB6
            obtain ⟨k, zs, rfl, HK, HZL, HZ, HBZ⟩ := hrel
            by_cases d3 : k < l2.length
            · obtain ⟨gx, hA⟩ := R35_at HZ.out (by omega)
              subst hA
              obtain ⟨ad3, hA3, s0, s1⟩ := at35 (Kd.R_reads' HZ.out).2.2 k (by rw [HZL.out]; exact d3)
              injection hA3 with hA3
              subst hA3
              rw [add0] at s0 s1
              have hif := if2 d3 (by have := HL2.out; omega)
              have HKJ := Aside0.mk d3
              clear d3
              obtain ⟨j1, j2, j3, j4, j5, j6, j7⟩ := hif
              go_wp2_with ((with_reducible refine gate_ (.store 35 (.tmp 87) (.tmp 86)) rfl ?_); refine Kd.R_store k35 (w0 := wm) wm.heap.size rfl rfl 35 (.tmp 87) (.tmp 86) rfl 35 (k : Int) 0 zs ⟨0, 0⟩ (.agg #[.int .i64 0, .int .i64 0]) [.int .i64 0, .int .i64 0] [.int .i64 (zs.getD k z35).f0, .int .i64 (zs.getD k z35).f1] (fun _ => True) (fun _ => False) rfl ?zO rfl rfl (by kernel_rfl) (by decide) HZ.out (by omega) ?zI rfl ?zC (by decide) ?zM (fun _ hk => hk.elim) HBZ.out ?_; (case zO => exact zoff k); (case zI => have := HKJ.out; omega); (case zC => exact zcells s0 s1); (case zM => exact k35_mkM _ _ _ ⟨0, 0⟩); intro w7 hR7 hB7 hg7; rw [Int.toNat_natCast] at hR7; have HR7 := Aside0.mk hR7; have HB7 := Aside0.mk hB7; clear hR7 hB7 hg7)
              go_roundw
              case rel => exact ⟨k + 1, _, by first | rfl | simp, ⟨by have := HKJ.out; omega⟩, ⟨by rw [List.length_set]; exact HZL.out⟩, HR7, HB7⟩
              case measure => clear j1 j2; have := HKJ.out; simp [intOf]; omega
            · have N3 : decide ((k : Int) < (l2.length : Int)) = false := decide_eq_false (by omega)
              have N3' : decide (k < l2.length) = false := decide_eq_false d3
              clear d3
              have HDE := Aside0.mk (HD.out.below HBZ.out)
              by_cases d4 : i < ys.length
              · obtain ⟨ad2, hA2, rows2⟩ := el_int HY.out (i : Int) (by omega) (by omega)
                subst hA2
                rw [Int.toNat_natCast] at rows2
                have y0 := rows2 wr HDE.out.bel
                have YROW := Aside0.mk rows2
                generalize ys.getD i 0 = y at y0 YROW
                have HDZ := Aside0.mk (HDE.out.below (below_drew1 (Below.refl _ _)))
                have k1 : decide ((i : Int) < (ys.length : Int)) = true := decide_eq_true (by omega)
                have k2 : decide (i < ys.length) = true := decide_eq_true d4
                have k3 : ((i : Int) < (ys.length : Int)) = True := eq_true (by omega)
                have k4 : (i < ys.length) = True := eq_true d4
                obtain ⟨eb, heb⟩ : ∃ e, anyR y l2 = e := ⟨_, rfl⟩
                have HEB := Aside0.mk heb
                clear d4 rows2 heb
                go_wp2_with (fail)
                refine Calm.wp_region_calmC [(9, fun w_ => w_.cell? (ad2.add i) = some (.int .i64 y)), (15, fun w_ => w_.cell? (ad2.add i) = some (.int .i64 y))] [0, 1, 2, 3, 4, 5, 6, 7, 8, 9, 11, 12, 13, 14, 15] [10, 16, 17, 18] (by kernel_rfl) (by kernel_rfl) (Calm.allC_cons (by exact y0) (Calm.allC_cons (by exact y0) Calm.allC_nil)) ?_
                repeat (first
                  | (refine Calm.g_value (v := ?_) (a' := ?_) rfl rfl (by rfl) ?_ ?_ ?_; rotate_left; (· rintro w' hS'; (try simp only [Calm.SC_cons, Calm.SC_nil, Nat.reduceEqDiff, forall_const, false_implies, and_true, true_and] at hS'); (try obtain ⟨hS1, hS2⟩ := hS'); go_simp; with_reducible rfl); rotate_left; (· simp only [Act.put, List.setIfInBounds_toArray, List.set_cons_zero, List.set_cons_succ, i64_w, i32_w]; rfl)))
                refine Calm.g_nil ?_
                refine Calm.c_call rfl rfl Try.func15 (by kernel_rfl) rfl #[.pointer (some ⟨g, 0, none⟩), .int .i64 y] (by rfl) rfl (by (try simp only [List.map_toArray, List.map_cons, List.map_nil]); rfl) ?_
                (with_reducible refine ((has_c g y _ _ _ _ HDZ.out.a)).mono ?_)
                rintro e_ w8 ⟨rfl, hb⟩; have H8 := Aside0.mk (HDZ.out.below hb); clear hb; have y8 := YROW.out w8 H8.out.bel
                refine ⟨_, rfl, ?_, ?_⟩
                · repeat (first | exact Calm.okC_nil | (refine Calm.okC_cons (Or.inl (by decide +kernel)) ?_) | (refine Calm.okC_cons (Or.inr (by exact y8)) ?_))
                refine Calm.put_to (a' := ?_) ?_ ?_
                rotate_left
                · simp only [Act.put, List.setIfInBounds_toArray, List.set_cons_zero, List.set_cons_succ, i64_w, i32_w]; rfl
                refine Calm.c_call rfl rfl Try.func19 (by kernel_rfl) rfl #[.pointer (some ⟨q, 0, none⟩), .int .i64 y] (by rfl) rfl (by (try simp only [List.map_toArray, List.map_cons, List.map_nil]); rfl) ?_
                (with_reducible refine ((rhas_c q _ _ _ y w8 H8.out.b (by have := HL2.out; omega))).mono ?_)
                rintro e_ w9 ⟨rfl, hd⟩; have H9 := Aside0.mk (H8.out.below (below_drawn0 (Below.refl _ _) hd)); clear hd; rw [HEB.out]
                refine ⟨_, rfl, ?_, ?_⟩
                · repeat (first | exact Calm.okC_nil | (refine Calm.okC_cons (Or.inl (by decide +kernel)) ?_) | (refine Calm.okC_cons (Or.inr (by fail)) ?_))
                refine Calm.put_to (a' := ?_) ?_ ?_
                rotate_left
                · simp only [Act.put, List.setIfInBounds_toArray, List.set_cons_zero, List.set_cons_succ, i64_w, i32_w]; rfl
                refine Calm.c_value (v := ?_) (w1 := ?_) (a' := ?_) rfl rfl (by rfl) ?_ ?_ ?_ ?_
                rotate_left
                rotate_left
                · go_simp; first | (refine And.intro ?_ ?_ <;> rfl) | rfl
                · repeat (first | exact Calm.okC_nil | (refine Calm.okC_cons (Or.inl (by decide +kernel)) ?_) | (refine Calm.okC_cons (Or.inr (by (first | assumption | (go_simp; done)))) ?_))
                rotate_left
                · simp only [Act.put, List.setIfInBounds_toArray, List.set_cons_zero, List.set_cons_succ, i64_w, i32_w]; rfl
                refine Calm.c_value (v := ?_) (w1 := ?_) (a' := ?_) rfl rfl (by rfl) ?_ ?_ ?_ ?_
                rotate_left
                rotate_left
                · go_simp; first | (refine And.intro ?_ ?_ <;> rfl) | rfl
                · repeat (first | exact Calm.okC_nil | (refine Calm.okC_cons (Or.inl (by decide +kernel)) ?_) | (refine Calm.okC_cons (Or.inr (by (first | assumption | (go_simp; done)))) ?_))
                rotate_left
                · simp only [Act.put, List.setIfInBounds_toArray, List.set_cons_zero, List.set_cons_succ, i64_w, i32_w]; rfl
                refine Calm.h_nil ?_
                simp only [Exit.inBlock, Exit.then]
                go_wp2_with (fail)
                go_roundw
                case rel => exact ⟨i + 1, by first | rfl | simp, ⟨by clear i1 i2; have := HJ.out; omega⟩, _, _, _, H9, HNF, HL2⟩
                case measure => clear i1 i2; have := HJ.out; simp [intOf]; omega
              · have k1 : decide ((i : Int) < (ys.length : Int)) = false := decide_eq_false (by omega)
                have k2 : decide (i < ys.length) = false := decide_eq_false d4
                clear d4
                go_wp2_with (fail)
                refine Calm.wp_region_phC [] [([0, 1, 2, 3, 4, 5, 6, 7, 8, 9, 10, 11, 12, 13, 14, 15, 16, 17, 18], [])] (by kernel_rfl) (by kernel_rfl) ?_
                refine Calm.ph_next ?_ ?_
                · repeat (first | exact Calm.okI_nil | (refine Calm.okI_cons (Or.inl (by decide)) ?_) | (refine Calm.okI_cons (Or.inr (by fail)) ?_))
                repeat (first
                  | (refine Calm.g_value (v := ?_) (a' := ?_) rfl rfl (by rfl) ?_ ?_ ?_; rotate_left; (· rintro w' hS'; (try simp only [Calm.SC_cons, Calm.SC_nil, Nat.reduceEqDiff, forall_const, false_implies, and_true, true_and] at hS'); (try obtain ⟨hS1, hS2⟩ := hS'); go_simp; with_reducible rfl); rotate_left; (· simp only [Act.put, List.setIfInBounds_toArray, List.set_cons_zero, List.set_cons_succ, i64_w, i32_w]; rfl))
                  | (refine Calm.g_off (a' := ?_) rfl rfl (by rfl) ?_ ?_; rotate_left; (· simp only [Act.put, List.setIfInBounds_toArray, List.set_cons_zero, List.set_cons_succ, i64_w, i32_w]; rfl)))
                refine Calm.g_nil ?_
                refine Calm.h_nil ?_
                refine Calm.ph_end ?_
                simp only [Exit.inBlock, Exit.then]
                go_wp2_with (fail)
                go_roundw
                case rel => exact ⟨i + 1, by first | rfl | simp, ⟨by clear i1 i2; have := HJ.out; omega⟩, _, _, _, ⟨HDE.out.below (below_drew1 (Below.refl _ _))⟩, HNF, HL2⟩
                case measure => clear i1 i2; have := HJ.out; simp [intOf]; omega
      · have M1 : decide ((i : Int) < (xs.length : Int)) = true := decide_eq_true (by omega)
        have M1' : decide (i < xs.length) = true := decide_eq_true d1
        have M2 : decide ((i : Int) < 100) = false := decide_eq_false (by omega)
        have M2' : decide (i < 100) = false := decide_eq_false d2
        clear d1 d2
        go_wp2_with (fail)
        go_ret
        exact ⟨rfl, HD.out.bel⟩
    · have M1 : decide ((i : Int) < (xs.length : Int)) = false := decide_eq_false (by omega)
      have M1' : decide (i < xs.length) = false := decide_eq_false d1
      clear d1
      go_wp2_with (fail)
      go_ret
      exact ⟨rfl, HD.out.bel⟩
end Go.Proofs.Ytanebifiafghnaa.Walk
