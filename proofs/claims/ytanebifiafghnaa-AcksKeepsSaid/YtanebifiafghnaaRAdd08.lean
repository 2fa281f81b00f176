/- Layer 8: the ref's Add. gen/mk_radd08.py writes this text. -/
import Derived.Test.YtanebifiafghnaaRSet08
namespace Go.Proofs.Ytanebifiafghnaa.Ack
open Go.RowKit Go.Deep Go.Proofs.YtanebifiafghnaaW.PrintWords Go.Proofs.YtanebifiafghnaaW.PrintLast Go.Proofs.YtanebifiafghnaaW.PrintMore Go.Proofs.Ytanebifiafghnaa.PAcksRight Go.Proofs.Ytanebifiafghnaa
set_option linter.unusedVariables false
set_option linter.unusedSimpArgs false
attribute [local go_sem] max2_int min2_int max_two min_two
theorem R_rebase {w : World} {b b' : Nat} {ok : Nat → Prop} {v : Value} {l : List S35} (h : Kd.R k35 35 w b ok v l) (hb : b' ≤ b) : Kd.R k35 35 w b' ok v l := by
  obtain ⟨hok, inner, ⟨hl, ho⟩, hr⟩ := h
  refine ⟨hok, inner, ⟨hl, ?_⟩, hr⟩
  rcases ho with ho | ⟨g', cap, cur, hv, hbb, hrest⟩
  · exact .inl ho
  · exact .inr ⟨g', cap, cur, hv, Nat.le_trans hb hbb, hrest⟩
structure RB (s : RSt) (i : Nat) : Prop where
  l0 : 0 ≤ s.lo
  lh : s.lo ≤ s.hi
  h1 : s.hi ≤ 4611686018427387903
  na : s.a.length ≤ i
  nb : s.b.length ≤ i
theorem RB.step {s : RSt} {i : Nat} (h : RB s i) {x : S35} (hx : 0 ≤ x.f0 ∧ x.f0 ≤ x.f1 ∧ x.f1 ≤ 4611686018427387903) : RB (rstep s x) (i + 1) := by
  obtain ⟨h1, h2, h3, h4, h5⟩ := h
  unfold rstep
  split
  · exact ⟨h1, h2, h3, by rw [List.length_append]; exact Nat.succ_le_succ h4, by dsimp only; omega⟩
  · split
    · exact ⟨h1, h2, h3, by dsimp only; omega, by rw [List.length_append]; exact Nat.succ_le_succ h5⟩
    · exact ⟨by dsimp only; omega, by dsimp only; omega, by dsimp only; omega, by dsimp only; omega, by dsimp only; omega⟩
theorem RQ.make {w0 w1 w2 w7 : World} {g : Nat} {v v7 : Value} {l o : List S35} (h : RG w0.heap.size w2 g l v) (hB : Below w0.heap.size w0 w2) (hg : w0.heap.size ≤ g) (h12 : Below w1.heap.size w1 w2) (hR : Kd.R k35 35 w7 w2.heap.size (fun _ => True) v7 o) (h27 : Below w2.heap.size w2 w7) : RQ w0 w1 (w7.setCell ⟨g, 0, none⟩ v7) g v v7 o := by
  have hlt := blk_lt h.blk
  refine ⟨⟨blk_set (blk_below h.blk h27) 0 v7, R_rebase (Kd.R_far (Kd.R_reok (ok := fun k => k ≠ g) rfl hR (fun k hk => show k ≠ g from by have := Kd.R_base hR k hk; omega)) (p := ⟨g, 0, none⟩) (fun k hk => hk) _) hB.size⟩, below_set (below_step hB h27) hg, ⟨?_, fun k hk hne _ => ?_⟩, ?_⟩
  · exact Nat.le_trans (Nat.le_trans h12.size h27.size) (Nat.le_of_eq (World.size_setCell _ _ _).symm)
  · exact (Below.heap_setCell w7 ⟨g, 0, none⟩ v7 k hne).trans ((h27.block k (Nat.lt_of_lt_of_le hk h12.size)).trans (h12.block k hk))
  · rcases Kd.R_base2 hR with ho | ⟨k, ho, hk⟩
    · exact .inr (.inl ho)
    · exact .inr (.inr ⟨k, ho, Nat.le_trans h12.size hk⟩)
theorem RQ.again {w0 w1 w2 w7 : World} {g : Nat} {v v7 v8 : Value} {l o o8 : List S35} (h : RG w0.heap.size w2 g l v) (hB : Below w0.heap.size w0 w2) (hg : w0.heap.size ≤ g) (h12 : Below w1.heap.size w1 w2) (hR : Kd.R k35 35 w7 w2.heap.size (fun _ => True) v7 o) (h27 : Below w2.heap.size w2 w7) (hR8 : Kd.R k35 35 w7 w2.heap.size (fun _ => True) v8 o8) : RQ w0 w1 ((w7.setCell ⟨g, 0, none⟩ v7).setCell ⟨g, 0, none⟩ v8) g v v8 o8 := by
  have q := RQ.make h hB hg h12 hR h27
  have q8 := RQ.make h hB hg h12 hR8 h27
  have hlt := blk_lt h.blk
  have r8 := Kd.R_reok (ok := fun k => k ≠ g) rfl hR8 (fun k hk => show k ≠ g from by have := Kd.R_base hR8 k hk; omega)
  exact ⟨⟨blk_set q.lg.blk 0 v8, R_rebase (Kd.R_far (Kd.R_far r8 (p := ⟨g, 0, none⟩) (fun k hk => hk) _) (p := ⟨g, 0, none⟩) (fun k hk => hk) _) hB.size⟩, below_set q.bel hg, q.keep.set_ 0 _, q8.own⟩
set_option maxHeartbeats 8000000 in
set_option maxRecDepth 100000 in
theorem radd_bad (w0 w1 : World) (g : Nat) (v : Value) (l : List S35) (lo hi : Int) (h : RG w0.heap.size w1 g l v) (hB : Below w0.heap.size w0 w1) (hbad : fineB ⟨lo, hi⟩ = false) :
    Calls Try.prog 18 #[.pointer (some ⟨g, 0, none⟩), .int .i64 lo, .int .i64 hi] w1 fun e w' => e = .returned (.int .i64 2) ∧ RQ w0 w1 w' g v v l := by
  have HF := Aside0.mk hbad
  have HL := Aside0.mk h
  have HB := Aside0.mk hB
  clear hbad h hB
  go_enter Try.func18, Try.ntmps18
  go_wp2_with (go_at_call 21; (with_reducible refine (rfine_c lo hi _).mono ?_); rintro e_ w2 ⟨rfl, hd⟩; rw [HF.out]; have HB2 := Aside0.mk (below_drawn0 (Below.refl w1.heap.size w1) hd); clear hd)
  go_ret
  exact ⟨rfl, HL.out.below HB2.out, below_step HB.out HB2.out, ⟨HB2.out.size, fun k hk _ _ => HB2.out.block k hk⟩, .inl rfl⟩
set_option maxHeartbeats 8000000 in
set_option maxRecDepth 100000 in
theorem radd_ok (w0 w1 : World) (g : Nat) (v : Value) (l : List S35) (lo hi : Int) (h : RG w0.heap.size w1 g l v) (hB : Below w0.heap.size w0 w1) (hg : w0.heap.size ≤ g) (hok : fineB ⟨lo, hi⟩ = true) (hfl : ∀ x ∈ l, 0 ≤ x.f0 ∧ x.f0 ≤ x.f1 ∧ x.f1 ≤ 4611686018427387903) (hn : l.length ≤ 100000) :
    Calls Try.prog 18 #[.pointer (some ⟨g, 0, none⟩), .int .i64 lo, .int .i64 hi] w1 fun e w' => ∃ v', e = .returned (.int .i64 0) ∧ RQ w0 w1 w' g v v' (raddL l lo hi) := by
  obtain ⟨A, c, rfl⟩ := Kd.R_slice h.row
  have HOK := Aside0.mk hok
  have HL := Aside0.mk h
  have HB := Aside0.mk hB
  have HG := Aside0.mk hg
  have HFL := Aside0.mk hfl
  have HN := Aside0.mk hn
  clear hok h hB hg hfl hn
  go_enter Try.func18, Try.ntmps18
  go_wp2_with (go_at_call 21; (with_reducible refine (rfine_c lo hi _).mono ?_); rintro e_ w2 ⟨rfl, hd⟩; rw [HOK.out]; have HB2 := Aside0.mk (below_drawn0 (Below.refl w1.heap.size w1) hd); clear hd)
  have HL2 := Aside0.mk (HL.out.below HB2.out)
  have HB02 := Aside0.mk (below_step HB.out HB2.out)
  go_loopw [1, 2, 7, 8, 9, 10] (fun v1 v2 v7 v8 v9 v10 wr => ∃ (i : Nat) (s : RSt), v9 = .int .i64 (i : Int) ∧ v1 = .int .i64 s.lo ∧ v2 = .int .i64 s.hi ∧ Aside0 (i ≤ l.length) ∧ Aside0 (rfold (l.take i) lo hi = s) ∧ Aside0 (RB s i) ∧ Aside0 (Parts w2 wr v7 v8 s.a s.b)) (fun _ _ _ _ v9 _ _ => ((l.length : Int) - intOf v9).toNat)
  case atStart => exact ⟨0, ⟨[], lo, hi, []⟩, rfl, rfl, rfl, ⟨Nat.zero_le _⟩, ⟨rfl⟩, ⟨by have f := (fineB_iff _).1 HOK.out; exact ⟨f.1, f.2.1, f.2.2, Nat.le_refl _, Nat.le_refl _⟩⟩, ⟨Parts.start w2⟩⟩
  case round =>
    obtain ⟨i, s, rfl, rfl, rfl, HI, HF, HRB, HP⟩ := hrel
    obtain ⟨sa, slo, shi, sb⟩ := s
    dsimp only at HP
    have HLr := Aside0.mk (HL2.out.below HP.out.bel)
    have c0 := (show _ = some (Value.slice A l.length c) from (blk_cell HLr.out.blk 0).trans rfl)
    by_cases d1 : i < l.length
    · have M1 : decide ((i : Int) < (l.length : Int)) = true := decide_eq_true (by omega)
      have M1' : decide (i < l.length) = true := decide_eq_true d1
      have hw1 : wrap64 ((i : Int) + 1) = ((i + 1 : Nat) : Int) := by have := HN.out; unfold wrap64; omega
      have hw2 : IntKind.i64.wrap ((i : Int) + 1) = ((i + 1 : Nat) : Int) := (i64_w _).trans hw1
      obtain ⟨ad, hA, x0, x1⟩ := at35 (Kd.R_reads' HLr.out.row).2.2 i d1
      subst hA
      have hx := HFL.out _ (getD_mem d1)
      have HT := Aside0.mk (rfold_step d1 lo hi)
      generalize l.getD i z35 = x at x0 x1 hx HT
      obtain ⟨f0, f1⟩ := x
      dsimp only at x0 x1 hx
      have HX := Aside0.mk hx
      have HLEN := Aside0.mk (show sa.length ≤ 100000 ∧ sb.length ≤ 100000 by have h1 := HRB.out.na; have h2 := HRB.out.nb; have := HI.out; have := HN.out; dsimp only at h1 h2; omega)
      have hbox := blk_new wr (.cells #[.int .i64 f0, .int .i64 f1] 35)
      have hb : Below wr.heap.size wr (wr.alloc (.cells #[.int .i64 f0, .int .i64 f1] 35)) := below_alloc (Below.refl _ _) _
      obtain ⟨wp, hwp⟩ : ∃ wp, wr.alloc (.cells #[.int .i64 f0, .int .i64 f1] 35) = wp := ⟨_, rfl⟩
      rw [hwp] at hb hbox
      have HPp := Aside0.mk (HP.out.below hb)
      have g0 := (show _ = some (Value.int .i64 f0) from (blk_cell hbox 0).trans rfl)
      have g1 := (show _ = some (Value.int .i64 f1) from (blk_cell hbox 1).trans rfl)
      have p1 : ((i : Int) < (l.length : Int)) = True := eq_true (by omega)
      have p3 := eq_true d1
      have HJ := Aside0.mk d1
      have hr1 := HRB.out.l0
      have hr2 := HRB.out.lh
      have hr3 := HRB.out.h1
      dsimp only at hr1 hr2 hr3
      clear d1 hbox hb
      by_cases e1 : shi < f0
      · have E1 : decide (f0 > shi) = true := decide_eq_true e1
        have E1' : decide (shi < f0) = true := decide_eq_true e1
        have W1 : wrap64 (f0 - shi) = f0 - shi := by clear hw1 hw2; unfold wrap64; omega
        have W2 : IntKind.i64.wrap (f0 - shi) = f0 - shi := (i64_w _).trans W1
        obtain ⟨d, hd⟩ : ∃ d, f0 - shi = d := ⟨_, rfl⟩
        by_cases e2 : 1 < d
        · have E2 : decide (d > 1) = true := decide_eq_true e2
          have E2' : decide (1 < d) = true := decide_eq_true e2
          have HC := Aside0.mk (show shi + 1 < f0 by clear hw1 hw2 W1 W2; omega)
          replace W1 := W1.trans hd; replace W2 := W2.trans hd
          clear hd e1 e2 hx hr1 hr2 hr3
          go_wp2_with ((with_reducible refine gate_builtin (b := .append) (xs := #[.tmp 51, .tmp 53]) rfl ?_); at_builtin; refine Kd.R_append k35 (w0 := wp) w2.heap.size rfl (.tmp 51) (.tmp 53) 22 35 (.agg #[.int .i64 0, .int .i64 0]) 16 rfl Try.underlying22 rinfo35_ rfl (by decide) (by omega) _ sa ⟨f0, f1⟩ [.int .i64 f0, .int .i64 f1] (fun _ => True) (fun _ => False) rfl rfl ?aP1 (fun _ hk => hk.elim) (fun _ _ => trivial) HPp.out.ra (Below.refl _ _) ?aS1 ?aL1 ?_; (case aP1 => exact k35_mkM _ _ _ _); (case aS1 => exact HPp.out.bel.size); (case aL1 => have := HLEN.out; omega); intro v6 w6 hR6 hB6 hg6 hat; have H6 := Aside0.mk (HPp.out.app hR6 hg6 hat); clear hR6 hB6 hg6 hat)
          go_roundw
          case rel =>
            have hq : rfold (l.take (i + 1)) lo hi = ⟨sa ++ [⟨f0, f1⟩], slo, shi, sb⟩ := by
              rw [HT.out, HF.out]
              unfold rstep
              dsimp only
              rw [if_pos HC.out]
            have hrb : RB ⟨sa ++ [⟨f0, f1⟩], slo, shi, sb⟩ (i + 1) := by rw [← hq, HT.out, HF.out]; exact HRB.out.step HX.out
            exact ⟨i + 1, ⟨sa ++ [⟨f0, f1⟩], slo, shi, sb⟩, by first | rfl | simp, rfl, rfl, ⟨by have := HJ.out; omega⟩, ⟨hq⟩, ⟨hrb⟩, H6⟩
          case measure => have := HJ.out; simp [intOf]; omega
        · have E2 : decide (d > 1) = false := decide_eq_false e2
          have E2' : decide (1 < d) = false := decide_eq_false e2
          have E3 : decide (slo > f1) = false := decide_eq_false (by clear hw1 hw2 W1 W2; omega)
          have E3' : decide (f1 < slo) = false := E3
          obtain ⟨mn, hmn⟩ : ∃ q, min slo f0 = q := ⟨_, rfl⟩
          obtain ⟨mx, hmx⟩ : ∃ q, max shi f1 = q := ⟨_, rfl⟩
          have Hmn := Aside0.mk hmn
          have Hmx := Aside0.mk hmx
          have HC := Aside0.mk (show ¬(shi + 1 < f0) ∧ ¬(f1 + 1 < slo) from ⟨by clear hw1 hw2 hmn hmx; (try clear W1 W2); omega, by clear hw1 hw2 hmn hmx; (try clear W1 W2); omega⟩)
          clear hmn hmx
          have mn0 : min slo f0 = mn := Hmn.out
          have mn1 : (if slo ≤ f0 then slo else f0) = mn := by rw [← Hmn.out]; split <;> omega
          have mn2 : (if slo < f0 then slo else f0) = mn := by rw [← Hmn.out]; split <;> omega
          have mn3 : (if f0 ≤ slo then f0 else slo) = mn := by rw [← Hmn.out]; split <;> omega
          have mn4 : (if f0 < slo then f0 else slo) = mn := by rw [← Hmn.out]; split <;> omega
          have mx0 : max shi f1 = mx := Hmx.out
          have mx1 : (if shi ≤ f1 then f1 else shi) = mx := by rw [← Hmx.out]; split <;> omega
          have mx2 : (if shi < f1 then f1 else shi) = mx := by rw [← Hmx.out]; split <;> omega
          have mx3 : (if f1 ≤ shi then shi else f1) = mx := by rw [← Hmx.out]; split <;> omega
          have mx4 : (if f1 < shi then shi else f1) = mx := by rw [← Hmx.out]; split <;> omega
          replace W1 := W1.trans hd
          replace W2 := W2.trans hd
          clear hd e1 e2 hx hr1 hr2 hr3
          go_wp2_with (fail)
          go_roundw
          case rel =>
            have hq : rfold (l.take (i + 1)) lo hi = ⟨sa, mn, mx, sb⟩ := by
              rw [HT.out, HF.out]
              unfold rstep
              dsimp only
              rw [if_neg HC.out.1, if_neg HC.out.2, Hmn.out, Hmx.out]
            have hrb : RB ⟨sa, mn, mx, sb⟩ (i + 1) := by rw [← hq, HT.out, HF.out]; exact HRB.out.step HX.out
            exact ⟨i + 1, ⟨sa, mn, mx, sb⟩, by first | rfl | simp, rfl, rfl, ⟨by have := HJ.out; omega⟩, ⟨hq⟩, ⟨hrb⟩, HPp⟩
          case measure => have := HJ.out; simp [intOf]; omega
      · have E1 : decide (f0 > shi) = false := decide_eq_false e1
        have E1' : decide (shi < f0) = false := decide_eq_false e1
        by_cases e3 : f1 < slo
        · have E3 : decide (slo > f1) = true := decide_eq_true e3
          have E3' : decide (f1 < slo) = true := decide_eq_true e3
          have W1 : wrap64 (slo - f1) = slo - f1 := by clear hw1 hw2; unfold wrap64; omega
          have W2 : IntKind.i64.wrap (slo - f1) = slo - f1 := (i64_w _).trans W1
          obtain ⟨d, hd⟩ : ∃ d, slo - f1 = d := ⟨_, rfl⟩
          by_cases e2 : 1 < d
          · have E2 : decide (d > 1) = true := decide_eq_true e2
            have E2' : decide (1 < d) = true := decide_eq_true e2
            have HC := Aside0.mk (show ¬(shi + 1 < f0) ∧ f1 + 1 < slo from ⟨by clear hw1 hw2 W1 W2; omega, by clear hw1 hw2 W1 W2; omega⟩)
            replace W1 := W1.trans hd; replace W2 := W2.trans hd
            clear hd e1 e2 e3 hx hr1 hr2 hr3
            go_wp2_with ((with_reducible refine gate_builtin (b := .append) (xs := #[.tmp 67, .tmp 69]) rfl ?_); at_builtin; refine Kd.R_append k35 (w0 := wp) w2.heap.size rfl (.tmp 67) (.tmp 69) 22 35 (.agg #[.int .i64 0, .int .i64 0]) 16 rfl Try.underlying22 rinfo35_ rfl (by decide) (by omega) _ sb ⟨f0, f1⟩ [.int .i64 f0, .int .i64 f1] (fun _ => True) (fun _ => False) rfl rfl ?aP2 (fun _ hk => hk.elim) (fun _ _ => trivial) HPp.out.rb (Below.refl _ _) ?aS2 ?aL2 ?_; (case aP2 => exact k35_mkM _ _ _ _); (case aS2 => exact HPp.out.bel.size); (case aL2 => have := HLEN.out; omega); intro v6 w6 hR6 hB6 hg6 hat; have H6 := Aside0.mk (HPp.out.swap.app hR6 hg6 hat).swap; clear hR6 hB6 hg6 hat)
            go_roundw
            case rel =>
              have hq : rfold (l.take (i + 1)) lo hi = ⟨sa, slo, shi, sb ++ [⟨f0, f1⟩]⟩ := by
                rw [HT.out, HF.out]
                unfold rstep
                dsimp only
                rw [if_neg HC.out.1, if_pos HC.out.2]
              have hrb : RB ⟨sa, slo, shi, sb ++ [⟨f0, f1⟩]⟩ (i + 1) := by rw [← hq, HT.out, HF.out]; exact HRB.out.step HX.out
              exact ⟨i + 1, ⟨sa, slo, shi, sb ++ [⟨f0, f1⟩]⟩, by first | rfl | simp, rfl, rfl, ⟨by have := HJ.out; omega⟩, ⟨hq⟩, ⟨hrb⟩, H6⟩
            case measure => have := HJ.out; simp [intOf]; omega
          · have E2 : decide (d > 1) = false := decide_eq_false e2
            have E2' : decide (1 < d) = false := decide_eq_false e2
            obtain ⟨mn, hmn⟩ : ∃ q, min slo f0 = q := ⟨_, rfl⟩
            obtain ⟨mx, hmx⟩ : ∃ q, max shi f1 = q := ⟨_, rfl⟩
            have Hmn := Aside0.mk hmn
            have Hmx := Aside0.mk hmx
            have HC := Aside0.mk (show ¬(shi + 1 < f0) ∧ ¬(f1 + 1 < slo) from ⟨by clear hw1 hw2 hmn hmx; (try clear W1 W2); omega, by clear hw1 hw2 hmn hmx; (try clear W1 W2); omega⟩)
            clear hmn hmx
            have mn0 : min slo f0 = mn := Hmn.out
            have mn1 : (if slo ≤ f0 then slo else f0) = mn := by rw [← Hmn.out]; split <;> omega
            have mn2 : (if slo < f0 then slo else f0) = mn := by rw [← Hmn.out]; split <;> omega
            have mn3 : (if f0 ≤ slo then f0 else slo) = mn := by rw [← Hmn.out]; split <;> omega
            have mn4 : (if f0 < slo then f0 else slo) = mn := by rw [← Hmn.out]; split <;> omega
            have mx0 : max shi f1 = mx := Hmx.out
            have mx1 : (if shi ≤ f1 then f1 else shi) = mx := by rw [← Hmx.out]; split <;> omega
            have mx2 : (if shi < f1 then f1 else shi) = mx := by rw [← Hmx.out]; split <;> omega
            have mx3 : (if f1 ≤ shi then shi else f1) = mx := by rw [← Hmx.out]; split <;> omega
            have mx4 : (if f1 < shi then shi else f1) = mx := by rw [← Hmx.out]; split <;> omega
            replace W1 := W1.trans hd
            replace W2 := W2.trans hd
            clear hd e1 e2 e3 hx hr1 hr2 hr3
            go_wp2_with (fail)
            go_roundw
            case rel =>
              have hq : rfold (l.take (i + 1)) lo hi = ⟨sa, mn, mx, sb⟩ := by
                rw [HT.out, HF.out]
                unfold rstep
                dsimp only
                rw [if_neg HC.out.1, if_neg HC.out.2, Hmn.out, Hmx.out]
              have hrb : RB ⟨sa, mn, mx, sb⟩ (i + 1) := by rw [← hq, HT.out, HF.out]; exact HRB.out.step HX.out
              exact ⟨i + 1, ⟨sa, mn, mx, sb⟩, by first | rfl | simp, rfl, rfl, ⟨by have := HJ.out; omega⟩, ⟨hq⟩, ⟨hrb⟩, HPp⟩
            case measure => have := HJ.out; simp [intOf]; omega
        · have E3 : decide (slo > f1) = false := decide_eq_false e3
          have E3' : decide (f1 < slo) = false := decide_eq_false e3
          obtain ⟨mn, hmn⟩ : ∃ q, min slo f0 = q := ⟨_, rfl⟩
          obtain ⟨mx, hmx⟩ : ∃ q, max shi f1 = q := ⟨_, rfl⟩
          have Hmn := Aside0.mk hmn
          have Hmx := Aside0.mk hmx
          have HC := Aside0.mk (show ¬(shi + 1 < f0) ∧ ¬(f1 + 1 < slo) from ⟨by clear hw1 hw2 hmn hmx; (try clear W1 W2); omega, by clear hw1 hw2 hmn hmx; (try clear W1 W2); omega⟩)
          clear hmn hmx
          have mn0 : min slo f0 = mn := Hmn.out
          have mn1 : (if slo ≤ f0 then slo else f0) = mn := by rw [← Hmn.out]; split <;> omega
          have mn2 : (if slo < f0 then slo else f0) = mn := by rw [← Hmn.out]; split <;> omega
          have mn3 : (if f0 ≤ slo then f0 else slo) = mn := by rw [← Hmn.out]; split <;> omega
          have mn4 : (if f0 < slo then f0 else slo) = mn := by rw [← Hmn.out]; split <;> omega
          have mx0 : max shi f1 = mx := Hmx.out
          have mx1 : (if shi ≤ f1 then f1 else shi) = mx := by rw [← Hmx.out]; split <;> omega
          have mx2 : (if shi < f1 then f1 else shi) = mx := by rw [← Hmx.out]; split <;> omega
          have mx3 : (if f1 ≤ shi then shi else f1) = mx := by rw [← Hmx.out]; split <;> omega
          have mx4 : (if f1 < shi then shi else f1) = mx := by rw [← Hmx.out]; split <;> omega
          clear e1 e3 hx hr1 hr2 hr3
          go_wp2_with (fail)
          go_roundw
          case rel =>
            have hq : rfold (l.take (i + 1)) lo hi = ⟨sa, mn, mx, sb⟩ := by
              rw [HT.out, HF.out]
              unfold rstep
              dsimp only
              rw [if_neg HC.out.1, if_neg HC.out.2, Hmn.out, Hmx.out]
            have hrb : RB ⟨sa, mn, mx, sb⟩ (i + 1) := by rw [← hq, HT.out, HF.out]; exact HRB.out.step HX.out
            exact ⟨i + 1, ⟨sa, mn, mx, sb⟩, by first | rfl | simp, rfl, rfl, ⟨by have := HJ.out; omega⟩, ⟨hq⟩, ⟨hrb⟩, HPp⟩
          case measure => have := HJ.out; simp [intOf]; omega
    · have hi : i = l.length := by have := HI.out; omega
      clear d1 HI
      subst hi
      have HFO := Aside0.mk (show rfold l lo hi = ⟨sa, slo, shi, sb⟩ by have h := HF.out; rwa [List.take_length] at h)
      obtain ⟨Ab, cb, hvb⟩ := Kd.R_slice HP.out.rb
      subst hvb
      obtain ⟨o, ho⟩ : ∃ o, sa ++ [(⟨slo, shi⟩ : S35)] ++ sb = o := ⟨_, rfl⟩
      have HO := Aside0.mk ho
      have HRL := Aside0.mk (show raddL l lo hi = o.take 16 by unfold raddL; rw [HFO.out, ← HO.out]; simp)
      have HLEN := Aside0.mk (show sa.length ≤ 100000 ∧ sb.length ≤ 100000 by have h1 := HRB.out.na; have h2 := HRB.out.nb; have := HN.out; dsimp only at h1 h2; omega)
      clear ho HF
      by_cases hl : 16 < o.length
      · have k1 : decide (16 < o.length) = true := decide_eq_true hl
        have k2 : decide ((o.length : Int) > 16) = true := decide_eq_true (by omega)
        have k3 : decide ((16 : Int) < (o.length : Int)) = true := k2
        have HLO := Aside0.mk hl
        clear hl
        go_wp2_with (first | ((with_reducible refine gate_builtin (b := .append) (xs := #[.tmp 72, .tmp 76]) rfl ?_); at_builtin; refine Kd.R_append k35 (w0 := wr) w2.heap.size rfl (.tmp 72) (.tmp 76) 22 35 (.agg #[.int .i64 0, .int .i64 0]) 16 rfl Try.underlying22 rinfo35_ rfl (by decide) (by omega) _ sa ⟨slo, shi⟩ [.int .i64 slo, .int .i64 shi] (fun _ => True) (fun _ => False) rfl rfl ?aP6 (fun _ hk => hk.elim) (fun _ _ => trivial) HP.out.ra (Below.refl _ _) ?aS6 ?aL6 ?_; (case aP6 => exact k35_mkM _ _ _ _); (case aS6 => exact HP.out.bel.size); (case aL6 => have := HLEN.out; omega); intro v6 w6 hR6 hB6 hg6 hat; have H6 := Aside0.mk (HP.out.app hR6 hg6 hat); clear hR6 hB6 hg6 hat) | ((with_reducible refine gate_builtin (b := .append) (xs := #[.tmp 77, .tmp 78]) rfl ?_); at_builtin; refine Kd.R_append_rows k35 (w0 := w2) w2.heap.size rfl (.tmp 77) (.tmp 78) 22 35 (.agg #[.int .i64 0, .int .i64 0]) 16 rfl Try.underlying22 rinfo35_ rfl (by decide) (by omega) v6 _ sb _ _ _ (fun _ => True) (fun _ => False) rfl rfl H6.out.ra (Kd.R_reads' H6.out.rb).2.2 (fun _ _ h => h) (fun _ h => h.elim) (fun _ _ => trivial) H6.out.bel ?aS8 ?aL8 ?_; (case aS8 => exact H6.out.bel.size); (case aL8 => have := HLEN.out; rw [List.length_append]; simp only [List.length_cons, List.length_nil]; omega); intro v7 w7 hR hB hg_ hat; rw [HO.out] at hR; obtain ⟨A7, c7, rfl⟩ := Kd.R_slice hR; have HR7 := Aside0.mk hR; have HB7 := Aside0.mk hB; have b7 := blk_below HL2.out.blk hB; have d7 := (blk_cell b7 0).trans (rfl : _ = some (Value.slice A l.length c)); have f7 := blk_frozen b7 0; have r7 := (Kd.R_reads' hR).2.1; clear hR hB hg_ hat b7; (try (have k4 : ((16 : Int) ≤ (c7 : Int)) = True := eq_true (by have := HLO.out; omega); have k5 : (16 ≤ c7) = True := eq_true (by have := HLO.out; omega))); clear r7))
        go_ret
        have e16 : (o.take 16).length = 16 := by rw [List.length_take]; have := HLO.out; omega
        have r8 := Kd.R_take HR7.out (show 16 ≤ o.length by have := HLO.out; omega)
        exact ⟨_, rfl, by rw [HRL.out]; exact RQ.again HL2.out HB02.out HG.out HB2.out HR7.out HB7.out r8⟩
      · have k1 : decide (16 < o.length) = false := decide_eq_false hl
        have k2 : decide ((o.length : Int) > 16) = false := decide_eq_false (by omega)
        have k3 : decide ((16 : Int) < (o.length : Int)) = false := k2
        have HLO := Aside0.mk hl
        clear hl
        go_wp2_with (first | ((with_reducible refine gate_builtin (b := .append) (xs := #[.tmp 72, .tmp 76]) rfl ?_); at_builtin; refine Kd.R_append k35 (w0 := wr) w2.heap.size rfl (.tmp 72) (.tmp 76) 22 35 (.agg #[.int .i64 0, .int .i64 0]) 16 rfl Try.underlying22 rinfo35_ rfl (by decide) (by omega) _ sa ⟨slo, shi⟩ [.int .i64 slo, .int .i64 shi] (fun _ => True) (fun _ => False) rfl rfl ?aP6 (fun _ hk => hk.elim) (fun _ _ => trivial) HP.out.ra (Below.refl _ _) ?aS6 ?aL6 ?_; (case aP6 => exact k35_mkM _ _ _ _); (case aS6 => exact HP.out.bel.size); (case aL6 => have := HLEN.out; omega); intro v6 w6 hR6 hB6 hg6 hat; have H6 := Aside0.mk (HP.out.app hR6 hg6 hat); clear hR6 hB6 hg6 hat) | ((with_reducible refine gate_builtin (b := .append) (xs := #[.tmp 77, .tmp 78]) rfl ?_); at_builtin; refine Kd.R_append_rows k35 (w0 := w2) w2.heap.size rfl (.tmp 77) (.tmp 78) 22 35 (.agg #[.int .i64 0, .int .i64 0]) 16 rfl Try.underlying22 rinfo35_ rfl (by decide) (by omega) v6 _ sb _ _ _ (fun _ => True) (fun _ => False) rfl rfl H6.out.ra (Kd.R_reads' H6.out.rb).2.2 (fun _ _ h => h) (fun _ h => h.elim) (fun _ _ => trivial) H6.out.bel ?aS8 ?aL8 ?_; (case aS8 => exact H6.out.bel.size); (case aL8 => have := HLEN.out; rw [List.length_append]; simp only [List.length_cons, List.length_nil]; omega); intro v7 w7 hR hB hg_ hat; rw [HO.out] at hR; obtain ⟨A7, c7, rfl⟩ := Kd.R_slice hR; have HR7 := Aside0.mk hR; have HB7 := Aside0.mk hB; have b7 := blk_below HL2.out.blk hB; have d7 := (blk_cell b7 0).trans (rfl : _ = some (Value.slice A l.length c)); have f7 := blk_frozen b7 0; have r7 := (Kd.R_reads' hR).2.1; clear hR hB hg_ hat b7; (try (have k4 : ((16 : Int) ≤ (c7 : Int)) = True := eq_true (by have := HLO.out; omega); have k5 : (16 ≤ c7) = True := eq_true (by have := HLO.out; omega))); clear r7))
        go_ret
        exact ⟨_, rfl, by rw [HRL.out, List.take_of_length_le (by have := HLO.out; omega)]; exact RQ.make HL2.out HB02.out HG.out HB2.out HR7.out HB7.out⟩
end Go.Proofs.Ytanebifiafghnaa.Ack
