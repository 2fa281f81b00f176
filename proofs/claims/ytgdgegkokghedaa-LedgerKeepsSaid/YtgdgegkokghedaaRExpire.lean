/- Layer 10: the ref's Expire. gen/mk_rexpire.py writes this text. -/
import Derived.Test.YtgdgegkokghedaaRLed
namespace Go.Proofs.Ytgdgegkokghedaa.Led
open Go.RowKit Go.Deep Go.Proofs.YtgdgegkokghedaaW.PrintWords Go.Proofs.YtgdgegkokghedaaW.PrintLast Go.Proofs.YtgdgegkokghedaaW.PrintMore Go.Proofs.Ytgdgegkokghedaa.PLedgerKeeps Go.Proofs.Ytgdgegkokghedaa Go.Proofs.Ytgdgegkokghedaa.Walk
set_option linter.unusedVariables false
set_option linter.unusedSimpArgs false
attribute [local go_sem] max2_int min2_int max_two min_two
theorem einfo2_ : (Try.prog.info? 2).map (fun i => (i.zero, i.size, i.bytes)) = some (some (.int .i64 0), 1, 8) := by kernel_rfl
theorem RP.drop {w0 W w1 : World} {g : Nat} {v v1 : Value} {s : LS} (h : RP w0 W w1 g v v1 s) (hg : w0.heap.size ≤ g) : RP w0 W (w1.setCell ⟨g, 0, none⟩ (.slice none 0 0)) g v (.slice none 0 0) { s with fl := [] } :=
  ⟨⟨blk_set h.lg.blk 0 (.slice none 0 0), Kd.R_nil _ _ _ _ _⟩, below_set h.bel hg, h.keep.set_ 0 _, .inr (.inl rfl)⟩
theorem RP.cells (w0 W w1 : World) {g : Nat} {v v1 : Value} {s : LS} (h : RP w0 W w1 g v v1 s) : w1.cell? ⟨g, 0, none⟩ = some v1 ∧ w1.cell? ⟨g, 5, none⟩ = some (.int .i64 s.back) ∧ w1.frozen? ⟨g, 0, none⟩ = false ∧ w1.frozen? ⟨g, 5, none⟩ = false := by
  obtain ⟨a, -, -, -, -, b, f⟩ := h.lg.cells
  exact ⟨a, b, f 0, f 5⟩
structure RExps (w0 W w1 w' : World) (g : Nat) (v : Value) (s' : LS) (ta : List Int) (e : Ending) : Prop where
  out : ∃ va v2, e = .returned va ∧ RP w0 W w' g v v2 s' ∧ Kd.R (Kd.int .i64) 2 w' w1.heap.size (fun _ => True) va ta
theorem eints_later {B base : Nat} {w w2 : World} {g : Nat} {s : LS} {v va : Value} {l : List Int} {ok : Nat → Prop} (hl : RG B w g s v) (hr : Kd.R (Kd.int .i64) 2 w base ok va l) (hk : KeepBut w w2 g v.ownBlock) : Kd.R (Kd.int .i64) 2 w2 base ok va l := by
  have ht := Kd.R_tight2 rfl hr
  refine Kd.R_mono (Kd.R_step ht (fun k hok hlt => hk.2 k hlt (fun he => ?_) (fun he => ?_))) (fun k hk => hk.2)
  · obtain ⟨c1, h1⟩ := Kd.R_typed hr k hok.1.symm
    rw [he, hl.blk] at h1
    injection h1 with h1
    injection h1 with _ h1 _
    exact absurd h1 (by decide)
  · obtain ⟨c1, h1⟩ := Kd.R_typed hr k hok.1.symm
    obtain ⟨c2, h2⟩ := Kd.R_typed hl.row k he.symm
    rw [h1] at h2
    injection h2 with h2
    injection h2 with _ h2 _
    exact absurd h2 (by decide)
theorem any_take (p : S58 → Bool) (l : List S58) (i : Nat) (h : i < l.length) : (l.take (i + 1)).any p = ((l.take i).any p || p (l.getD i z58)) := by
  rw [take58 l i h, List.any_append]
  simp
/-- What the ref's Expire leaves, if something is due. -/
def rexpS (s : LS) : LS := { loseN { s with fl := [] } (Led.nums s.fl) with back := (if 6 < s.back + 1 then 6 else s.back + 1) }
def rexpR (now : Int) (s : LS) : LS × List Int := if dueV now s then (rexpS s, Led.nums s.fl) else (s, [])
set_option maxHeartbeats 8000000 in
set_option maxRecDepth 100000 in
theorem rexpire_c (w0 W w1 : World) (g : Nat) (now : Int) (v v1 : Value) (s : LS) (h : RP w0 W w1 g v v1 s) (hg : w0.heap.size ≤ g) (hI : Inv s) (hn : s.fl.length ≤ 100000) :
    Calls Try.prog 18 #[.pointer (some ⟨g, 0, none⟩), .int .i64 now] w1 fun e w' => RExps w0 W w1 w' g v (rexpR now s).1 (rexpR now s).2 e := by
  obtain ⟨Af, cf, hvf⟩ := Kd.R_slice h.lg.row
  subst hvf
  have HL := Aside0.mk h
  have HG := Aside0.mk hg
  have HI := Aside0.mk hI
  have HN := Aside0.mk hn
  obtain ⟨wt, hwt⟩ : ∃ q, waitV s.back = q := ⟨_, rfl⟩
  have HWT := Aside0.mk hwt
  obtain ⟨e0, e5, f0, f5⟩ := RP.cells _ _ _ h
  clear h hg hI hn hwt
  go_enter Try.func18, Try.ntmps18
  go_wp2_with (fail)
  clear e0 e5 f0 f5
  go_loopw [5, 6, 7] (fun v5 v6 v7 wr => ∃ (i : Nat) (d : Bool) (ol : List Int), v7 = .int .i64 (i : Int) ∧ v5 = .bool d ∧ Aside0 (i ≤ s.fl.length) ∧ Aside0 (d = (s.fl.take i).any (dueP now wt) ∧ ol = Led.nums (s.fl.take i)) ∧ Aside0 (Below w1.heap.size w1 wr) ∧ Aside0 (Kd.R (Kd.int .i64) 2 wr w1.heap.size (fun _ => True) v6 ol)) (fun _ _ v7 _ => ((s.fl.length : Int) - intOf v7).toNat)
  case atStart => exact ⟨0, false, [], rfl, rfl, ⟨Nat.zero_le _⟩, ⟨rfl, rfl⟩, ⟨Below.refl _ _⟩, ⟨Kd.R_nil _ _ _ _ _⟩⟩
  case round =>
    obtain ⟨i, d, ol, rfl, rfl, HIX, HEQ, HB, HR⟩ := hrel
    have HLR := Aside0.mk (HL.out.below HB.out)
    obtain ⟨e0, e5, f0, f5⟩ := RP.cells _ _ _ HLR.out
    by_cases d1 : (i : Int) < (s.fl.length : Int)
    · have M1 : decide ((i : Int) < (s.fl.length : Int)) = true := decide_eq_true d1
      have M1' : decide (i < s.fl.length) = true := decide_eq_true (by omega)
      have n1 : i < s.fl.length := by omega
      have hw1 : wrap64 ((i : Int) + 1) = ((i + 1 : Nat) : Int) := by have := HN.out; unfold wrap64; omega
      have hw2 : IntKind.i64.wrap ((i : Int) + 1) = ((i + 1 : Nat) : Int) := (i64_w _).trans hw1
      obtain ⟨ad, hA, rows⟩ := crow58 (Kd.R_reads' HLR.out.lg.row).2.2 (i : Int) (by omega) d1
      subst hA
      obtain ⟨x0, x1, x2⟩ := rows wr (Below.refl _ _)
      rw [Int.toNat_natCast] at x0 x1 x2
      have hd := any_take (dueP now wt) s.fl i n1
      have hnum : Led.nums (s.fl.take (i + 1)) = Led.nums (s.fl.take i) ++ [(s.fl.getD i z58).f0] := by rw [take58 s.fl i n1]; unfold Led.nums; rw [List.map_append]; rfl
      generalize s.fl.getD i z58 = x at x0 x1 x2 hd hnum
      obtain ⟨n, at_, z⟩ := x
      dsimp only at x0 x1 x2 hd hnum
      have HNUM := Aside0.mk hnum
      have HD := Aside0.mk hd
      have HLEN := Aside0.mk (show ol.length ≤ 100000 by rw [HEQ.out.2]; unfold Led.nums; rw [List.length_map, List.length_take]; have := HN.out; omega)
      have hbox := blk_new wr (.cells #[.int .i64 n, .int .i64 at_, .int .i64 z] 69)
      have hb : Below wr.heap.size wr (wr.alloc (.cells #[.int .i64 n, .int .i64 at_, .int .i64 z] 69)) := below_alloc (Below.refl _ _) _
      obtain ⟨wp, hwp⟩ : ∃ wp, wr.alloc (.cells #[.int .i64 n, .int .i64 at_, .int .i64 z] 69) = wp := ⟨_, rfl⟩
      rw [hwp] at hb hbox
      have HX := Aside0.mk hbox
      have HBP := Aside0.mk (below_step HB.out hb)
      have HRP := Aside0.mk (Kd.R_below HR.out hb)
      have HLP := Aside0.mk (HLR.out.below hb)
      have c0 := (show _ = some (Value.int .i64 n) from (blk_cell hbox 0).trans rfl)
      have c1 := (show _ = some (Value.int .i64 at_) from (blk_cell hbox 1).trans rfl)
      have HJ := Aside0.mk d1
      have p1 := eq_true d1
      have p2 : ((i : Int) < (s.fl.length : Int)) = True := p1
      have p3 := eq_true n1
      clear d1 n1 rows hd hnum hbox hb
      cases d with
      | true =>
        go_wp2_with (fail)
        go_region
        simp only [Exit.then]
        have HBZ := Aside0.mk (show Below w1.heap.size w1 (wp.drew) from below_drew1 HBP.out)
        have HRZ := Aside0.mk (Kd.R_below HRP.out (show Below wp.heap.size wp (wp.drew) from below_drew1 (Below.refl _ _)))
        have g0 := (show (wp.drew).cell? ⟨wr.heap.size, 0, none⟩ = some (.int .i64 n) from c0)
        go_wp2_with ((with_reducible refine gate_builtin (b := .append) (xs := #[.tmp 44, .tmp 47]) rfl ?_); at_builtin; refine Kd.R_append (Kd.int .i64) (w0 := wp.drew) w1.heap.size rfl (.tmp 44) (.tmp 47) 30 2 (.int .i64 0) 8 rfl Try.underlying30 einfo2_ rfl (by decide) (by omega) _ ol n [.int .i64 n] (fun _ => True) (fun _ => False) rfl rfl ?aP (fun _ hk => hk.elim) (fun _ _ => trivial) HRZ.out (Below.refl _ _) ?aS ?aL ?_; (case aP => rfl); (case aS => exact HBZ.out.size); (case aL => have := HLEN.out; omega); intro v6 w6 hR6 hB6 hg6 hat; have H6 := Aside0.mk hR6; have HB6 := Aside0.mk (HBZ.out.grown hg6 HBZ.out.size (fun j hj => Kd.R_base HRZ.out j hj)); clear hR6 hB6 hg6 hat)
        go_roundw
        case rel =>
          refine ⟨i + 1, true, ol ++ [n], by first | rfl | simp, by first | rfl | simp, ⟨by have := HJ.out; omega⟩, ⟨?_, ?_⟩, HB6, H6⟩
          · rw [HD.out, ← HEQ.out.1]; rfl
          · rw [HNUM.out, ← HEQ.out.2]
        case measure => have := HJ.out; simp [intOf]; omega
      | false =>
        by_cases c : now > at_
        · have E1 : decide (now > at_) = true := decide_eq_true c
          have E2 : decide (at_ < now) = true := decide_eq_true c
          have hdp : dueP now wt ⟨n, at_, z⟩ = decide (IntKind.u64.wrap wt ≤ IntKind.u64.wrap (IntKind.u64.wrap now - IntKind.u64.wrap at_)) := by unfold dueP; dsimp only; rw [E1, Bool.true_and]
          have HDP := Aside0.mk hdp
          have HWC := Aside0.mk (show ∀ n, Calls Try.prog 22 #[.pointer (some ⟨g, 0, none⟩)] (wp.drewN n) fun e w' => e = .returned (.int .i64 wt) ∧ ∃ m, w' = (wp.drewN n).drewN m from fun n => (rwait_c g _ s _ (wp.drewN n) (HLP.out.below (pw_below_drewN (Below.refl _ _) n)).lg HI.out.b0 HI.out.b1).mono (fun e w' h => ⟨by rw [← HWT.out]; exact h.1, by obtain ⟨m, hm⟩ := h.2; exact ⟨m, hm⟩⟩))
          clear c hdp
          go_wp2_with (fail)
          go_quiet (first | (go_at_call 22; refine Calls.quiet_of (HWC.out _)))
          simp only [Exit.then]
          have HBZ := Aside0.mk (show Below w1.heap.size w1 (wp.drewN nq) from pw_below_drewN HBP.out nq)
          have HRZ := Aside0.mk (Kd.R_below HRP.out (show Below wp.heap.size wp (wp.drewN nq) from pw_below_drewN (Below.refl _ _) nq))
          have g0 := ((pw_below_drewN (Below.refl wp.heap.size wp) nq).cell (blk_lt HX.out)).trans c0
          go_wp2_with ((with_reducible refine gate_builtin (b := .append) (xs := #[.tmp 44, .tmp 47]) rfl ?_); at_builtin; refine Kd.R_append (Kd.int .i64) (w0 := wp.drewN nq) w1.heap.size rfl (.tmp 44) (.tmp 47) 30 2 (.int .i64 0) 8 rfl Try.underlying30 einfo2_ rfl (by decide) (by omega) _ ol n [.int .i64 n] (fun _ => True) (fun _ => False) rfl rfl ?aP (fun _ hk => hk.elim) (fun _ _ => trivial) HRZ.out (Below.refl _ _) ?aS ?aL ?_; (case aP => rfl); (case aS => exact HBZ.out.size); (case aL => have := HLEN.out; omega); intro v6 w6 hR6 hB6 hg6 hat; have H6 := Aside0.mk hR6; have HB6 := Aside0.mk (HBZ.out.grown hg6 HBZ.out.size (fun j hj => Kd.R_base HRZ.out j hj)); clear hR6 hB6 hg6 hat)
          go_roundw
          case rel =>
            refine ⟨i + 1, (decide (IntKind.u64.wrap wt ≤ IntKind.u64.wrap (IntKind.u64.wrap now - IntKind.u64.wrap at_))), ol ++ [n], by first | rfl | simp, by first | rfl | simp, ⟨by have := HJ.out; omega⟩, ⟨?_, ?_⟩, HB6, H6⟩
            · rw [HD.out, ← HEQ.out.1, HDP.out]; rfl
            · rw [HNUM.out, ← HEQ.out.2]
          case measure => have := HJ.out; simp [intOf]; omega
        · have E1 : decide (now > at_) = false := decide_eq_false c
          have E2 : decide (at_ < now) = false := decide_eq_false c
          have hdp : dueP now wt ⟨n, at_, z⟩ = false := by unfold dueP; dsimp only; rw [E1, Bool.false_and]
          have HDP := Aside0.mk hdp
          clear c hdp
          go_wp2_with (fail)
          go_region
          simp only [Exit.then]
          have HBZ := Aside0.mk (show Below w1.heap.size w1 (wp.drew) from below_drew1 HBP.out)
          have HRZ := Aside0.mk (Kd.R_below HRP.out (show Below wp.heap.size wp (wp.drew) from below_drew1 (Below.refl _ _)))
          have g0 := (show (wp.drew).cell? ⟨wr.heap.size, 0, none⟩ = some (.int .i64 n) from c0)
          go_wp2_with ((with_reducible refine gate_builtin (b := .append) (xs := #[.tmp 44, .tmp 47]) rfl ?_); at_builtin; refine Kd.R_append (Kd.int .i64) (w0 := wp.drew) w1.heap.size rfl (.tmp 44) (.tmp 47) 30 2 (.int .i64 0) 8 rfl Try.underlying30 einfo2_ rfl (by decide) (by omega) _ ol n [.int .i64 n] (fun _ => True) (fun _ => False) rfl rfl ?aP (fun _ hk => hk.elim) (fun _ _ => trivial) HRZ.out (Below.refl _ _) ?aS ?aL ?_; (case aP => rfl); (case aS => exact HBZ.out.size); (case aL => have := HLEN.out; omega); intro v6 w6 hR6 hB6 hg6 hat; have H6 := Aside0.mk hR6; have HB6 := Aside0.mk (HBZ.out.grown hg6 HBZ.out.size (fun j hj => Kd.R_base HRZ.out j hj)); clear hR6 hB6 hg6 hat)
          go_roundw
          case rel =>
            refine ⟨i + 1, false, ol ++ [n], by first | rfl | simp, by first | rfl | simp, ⟨by have := HJ.out; omega⟩, ⟨?_, ?_⟩, HB6, H6⟩
            · rw [HD.out, ← HEQ.out.1, HDP.out]; rfl
            · rw [HNUM.out, ← HEQ.out.2]
          case measure => have := HJ.out; simp [intOf]; omega
    · have M1 : decide ((i : Int) < (s.fl.length : Int)) = false := decide_eq_false d1
      have M1' : decide (i < s.fl.length) = false := decide_eq_false (by omega)
      have hend : s.fl.take i = s.fl := List.take_of_length_le (by omega)
      have HEQ2 := Aside0.mk (show dueV now s = d ∧ ol = Led.nums s.fl by have h := HEQ.out; rw [hend] at h; refine ⟨?_, h.2⟩; unfold dueV; rw [HWT.out]; exact h.1.symm)
      clear d1 hend HEQ
      cases d with
      | false =>
        go_wp2_with (fail)
        go_ret
        have hd : rexpR now s = (s, []) := by unfold rexpR; rw [HEQ2.out.1]; rfl
        rw [hd]
        exact ⟨_, _, rfl, HLR.out, Kd.R_nil _ _ _ _ _⟩
      | true =>
        obtain ⟨Ao, co, hvo⟩ := Kd.R_slice HR.out
        subst hvo
        have HRS := Aside0.mk (HLR.out.drop HG.out)
        have HLO := Aside0.mk (Kd.R_far (Kd.R_reok (ok := fun k => k ≠ g) rfl HR.out (fun k hk => show k ≠ g from by have := Kd.R_base HR.out k hk; have := blk_lt HL.out.lg.blk; omega)) (p := ⟨g, 0, none⟩) (fun k hk => hk) (.slice none 0 0))
        have HOL := Aside0.mk (show ol.length ≤ 100000 by rw [HEQ2.out.2]; unfold Led.nums; rw [List.length_map]; exact HN.out)
        have HLS := Aside0.mk (rlose_c g { s with fl := [] } (.slice none 0 0) (.slice none 0 0) Ao co ol w0 _ _ (RP.start HRS.out.lg HRS.out.bel) HG.out (show 0 ≤ s.win from by have := HI.out.w0; omega) (show s.win ≤ 1073741824 from HI.out.w1) (Kd.R_reads' HLO.out).2.2 HOL.out)
        have hb0 := HI.out.b0
        have hb1 := HI.out.b1
        have hbk : (loseN { s with fl := [] } ol).back = s.back := by unfold loseN; split <;> rfl
        have HBK := Aside0.mk hbk
        obtain ⟨rb, hrb⟩ : ∃ q, (if 6 < s.back + 1 then 6 else s.back + 1) = q := ⟨_, rfl⟩
        have HRB := Aside0.mk hrb
        have hw1 : wrap64 (s.back + 1) = s.back + 1 := by unfold wrap64; omega
        have hw2 : IntKind.i64.wrap (s.back + 1) = s.back + 1 := (i64_w _).trans hw1
        have hm1 : min 6 (s.back + 1) = rb := by rw [← hrb]; split <;> omega
        have hm2 : (if 6 ≤ s.back + 1 then 6 else s.back + 1) = rb := by rw [← hrb]; split <;> split <;> omega
        have hm3 : (if s.back + 1 < 6 then s.back + 1 else 6) = rb := by rw [← hrb]; split <;> split <;> omega
        have hm4 : (if s.back + 1 ≤ 6 then s.back + 1 else 6) = rb := by rw [← hrb]; split <;> split <;> omega
        clear hb0 hb1 hbk
        go_wp2_with (go_at_call 37; (with_reducible refine (HLS.out).mono ?_); rintro e_ w7 ⟨rfl, h7⟩; obtain ⟨k0, k5, l0, l5⟩ := RP.cells _ _ _ h7; rw [HBK.out] at k5; have H7 := Aside0.mk h7; clear h7)
        go_ret
        have hd : rexpR now s = (rexpS s, Led.nums s.fl) := by unfold rexpR; rw [HEQ2.out.1]; rfl
        have ho := HEQ2.out.2
        rw [hd]
        have hs := (HRS.out.trans H7.out).set HG.out 5 (.int .i64 rb) { loseN { s with fl := [] } ol with back := rb } rfl rfl
        have hr := Kd.R_far (p := ⟨g, 5, none⟩) (eints_later HRS.out.lg HLO.out H7.out.keep) (fun k hk => hk) (.int .i64 rb)
        refine ⟨_, .slice none 0 0, rfl, ?_, ?_⟩
        · have e : { loseN { s with fl := [] } ol with back := rb } = rexpS s := by unfold rexpS; rw [HRB.out, ho]
          rw [← e]; first | exact hs | exact hs.drew
        · rw [← ho]; first | exact Kd.R_mono hr (fun _ _ => trivial) | exact Kd.R_drew (Kd.R_mono hr (fun _ _ => trivial))
end Go.Proofs.Ytgdgegkokghedaa.Led
