/- Layer 8: acks.Set.Drop. gen/mk_drop08.py writes this text. -/
import Derived.Test.YtanebifiafghnaaPlain08
namespace Go.Proofs.Ytanebifiafghnaa.Ack
open Go.RowKit Go.Deep Go.Proofs.YtanebifiafghnaaW.PrintWords Go.Proofs.YtanebifiafghnaaW.PrintLast Go.Proofs.YtanebifiafghnaaW.PrintMore Go.Proofs.Ytanebifiafghnaa.PAcksRight Go.Proofs.Ytanebifiafghnaa
set_option linter.unusedVariables false
set_option linter.unusedSimpArgs false
attribute [local go_sem] max2_int min2_int max_two min_two
theorem drop1_c (lo hi n : Int) (gp : Nat) (W : World) (h0 : W.heap[gp]? = some (.cells #[.int .i64 n] 2 (0, 0))) :
    Calls Try.prog 30 #[.agg #[.int .i64 lo, .int .i64 hi], .pointer (some ⟨gp, 0, none⟩)] W fun e w' => e = .returned (.bool (decide (hi < n))) ∧ Below W.heap.size W w' := by
  have HL := Aside0.mk (blk_lt h0)
  have c0 := (blk_cell h0 0).trans (rfl : _ = some (Value.int .i64 n))
  obtain ⟨b, hb⟩ : ∃ b, decide (hi < n) = b := ⟨_, rfl⟩
  rw [hb]
  clear h0
  go_enter Try.func30, Try.ntmps30
  go_wp2_with ((with_reducible refine gate_dst (N := 2) rfl ?_); refine box_event ?hg (N := 2) ?hd (cs := [.int .i64 lo, .int .i64 hi].toArray) (t := 35) ?hr ?_; (case hd => rfl); (case hg => rfl); (case hr => first | (go_simp; done) | (go_simp; rfl)); intro gb hgb w1 hbox hb_; have hc1 := (show _ = some (Value.int .i64 hi) from (blk_cell hbox 1).trans rfl); have hp0 : w1.cell? ⟨gp, 0, none⟩ = some (.int .i64 n) := (hb_.cell HL.out).trans c0; have HB1 := Aside0.mk hb_; clear hgb hbox hb_)
  go_ret
  exact ⟨rfl, HB1.out⟩
theorem row35 {w : World} {A : Option Addr} {xs : List S35} (h : Kd.C k35 w A xs.length xs) (i : Nat) (h1 : i < xs.length) : ∃ ad, A = some ad ∧ ∀ W, Below w.heap.size w W → W.cell? (ad.add (i * 2)) = some (.int .i64 (xs.getD i z35).f0) ∧ W.cell? ⟨(ad.add (i * 2)).block, (ad.add (i * 2)).off + 1, none⟩ = some (.int .i64 (xs.getD i z35).f1) := by
  obtain ⟨ad, e, _⟩ := at35 h i h1
  refine ⟨ad, e, fun W hb => ?_⟩
  obtain ⟨ad2, e2, c0, c1⟩ := at35 (Kd.C_below h hb) i h1
  obtain rfl : ad = ad2 := Option.some.inj (e.symm.trans e2)
  exact ⟨c0, c1⟩
structure StepF (n i : Nat) : Prop where
  w : wrap64 ((i : Int) + 1) = ((i + 1 : Nat) : Int) ∧ IntKind.i64.wrap ((i : Int) + 1) = ((i + 1 : Nat) : Int)
  d1 : decide ((i : Int) < (n : Int)) = true
  d2 : decide (i < n) = true
  q1 : ((0 : Int) ≤ (i : Int)) = True
  q2 : ((i : Int) < (n : Int)) = True
  q3 : (i < n) = True
theorem stepF {n i : Nat} (h : i < n) (hn : n ≤ 100000) : StepF n i := by
  have hw : wrap64 ((i : Int) + 1) = ((i + 1 : Nat) : Int) := by unfold wrap64; omega
  exact ⟨⟨hw, (i64_w _).trans hw⟩, decide_eq_true (by omega), decide_eq_true h, eq_true (by omega), eq_true (by omega), eq_true h⟩
set_option maxHeartbeats 8000000 in
set_option maxRecDepth 100000 in
theorem idxD_c (n : Int) (gp c r : Nat) (A : Option Addr) (l : List S35) (W : World) (h0 : W.heap[gp]? = some (.cells #[.int .i64 n] 2 (0, 0))) (hC : Kd.C k35 W A l.length l) (hl : l.length ≤ 100000) (ht : Turn l.length r (fun t => decide ((l.getD t z35).f1 < n))) :
    Calls Try.prog 35 #[.slice A l.length c, .func (.func 30) #[] #[.pointer (some ⟨gp, 0, none⟩)]] W fun e w' => e = .returned (.int .i64 (if r < l.length then (r : Int) else -1)) ∧ Below W.heap.size W w' := by
  obtain ⟨z, hz⟩ : ∃ z, (if r < l.length then (r : Int) else -1) = z := ⟨_, rfl⟩
  rw [hz]
  have HZ := Aside0.mk hz
  have H0 := Aside0.mk h0
  have HC := Aside0.mk hC
  have HL := Aside0.mk hl
  have HT := Aside0.mk ht
  clear h0 hC hl ht hz
  go_enter Try.func35, Try.ntmps35
  go_wp2_with (fail)
  go_loopw [8] (fun v8 wr => ∃ i : Nat, v8 = .int .i64 (i : Int) ∧ Aside0 (i ≤ r) ∧ Aside0 (Below W.heap.size W wr)) (fun v8 _ => ((l.length : Int) - intOf v8).toNat)
  case atStart => exact ⟨0, rfl, ⟨Nat.zero_le _⟩, ⟨Below.refl _ _⟩⟩
  case round =>
    obtain ⟨i, rfl, HI, HB⟩ := hrel
    by_cases c1 : i < l.length
    · obtain ⟨ad, hA, rows⟩ := row35 HC.out i c1
      subst hA
      obtain ⟨e0, e1⟩ := rows wr HB.out
      have hsf := stepF c1 HL.out
      have HP := Aside0.mk (blk_below H0.out HB.out)
      have HJ := Aside0.mk c1
      have htl : (l.getD i z35).f1 < n → r ≤ i := fun h => (Nat.lt_or_ge i r).elim (fun hh => absurd h (of_decide_eq_false (HT.out.lt i hh))) id
      have htg : ¬ (l.getD i z35).f1 < n → i < r := fun h => (Nat.lt_or_ge i r).elim id (fun hh => absurd (of_decide_eq_true (HT.out.ge i hh c1)) h)
      generalize l.getD i z35 = x at e0 e1 htl htg
      obtain ⟨lo, hi⟩ := x
      dsimp only at e0 e1 htl htg
      have hcl := fun wz (hb : Below wr.heap.size wr wz) => drop1_c lo hi n gp wz (blk_below HP.out hb)
      by_cases hq : hi < n
      · rw [decide_eq_true hq] at hcl
        have HX := Aside0.mk hcl
        have HR := Aside0.mk (show z = (i : Int) by rw [← HZ.out, if_pos (by have := htl hq; omega)]; have := htl hq; have := HI.out; omega)
        clear hq hcl htl htg c1 rows
        obtain ⟨⟨w1_, w2_⟩, d1, d2, q1, q2, q3⟩ := hsf
        go_wp2_with (go_at_call 30; (with_reducible refine (HX.out _ (Below.refl _ _)).mono ?_); rintro e w2 ⟨rfl, hb⟩; have HB2 := Aside0.mk (below_step HB.out hb); clear hb)
        go_ret
        exact ⟨by rw [HR.out]; rfl, HB2.out⟩
      · rw [decide_eq_false hq] at hcl
        have HX := Aside0.mk hcl
        have HR := Aside0.mk (htg hq)
        clear hq hcl htl htg c1 rows
        obtain ⟨⟨w1_, w2_⟩, d1, d2, q1, q2, q3⟩ := hsf
        go_wp2_with (go_at_call 30; (with_reducible refine (HX.out _ (Below.refl _ _)).mono ?_); rintro e w2 ⟨rfl, hb⟩; have HB2 := Aside0.mk (below_step HB.out hb); clear hb)
        go_roundw
        case rel => exact ⟨i + 1, by first | rfl | simp, ⟨HR.out⟩, HB2⟩
        case measure => clear w1_ w2_; have := HJ.out; simp [intOf]; omega
    · have C1 : decide ((i : Int) < (l.length : Int)) = false := decide_eq_false (by omega)
      have C2 : decide (i < l.length) = false := decide_eq_false c1
      have HR := Aside0.mk (show z = -1 by rw [← HZ.out, if_neg (by have := HI.out; omega)])
      clear c1
      go_wp2_with (fail)
      go_ret
      exact ⟨by rw [HR.out]; rfl, HB.out⟩
set_option maxHeartbeats 8000000 in
set_option maxRecDepth 100000 in
theorem delete_c (n : Int) (gp r : Nat) (W : World) (base : Nat) (ok : Nat → Prop) (v : Value) (l : List S35) (hR : Kd.R k35 35 W base ok v l) (h0 : W.heap[gp]? = some (.cells #[.int .i64 n] 2 (0, 0))) (hl : l.length ≤ 100000) (ht : Turn l.length r (fun t => decide ((l.getD t z35).f1 < n))) :
    Calls Try.prog 29 #[v, .func (.func 30) #[] #[.pointer (some ⟨gp, 0, none⟩)]] W fun e w' => ∃ v', e = .returned v' ∧ Kd.R k35 35 w' base ok v' (l.take r) ∧ W.grownBy w' v.ownBlock ∧ v'.ownBlock = v.ownBlock := by
  obtain ⟨A, c, rfl⟩ := Kd.R_slice hR
  have hidx := idxD_c n gp c r A l W h0 (Kd.R_reads' hR).2.2 hl ht
  have hle := ht.le
  have hnc := (Kd.R_reads' hR).2.1
  rcases Nat.lt_or_ge r l.length with hlt | hge
  · rw [if_pos hlt] at hidx
    obtain ⟨g, c', hv, -, -, -⟩ := Kd.R_form hR (by omega)
    injection hv with hv1 hv2 hv3
    subst hv1 hv3
    obtain ⟨cur, hh, hb, hog, -, -, hcm, hcs, htk⟩ := R_open hR
    have HIX := Aside0.mk hidx
    have HC := Aside0.mk (Kd.R_reads' hR).2.2
    have H0 := Aside0.mk h0
    have HL := Aside0.mk hl
    have HT := Aside0.mk ht
    have HH := Aside0.mk hh
    have HLT := Aside0.mk hlt
    have HNC := Aside0.mk hnc
    have HSH := Aside0.mk (fun (w' : World) (cur' : Array Value) (h1 : w'.heap[g]? = some (.cells cur' 35 (0, 0))) (h2 : cur'.size = cur.size) (h3 : cur'.toList.take (r * 2) = cur.toList.take (r * 2)) => by
      have hl2 : (l.take r).length = r := by rw [List.length_take]; omega
      have h4 := R_shut (l := l.take r) (ok := ok) (c := c) h1 hb hog (by omega) hcm (by omega) (by rw [hl2, h3, flat_take l r hle, ← htk, List.take_take, Nat.min_eq_left (by omega)])
      rw [hl2] at h4
      exact h4)
    have HCS := Aside0.mk hcs
    have q1 := eq_true (show (0 : Int) ≤ (r : Int) by omega)
    have q2 := eq_true (show (r : Int) ≤ (l.length : Int) by omega)
    have q3 := eq_true (show (r : Int) ≤ (c : Int) by omega)
    have q4 := eq_false (show ¬ c = r by omega)
    have q5 : ((r : Int) == -1) = false := beq_eq_false_iff_ne.2 (by omega)
    have hsf := stepF hlt hl
    clear hR h0 hl ht hidx hle hnc hlt hh hb hog hcm hcs htk
    obtain ⟨⟨w1_, w2_⟩, -, -, -, -, -⟩ := hsf
    go_enter Try.func29, Try.ntmps29
    go_wp2_with (go_at_call 35; (with_reducible refine (HIX.out).mono ?_); rintro e_ w2 ⟨rfl, hb⟩; have HB2 := Aside0.mk hb; clear hb)
    clear w1_ w2_
    go_loopw [5, 6] (fun v5 v6 wr => ∃ j : Nat, v5 = .int .i64 (r : Int) ∧ v6 = .int .i64 (j : Int) ∧ Aside0 (r < j ∧ j ≤ l.length) ∧ Aside0 (Below W.heap.size W wr)) (fun _ v6 _ => ((l.length : Int) - intOf v6).toNat)
    case atStart => exact ⟨r + 1, rfl, by first | rfl | simp, ⟨by have := HLT.out; omega⟩, HB2⟩
    case round =>
      clear HB2
      obtain ⟨j, rfl, rfl, HJ, HB⟩ := hrel
      by_cases c1 : j < l.length
      · obtain ⟨ad, hA, rows⟩ := row35 HC.out j c1
        injection hA with hA
        subst hA
        obtain ⟨e0, e1⟩ := rows wr HB.out
        rw [add0] at e0 e1
        have hsf := stepF c1 HL.out
        have HP := Aside0.mk (blk_below H0.out HB.out)
        have HJ2 := Aside0.mk c1
        have htg := of_decide_eq_true (HT.out.ge j (by have := HJ.out; omega) c1)
        generalize l.getD j z35 = x at e0 e1 htg
        obtain ⟨lo, hi⟩ := x
        dsimp only at e0 e1 htg
        have hcl := fun wz (hb : Below wr.heap.size wr wz) => drop1_c lo hi n gp wz (blk_below HP.out hb)
        rw [decide_eq_true htg] at hcl
        have HX := Aside0.mk hcl
        clear hcl htg c1 rows
        obtain ⟨⟨w1_, w2_⟩, d1, d2, q7, q8, q9⟩ := hsf
        go_wp2_with (go_at_call 30; (with_reducible refine (HX.out _ (below_alloc (Below.refl _ _) _)).mono ?_); rintro e w3 ⟨rfl, hb⟩; have HB3 := Aside0.mk (below_step HB.out (below_step (below_alloc (Below.refl _ _) _) hb)); clear hb)
        go_roundw
        case rel => exact ⟨j + 1, rfl, by first | rfl | simp, ⟨by have := HJ.out; have := HJ2.out; omega⟩, HB3⟩
        case measure => clear w1_ w2_; have := HJ2.out; simp [intOf]; omega
      · have C1 : decide ((j : Int) < (l.length : Int)) = false := decide_eq_false (by omega)
        have C2 : decide (j < l.length) = false := decide_eq_false c1
        have hhr := (HB.out.block g (blk_lt HH.out)).trans HH.out
        have hcl : ∀ ty c', (Builtin.clear_ #[22] ty #[.slice (some ⟨g, r * 2, none⟩) (l.length - r) c']).run Try.prog wr = .ok (.tuple #[]) (wr.setCells g (r * 2) (List.replicate ((l.length - r) * 2) (Value.int .i64 0))) := fun ty c' => run_clear2 wr ty g (r * 2) (l.length - r) c' (by have := HLT.out; omega) (fun k hk => by have := HCS.out; have := HNC.out; have := HLT.out; rw [cell_of hhr, Array.getElem?_eq_getElem (by omega)]; rfl) (fun k hk => frozen_of hhr)
        obtain ⟨cur2, hh2, hs2, ht2, hg2⟩ := wrote (vs := List.replicate ((l.length - r) * 2) (Value.int .i64 0)) (o := r * 2) hhr (by have := HCS.out; have := HNC.out; have := HLT.out; rw [List.length_replicate]; omega)
        have hfin := HSH.out _ cur2 hh2 hs2 (by have := HCS.out; have := HNC.out; have := HLT.out; rw [ht2, List.append_assoc, List.take_append_of_le_length (by rw [List.length_take, Array.length_toList]; omega), List.take_take, Nat.min_self])
        have HF := Aside0.mk hfin
        have HG2 := Aside0.mk hg2
        clear c1 hhr hh2 hs2 ht2 hg2 hfin
        go_wp2_with (fail)
        go_ret
        exact ⟨_, rfl, HF.out, ⟨HG2.out.os.trans HB.out.os, HG2.out.tape.trans HB.out.tape, HG2.out.output.trans HB.out.output, Nat.le_trans HB.out.size HG2.out.size, fun k hk hn => (HG2.out.block k (Nat.lt_of_lt_of_le hk HB.out.size) hn).trans (HB.out.block k hk)⟩, rfl⟩
  · obtain rfl : r = l.length := by omega
    rw [if_neg (Nat.lt_irrefl _)] at hidx
    rw [List.take_length]
    have HIX := Aside0.mk hidx
    have HR := Aside0.mk hR
    clear hR h0 hl ht hidx hle hnc hge
    go_enter Try.func29, Try.ntmps29
    go_wp2_with (go_at_call 35; (with_reducible refine (HIX.out).mono ?_); rintro e_ w2 ⟨rfl, hb⟩; have HB2 := Aside0.mk hb; clear hb)
    go_ret
    exact ⟨_, rfl, Kd.R_below HR.out HB2.out, ⟨HB2.out.os, HB2.out.tape, HB2.out.output, HB2.out.size, fun k hk _ => HB2.out.block k hk⟩, rfl⟩
def clampL (n : Int) (x : S35) : S35 := ⟨max x.f0 n, x.f1⟩
def mixL (n : Int) (l : List S35) (i : Nat) : List S35 := (l.map (clampL n)).take i ++ l.drop i
theorem mix_len (n : Int) (l : List S35) {i : Nat} (h : i ≤ l.length) : (mixL n l i).length = l.length := by
  unfold mixL
  rw [List.length_append, List.length_take, List.length_map, List.length_drop]
  omega
theorem mix_get (n : Int) (l : List S35) {i : Nat} (h : i < l.length) : (mixL n l i).getD i z35 = l.getD i z35 := by
  unfold mixL
  rw [List.getD_eq_getElem?_getD, List.getD_eq_getElem?_getD, List.getElem?_append_right (by rw [List.length_take]; omega), List.length_take, List.length_map, Nat.min_eq_left (by omega), List.getElem?_drop]
  simp
theorem mix_set (n : Int) (l : List S35) {i : Nat} (h : i < l.length) : (mixL n l i).set i (clampL n (l.getD i z35)) = mixL n l (i + 1) := by
  unfold mixL
  have hm : i < (l.map (clampL n)).length := by rw [List.length_map]; exact h
  have ht : ((l.map (clampL n)).take i).length = i := by rw [List.length_take]; omega
  rw [List.set_append_right _ _ (by omega), ht, Nat.sub_self, List.drop_eq_getElem_cons h, List.set_cons_zero, List.take_succ_eq_append_getElem hm, List.append_assoc, getD_eq h]
  simp
/-- What stands in the loop of Drop. -/
structure DSt (w0 w1 wr : World) (g bN c : Nat) (own : Option Nat) (A : Option Addr) (n : Int) (l : List S35) (i : Nat) : Prop where
  blk : wr.heap[g]? = some (.cells #[.slice A l.length c] 51 (0, 0))
  row : Kd.R k35 35 wr w0.heap.size (fun k => k ≠ g) (.slice A l.length c) (mixL n l i)
  box : wr.heap[bN]? = some (.cells #[.int .i64 n] 2 (0, 0))
  bel : Below w0.heap.size w0 wr
  keep : KeepBut w1 wr g own
  own : (Value.slice A l.length c).ownBlock = own
theorem DSt.drew {w0 w1 wr : World} {g bN c : Nat} {own : Option Nat} {A : Option Addr} {n : Int} {l : List S35} {i : Nat} (h : DSt w0 w1 wr g bN c own A n l i) : DSt w0 w1 wr.drew g bN c own A n l i :=
  ⟨h.blk, Kd.R_drew h.row, h.box, below_drew1 h.bel, h.keep, h.own⟩
theorem DSt.step {w0 w1 wr : World} {g bN c gb : Nat} {own : Option Nat} {n : Int} {l : List S35} {i : Nat} (h : DSt w0 w1 wr g bN c own (some ⟨gb, 0, none⟩) n l i) (hi : i < l.length) : DSt w0 w1 (wr.setCell ⟨gb, i * 2, none⟩ (.int .i64 (clampL n (l.getD i z35)).f0)) g bN c own (some ⟨gb, 0, none⟩) n l (i + 1) := by
  have hm : i < (mixL n l i).length := by rw [mix_len n l (by omega)]; exact hi
  have hx0 : (mixL n l i)[i] = l.getD i z35 := by rw [← getD_eq hm]; exact mix_get n l hi
  have a := RF.R_field h.row i hm 0 (by decide) (.int .i64 (clampL n (l.getD i z35)).f0) (clampL n (l.getD i z35)) (fun w1 w2 okk y cs hM => by rw [k35_openM hM]; exact k35_mkM _ _ _ _) (fun okk cs hM => by rw [hx0] at hM; rw [k35_openM hM]; exact k35_mkM _ _ _ (clampL n (l.getD i z35)))
  rw [mix_set n l hi] at a
  have hg : wr.grownBy (wr.setCell ⟨gb, i * 2, none⟩ (.int .i64 (clampL n (l.getD i z35)).f0)) (some gb) := a.2
  have ho : own = some gb := h.own.symm
  exact ⟨(hg.block g (blk_lt h.blk) (blk_apart h.row h.blk (by decide))).trans h.blk, a.1, (hg.block bN (blk_lt h.box) (blk_apart h.row h.box (by decide))).trans h.box, h.bel.grown hg h.bel.size (fun j hj => by cases hj; exact Kd.R_base h.row gb rfl), h.keep.trans (KeepBut.of_grown (by rw [ho]; exact hg) g) (.inl rfl), h.own⟩
set_option maxHeartbeats 8000000 in
set_option maxRecDepth 100000 in
theorem drop_c (w0 W w1 : World) (g r : Nat) (v v1 : Value) (l : List S35) (n : Int) (h : SP w0 W w1 g v v1 l) (hg : w0.heap.size ≤ g) (hl : l.length ≤ 16) (ht : Turn l.length r (fun t => decide ((l.getD t z35).f1 < n))) :
    Calls Try.prog 16 #[.pointer (some ⟨g, 0, none⟩), .int .i64 n] w1 fun e w' => ∃ v2, e = .returned (.tuple #[]) ∧ SP w0 W w' g v v2 ((l.take r).map (clampL n)) := by
  obtain ⟨A, c, rfl⟩ := Kd.R_slice h.lg.row
  have HP := Aside0.mk h
  have HG := Aside0.mk hg
  have HL := Aside0.mk hl
  have HT := Aside0.mk ht
  clear h hg hl ht
  go_enter Try.func16, Try.ntmps16
  go_wp2_with (first | ((with_reducible refine gate_dst (N := 3) rfl ?_); refine box_event ?hg3 (N := 3) ?hd3 (cs := [.int .i64 n].toArray) (t := 2) ?hr3 ?_; (case hd3 => rfl); (case hg3 => rfl); (case hr3 => first | (go_simp; done) | (go_simp; rfl)); intro bN hbN w2 hx hb; have HX2 := Aside0.mk hx; have HB2 := Aside0.mk hb; have HP2 := Aside0.mk (HP.out.below hb); have cG := (show _ = some (Value.slice A l.length c) from (blk_cell HP2.out.lg.blk 0).trans rfl); clear hbN hx hb) | (go_at_call 29; (with_reducible refine (delete_c n bN r w2 w0.heap.size _ (.slice A l.length c) l HP2.out.lg.row HX2.out (by have := HL.out; omega) HT.out).mono ?_); rintro e_ w3 ⟨v3, rfl, hr3, hg3, ho3⟩; obtain ⟨l1, hl1⟩ : ∃ q, l.take r = q := ⟨_, rfl⟩; rw [hl1] at hr3; have HL1 := Aside0.mk hl1; obtain ⟨A3, c3, rfl⟩ := Kd.R_slice hr3; have hgg3 : w3.heap[g]? = some (.cells #[.slice A l.length c] 51 (0, 0)) := (hg3.block g (blk_lt HP2.out.lg.blk) (blk_apart HP2.out.lg.row HP2.out.lg.blk (by decide))).trans HP2.out.lg.blk; have hx3 := (hg3.block bN (blk_lt HX2.out) (blk_apart HP2.out.lg.row HX2.out (by decide))).trans HX2.out; have cG3 := (show _ = some (Value.slice A l.length c) from (blk_cell hgg3 0).trans rfl); have fG3 := blk_frozen hgg3 0; have HR3 := Aside0.mk hr3; have HG3 := Aside0.mk hg3; have HO3 := Aside0.mk ho3; have HGG := Aside0.mk hgg3; have HX3 := Aside0.mk hx3; clear hl1 hr3 hg3 ho3 hgg3 hx3))
  have hds : DSt w0 w1 (w3.setCell ⟨g, 0, none⟩ (.slice A3 l1.length c3)) g bN c3 (Value.slice A l.length c).ownBlock A3 n l1 0 := by
    have hb3 := HP2.out.bel.grown HG3.out HP2.out.bel.size (fun j hj => Kd.R_base HP2.out.lg.row j hj)
    have hk3 : KeepBut w1 w3 g (Value.slice A l.length c).ownBlock := KeepBut.trans (KeepBut.of_below HB2.out g _) (KeepBut.of_grown HG3.out g) (.inl rfl)
    have hbg : bN ≠ g := fun he => by have h1 := HX3.out; rw [he, HGG.out] at h1; injection h1 with h1; injection h1 with _ h1 _; exact absurd h1 (by decide)
    exact ⟨blk_set HGG.out 0 _, Kd.R_far HR3.out (fun k hk => hk) _, (Below.heap_setCell w3 ⟨g, 0, none⟩ _ bN hbg).trans HX3.out, below_set hb3 HG.out, hk3.set_ 0 _, HO3.out⟩
  have HDS := Aside0.mk hds
  have HL2 := Aside0.mk (show l1.length ≤ 16 by rw [← HL1.out, List.length_take]; have := HL.out; omega)
  clear hds
  go_loopw [4, 19] (fun _ v19 wr => ∃ i : Nat, v19 = .int .i64 (i : Int) ∧ Aside0 (i ≤ l1.length) ∧ Aside0 (DSt w0 w1 wr g bN c3 (Value.slice A l.length c).ownBlock A3 n l1 i)) (fun _ v19 _ => ((l1.length : Int) - intOf v19).toNat)
  case atStart => exact ⟨0, rfl, ⟨Nat.zero_le _⟩, HDS⟩
  case round =>
    clear HDS
    obtain ⟨i, rfl, HI, HD⟩ := hrel
    by_cases d1 : i < l1.length
    · have hsf := stepF d1 (by have := HL2.out; omega)
      obtain ⟨gb, c9, hv, -, -, -⟩ := Kd.R_form HD.out.row (by rw [mix_len n l1 (by omega)]; omega)
      injection hv with hv1 hv2 hv3
      subst hv1
      clear hv2 hv3
      have hst := HD.out.step d1
      have hat := at35 (Kd.R_reads' HD.out.row).2.2 i (by rw [mix_len n l1 (by omega)]; exact d1)
      obtain ⟨ad, hA, y0, -⟩ := hat
      injection hA with hA
      subst hA
      rw [mix_get n l1 d1, add0] at y0
      have hfz : wr.frozen? ⟨gb, i * 2, none⟩ = false := by obtain ⟨cs, hcs⟩ := Kd.R_typed HD.out.row gb rfl; exact blk_frozen hcs _
      unfold clampL at hst
      dsimp only at hst
      generalize (l1.getD i z35).f0 = x0 at hst y0
      obtain ⟨xm, hxm⟩ : ∃ q, max x0 n = q := ⟨_, rfl⟩
      rw [hxm] at hst
      have HXM := Aside0.mk hxm
      have hm0 : max x0 n = xm := hxm
      have hm1 : (if x0 ≤ n then n else x0) = xm := by rw [← HXM.out]; split <;> omega
      have hm2 : (if x0 < n then n else x0) = xm := by rw [← HXM.out]; split <;> omega
      have hm3 : (if n ≤ x0 then x0 else n) = xm := by rw [← HXM.out]; split <;> omega
      have hm4 : (if n < x0 then x0 else n) = xm := by rw [← HXM.out]; split <;> omega
      have hn0 : max n x0 = xm := by rw [← HXM.out]; omega
      have hn1 : (if n ≤ x0 then x0 else n) = xm := by rw [← HXM.out]; split <;> omega
      have hn2 : (if n < x0 then x0 else n) = xm := by rw [← HXM.out]; split <;> omega
      have hn3 : (if x0 ≤ n then n else x0) = xm := by rw [← HXM.out]; split <;> omega
      have hn4 : (if x0 < n then n else x0) = xm := by rw [← HXM.out]; split <;> omega
      have HST := Aside0.mk hst
      have HJ := Aside0.mk d1
      have cG := (show _ = some (Value.slice (some ⟨gb, 0, none⟩) l1.length c3) from (blk_cell HD.out.blk 0).trans rfl)
      have cN := (show _ = some (Value.int .i64 n) from (blk_cell HD.out.box 0).trans rfl)
      clear hst d1 hxm
      obtain ⟨⟨w1_, w2_⟩, d1, d2, q1, q2, q3⟩ := hsf
      go_wp2_with (fail)
      refine Calm.wp_region_calmC [(3, fun w_ => w_.cell? ⟨g, 0, none⟩ = some (.slice (some ⟨gb, 0, none⟩) l1.length c3)), (8, fun w_ => w_.cell? ⟨g, 0, none⟩ = some (.slice (some ⟨gb, 0, none⟩) l1.length c3)), (12, fun w_ => w_.cell? ⟨gb, i * 2, none⟩ = some (.int .i64 x0)), (13, fun w_ => w_.cell? ⟨bN, 0, none⟩ = some (.int .i64 n))] [0, 1, 2, 3, 4, 5, 6, 7, 8, 9, 10, 11, 12, 13, 14, 15, 16] [17] (by kernel_rfl) (by kernel_rfl) (Calm.allC_cons (by exact cG) (Calm.allC_cons (by exact cG) (Calm.allC_cons (by exact y0) (Calm.allC_cons (by exact cN) Calm.allC_nil)))) ?_
      repeat (first
        | (refine Calm.g_value (v := ?_) (a' := ?_) rfl rfl (by rfl) ?_ ?_ ?_; rotate_left; (· rintro w' hS'; (try simp only [Calm.SC_cons, Calm.SC_nil, Nat.reduceEqDiff, forall_const, false_implies, and_true, true_and] at hS'); (try obtain ⟨hS1, hS2⟩ := hS'); go_simp; with_reducible rfl); rotate_left; (· simp only [Act.put, List.setIfInBounds_toArray, List.set_cons_zero, List.set_cons_succ, i64_w, i32_w]; rfl)))
      refine Calm.g_nil ?_
      refine Calm.c_store (w1 := ?_) rfl (by rfl) rfl ?_ ?_ ?_
      rotate_left
      · go_simp; rfl
      · repeat (first | exact Calm.okC_nil | (refine Calm.okC_cons (Or.inl (by decide +kernel)) ?_) | (refine Calm.okC_cons (Or.inr (by fail)) ?_))
      refine Calm.h_nil ?_
      simp only [Exit.inBlock, Exit.then]
      go_wp2_with (fail)
      go_roundw
      case rel => exact ⟨i + 1, by first | rfl | simp, ⟨HJ.out⟩, ⟨by first | exact HST.out | exact HST.out.drew⟩⟩
      case measure => clear w1_ w2_; have := HJ.out; simp [intOf]; omega
    · have C1 : decide ((i : Int) < (l1.length : Int)) = false := decide_eq_false (by omega)
      have C2 : decide (i < l1.length) = false := decide_eq_false d1
      have hil : i = l1.length := by have := HI.out; omega
      have hmx : mixL n l1 i = (l.take r).map (clampL n) := by rw [hil, HL1.out]; unfold mixL; rw [List.drop_length, List.append_nil]; exact List.take_of_length_le (by simp)
      have HMX := Aside0.mk hmx
      clear d1 hil hmx
      go_wp2_with (fail)
      first | go_end0 | ((try simp only [Exit.inBlock, Exit.then]); refine bodyPost_ret (results_none rfl _ _ _) rfl ?_)
      have hrow := HD.out.row
      rw [HMX.out] at hrow
      refine ⟨.slice A3 l1.length c3, rfl, ⟨HD.out.blk, hrow⟩, HD.out.bel, keep3 HP.out.keep HD.out.keep (.inl rfl) HP.out.own, ?_⟩
      exact HP.out.own.trans (w1 := w1) (.inl HD.out.own) HP.out.keep.1
end Go.Proofs.Ytanebifiafghnaa.Ack
