/- Layer 14: fields.Check, take, Read, by their contracts. gen/mk_rd14.py writes this text. -/
import Derived.Test.YtoigojlemffikaaDoorFld14
import Derived.Test.YtoigojlemffikaaDoorCalmG
import Derived.Deep.Cut
import Derived.Deep.CutRange
import Derived.BigRegion
import Derived.LoopN
namespace Go.Proofs.YtoigojlemffikaaDoor.Fld
open Go.RowKit Go.Deep Go.Proofs.YtoigojlemffikaaDoor.PFields Go.Proofs.YtoigojlemffikaaDoorW.PrintWords Go.Proofs.YtoigojlemffikaaDoorW.PrintLast Go.Proofs.YtoigojlemffikaaDoorW.PrintMore Go.Proofs.YtoigojlemffikaaDoor.Hand Go.Proofs.YtoigojlemffikaaDoor.Pure
set_option linter.unusedVariables false
set_option linter.unusedSimpArgs false
theorem el27 {w : World} {A : Option Addr} {xs : List S27} (h : k27.C w A xs.length xs) (i : Nat) (h1 : i < xs.length) : ∃ ad, A = some ad ∧ ∀ W, Below w.heap.size w W → W.cell? (ad.add (i * 2)) = some (.string (xs.getD i z27).f0) ∧ W.cell? ⟨(ad.add (i * 2)).block, (ad.add (i * 2)).off + 1, none⟩ = some (.string (xs.getD i z27).f1) := by
  obtain ⟨ad, c, e, _, hK, hc0⟩ := Kd.C_get h z27 (i : Int) (by omega) (by omega)
  refine ⟨ad, e, fun W hb => ?_⟩
  obtain ⟨ad2, c2, e2, _, hK2, hc2⟩ := Kd.C_get (Kd.C_below h hb) z27 (i : Int) (by omega) (by omega)
  obtain rfl : ad = ad2 := Option.some.inj (e.symm.trans e2)
  rw [Int.toNat_natCast] at hK2 hc2
  obtain rfl := k27_open hK2
  have hc : ∀ j u, ([.string (xs.getD i z27).f0, .string (xs.getD i z27).f1] : List Value)[j]? = some u → W.cell? (ad.add (i * 2 + j)) = some u := hc2
  exact ⟨hc 0 _ rfl, by rw [← add_field _ _ 1 (by omega)]; exact hc 1 _ rfl⟩
theorem getD_mem {l : List S27} {i : Nat} (h : i < l.length) : l.getD i z27 ∈ l := by rw [List.getD_eq_getElem?_getD, List.getElem?_eq_getElem h]; exact List.getElem_mem _
def Sized (l : List S27) : Prop := ∀ x ∈ l, x.f0.size ≤ 140737488351232 ∧ x.f1.size ≤ 140737488351232
def firstBad : List S27 → Int
  | [] => 0
  | f :: t => if checkV f = 0 then firstBad t else checkV f
theorem firstBad_cons (f : S27) (t : List S27) : firstBad (f :: t) = if checkV f = 0 then firstBad t else checkV f := rfl
def checksV (l : List S27) : Int := if 16 < l.length then 8 else firstBad l
theorem drop_at {l : List S27} {i : Nat} (h : i < l.length) : l.drop i = l.getD i z27 :: l.drop (i + 1) := by
  rw [List.getD_eq_getElem?_getD, List.getElem?_eq_getElem h]
  exact List.drop_eq_getElem_cons h
structure Ne0 (e : Int) : Prop where
  a : (e == 0) = false
  b : (e != 0) = true
  c : decide (e = 0) = false
  d : decide (e ≠ 0) = true
  e : (e = 0) = False
theorem ne0 {e : Int} (h : e ≠ 0) : Ne0 e := ⟨beq_eq_false_iff_ne.2 h, by simp [bne, h], decide_eq_false h, decide_eq_true h, eq_false h⟩
theorem checkV_cases (f : S27) : checkV f = 0 ∨ checkV f = 3 ∨ checkV f = 8 := by
  unfold checkV
  repeat' split
  all_goals simp
set_option maxHeartbeats 8000000 in
set_option maxRecDepth 100000 in
theorem checks_c (A : Option Addr) (c : Nat) (l : List S27) (w : World) (hr : k27.C w A l.length l) (hc : l.length ≤ c) (hs : Sized l) : Calls Tryd.prog 17 #[.slice A l.length c] w fun e w' => e = .returned (.int .i64 (checksV l)) ∧ Below w.heap.size w w' := by
  have HR := Aside0.mk hr
  have HS := Aside0.mk hs
  clear hr hc hs
  by_cases a1 : 16 < l.length
  · have e : checksV l = 8 := by unfold checksV; rw [if_pos a1]
    rw [e]
    have D1 : decide ((l.length : Int) > 16) = true := decide_eq_true (by omega)
    have D2 : decide ((16 : Int) < (l.length : Int)) = true := D1
    have D3 : decide (16 < l.length) = true := decide_eq_true a1
    clear a1 e
    go_enter Tryd.func17, Tryd.ntmps17
    go_wp2_with (fail)
    go_ret
    exact ⟨rfl, Below.refl _ _⟩
  have HCV := Aside0.mk (show checksV l = firstBad l by unfold checksV; rw [if_neg a1])
  have HN := Aside0.mk a1
  have D1 : decide ((l.length : Int) > 16) = false := decide_eq_false (by omega)
  have D2 : decide ((16 : Int) < (l.length : Int)) = false := D1
  have D3 : decide (16 < l.length) = false := decide_eq_false a1
  clear a1
  go_enter Tryd.func17, Tryd.ntmps17
  go_wp2_with (fail)
  go_loopw [4, 5, 11] (fun v4 v5 v11 wr => ∃ i : Nat, v11 = .int .i64 (i : Int) ∧ Aside0 (i ≤ l.length) ∧ Aside0 (firstBad l = firstBad (l.drop i)) ∧ Aside0 (Below w.heap.size w wr)) (fun _ _ v11 _ => ((l.length : Int) - intOf v11).toNat)
  case atStart => exact ⟨0, rfl, ⟨Nat.zero_le _⟩, ⟨by rw [List.drop_zero]⟩, ⟨Below.refl _ _⟩⟩
  case round =>
    obtain ⟨i, rfl, HI, HF, HB⟩ := hrel
    by_cases d1 : i < l.length
    · obtain ⟨ad, hA, rows⟩ := el27 HR.out i d1
      subst hA
      obtain ⟨x0, x1⟩ := rows wr HB.out
      have hst := drop_at d1
      have hx := HS.out _ (getD_mem d1)
      generalize l.getD i z27 = x at x0 x1 hst hx
      obtain ⟨f0, f1⟩ := x
      dsimp only at x0 x1 hx
      have HX := Aside0.mk hx
      have HST := Aside0.mk hst
      have HJ := Aside0.mk d1
      have hif := ifb d1 (show l.length ≤ 1000000 by have := HN.out; omega)
      clear d1 hx hst rows
      obtain ⟨i1, i2, i3, i4, i5, i6, i7⟩ := hif
      have HB2 := Aside0.mk (show Below w.heap.size w (wr.alloc (.cells #[.string f0, .string f1] 27)) from below_step HB.out (below_alloc (Below.refl _ _) _))
      obtain ⟨ee, hee⟩ : ∃ q, checkV ⟨f0, f1⟩ = q := ⟨_, rfl⟩
      have HEE := Aside0.mk hee
      clear hee
      by_cases e0 : ee = 0
      · subst e0
        have HQ := Aside0.mk (show firstBad l = firstBad (l.drop (i + 1)) by rw [HF.out, HST.out, firstBad_cons, if_pos HEE.out])
        go_wp2_with (go_at_call 21; (with_reducible refine (check_c f0 f1 _ HX.out.1 HX.out.2).mono ?_); rintro e_ w3 ⟨rfl, hb⟩; rw [HEE.out]; have HB3 := Aside0.mk (below_step HB2.out hb); clear hb)
        go_roundw
        case rel => exact ⟨i + 1, by first | rfl | simp, ⟨by have := HJ.out; omega⟩, HQ, HB3⟩
        case measure => clear i1 i2; have := HJ.out; simp [intOf]; omega
      · have HQ := Aside0.mk (show checksV l = ee by rw [HCV.out, HF.out, HST.out, firstBad_cons, HEE.out, if_neg e0])
        obtain ⟨k1, k2, k3, k4, k5⟩ := ne0 e0
        clear e0
        go_wp2_with (go_at_call 21; (with_reducible refine (check_c f0 f1 _ HX.out.1 HX.out.2).mono ?_); rintro e_ w3 ⟨rfl, hb⟩; rw [HEE.out]; have HB3 := Aside0.mk (below_step HB2.out hb); clear hb)
        go_ret
        exact ⟨by rw [HQ.out]; rfl, HB3.out⟩
    · have hi : i = l.length := by have := HI.out; omega
      clear d1 HI
      subst hi
      have HQ := Aside0.mk (show checksV l = 0 by rw [HCV.out, HF.out, List.drop_length]; rfl)
      go_wp2_with (fail)
      go_ret
      exact ⟨by rw [HQ.out]; rfl, HB.out⟩
def restV (s : ByteArray) (n : Int) : ByteArray := s.extract n.toNat s.size
def takeV (s : ByteArray) : Int × S27 × ByteArray :=
  if 128 ≤ bt s 0 then (if bt s 0 < 148 then (0, tbl.getD (bt s 0 - 128).toNat z27, restV s 1) else (5, z27, ⟨#[]⟩))
  else if 64 ≤ bt s 0 then
    (if bt s 0 < 84 then (if (vtake (restV s 1)).2.2 = 0 then (0, ⟨(tbl.getD (bt s 0 - 64).toNat z27).f0, (vtake (restV s 1)).1⟩, restV (restV s 1) (vtake (restV s 1)).2.1) else ((vtake (restV s 1)).2.2, z27, ⟨#[]⟩)) else (5, z27, ⟨#[]⟩))
  else if bt s 0 ≠ 0 then (5, z27, ⟨#[]⟩)
  else if (vtake (restV s 1)).2.2 ≠ 0 then ((vtake (restV s 1)).2.2, z27, ⟨#[]⟩)
  else if (vtake (restV (restV s 1) (vtake (restV s 1)).2.1)).2.2 ≠ 0 then ((vtake (restV (restV s 1) (vtake (restV s 1)).2.1)).2.2, z27, ⟨#[]⟩)
  else (0, ⟨(vtake (restV s 1)).1, (vtake (restV (restV s 1) (vtake (restV s 1)).2.1)).1⟩, restV (restV (restV s 1) (vtake (restV s 1)).2.1) (vtake (restV (restV s 1) (vtake (restV s 1)).2.1)).2.1)
/-- What take tells: the fault; the field and the rest, where there is none. -/
def Took (s : ByteArray) (e : Ending) : Prop := ∃ a b r, e = .returned (.tuple #[.agg #[.string a, .string b], .string r, .int .i64 (takeV s).1]) ∧ ((takeV s).1 = 0 → a = (takeV s).2.1.f0 ∧ b = (takeV s).2.1.f1 ∧ r = (takeV s).2.2)
theorem take_ex (r : ByteArray) (hr : r.size ≤ 140737488351232) : (∃ (m : Nat) (v : ByteArray) (k : Nat), vtake r = (v, (m : Int), 0) ∧ m ≤ r.size ∧ varint_Take.f k r = some (v, (m : Int), 0)) ∨ (∃ v n e k, e ≠ 0 ∧ vtake r = (v, n, e) ∧ varint_Take.f k r = some (v, n, e)) := by
  obtain ⟨k, hk⟩ := (take_ev r (by omega)).rounds
  by_cases h0 : (vtake r).2.2 = 0
  · have hb : 0 ≤ (vtake r).2.1 ∧ (vtake r).2.1 ≤ r.size := by
      unfold vtake at h0 ⊢
      by_cases h1 : (vget r).2.2 = 0
      · have := vget_ok r h1
        rw [if_pos h1] at h0 ⊢
        by_cases h2 : (vget r).1 > (r.size : Int) - (vget r).2.1
        · rw [if_pos h2]; dsimp only; omega
        · rw [if_neg h2]; dsimp only; omega
      · rw [if_neg h1]; dsimp only; omega
    refine .inl ⟨(vtake r).2.1.toNat, (vtake r).1, k, ?_, by omega, ?_⟩
    · rw [Int.toNat_of_nonneg hb.1, ← h0]
    · rw [Int.toNat_of_nonneg hb.1, hk, ← h0]
  · exact .inr ⟨(vtake r).1, (vtake r).2.1, (vtake r).2.2, k, h0, rfl, hk⟩
theorem str_slice {n : Nat} {r : ByteArray} (h : n ≤ r.size) : ((0 : Int) ≤ (n : Int)) = True ∧ ((n : Int) ≤ (r.size : Int)) = True ∧ (n ≤ r.size) = True := ⟨eq_true (by omega), eq_true (by omega), eq_true h⟩
theorem blk_set' {w : World} {g i : Nat} {v : Value} {t : TypeId} {cs cs' : Array Value} (h : w.heap[g]? = some (.cells cs t (0, 0))) (e : cs.setIfInBounds i v = cs') : (w.setCell ⟨g, i, none⟩ v).heap[g]? = some (.cells cs' t (0, 0)) := by rw [← e]; exact blk_set h i v
set_option maxHeartbeats 8000000 in
set_option maxRecDepth 100000 in
theorem take_c (s : ByteArray) (w : World) (h0 : 0 < s.size) (hs : s.size ≤ 140737488351232) (hT : TB w) (hV : TV w) : Calls Tryd.prog 20 #[.string s] w fun e w' => Took s e ∧ Below w.heap.size w w' := by
  have hr := bt_range s 0
  obtain ⟨c, hc⟩ : ∃ q, bt s 0 = q := ⟨_, rfl⟩
  have hb0 : ∀ h : 0 < s.size, ((s[0]'h).toNat : Int) = c := fun h => by rw [← hc]; exact bt_at s 0 h
  rw [hc] at hr
  have W1 : IntKind.i64.wrap c = c := (i64_w _).trans (wrap_in c (by omega) (by omega))
  have W2 : wrap64 c = c := wrap_in c (by omega) (by omega)
  have q1 : (0 < s.size) = True := eq_true h0
  have q2 : ((0 : Int) < (s.size : Int)) = True := eq_true (by omega)
  have q3 : ((1 : Int) ≤ (s.size : Int)) = True := eq_true (by omega)
  have q4 : (1 ≤ s.size) = True := eq_true (by omega)
  obtain ⟨r1, hr1⟩ : ∃ q, s.extract 1 s.size = q := ⟨_, rfl⟩
  have HZ1 := Aside0.mk (show r1.size ≤ 140737488351232 by rw [← hr1, ByteArray.size_extract]; omega)
  have HR1 := Aside0.mk (show restV s 1 = r1 from hr1)
  have HC := Aside0.mk hc
  have HS := Aside0.mk (And.intro h0 hs)
  have HR := Aside0.mk hr
  have HV0 := Aside0.mk hV
  clear hc h0 hs
  have hb : Below w.heap.size w ((w.alloc (.cells #[.string (⟨#[]⟩ : ByteArray), .string (⟨#[]⟩ : ByteArray)] 27)).alloc (.cells #[.pointer (some ⟨w.heap.size, 0, none⟩), .pointer (some ⟨w.heap.size, 1, none⟩)] 57)) := below_alloc (below_alloc (Below.refl _ _) _) _
  have hf1 := blk_alloc (blk_new w (.cells #[.string (⟨#[]⟩ : ByteArray), .string (⟨#[]⟩ : ByteArray)] 27)) (.cells #[.pointer (some ⟨w.heap.size, 0, none⟩), .pointer (some ⟨w.heap.size, 1, none⟩)] 57)
  have htx := blk_new (w.alloc (.cells #[.string (⟨#[]⟩ : ByteArray), .string (⟨#[]⟩ : ByteArray)] 27)) (.cells #[.pointer (some ⟨w.heap.size, 0, none⟩), .pointer (some ⟨w.heap.size, 1, none⟩)] 57)
  rw [show (w.alloc (.cells #[.string (⟨#[]⟩ : ByteArray), .string (⟨#[]⟩ : ByteArray)] 27)).heap.size = w.heap.size + 1 from Array.size_push _] at htx
  have HT3 := Aside0.mk (Kd.C_below hT hb)
  have HV3 := Aside0.mk (Kd.C_below hV hb)
  have HB1 := Aside0.mk hb
  have HF1 := Aside0.mk hf1
  have HTX1 := Aside0.mk htx
  clear hT hV hb hf1 htx
  by_cases a1 : 128 ≤ c
  · have D1 : decide (c ≥ 128) = true := decide_eq_true a1
    have D1' : decide (128 ≤ c) = true := D1
    have W3 : wrap64 (c - 128) = c - 128 := wrap_in _ (by omega) (by omega)
    have W4 : IntKind.i64.wrap (c - 128) = c - 128 := (i64_w _).trans W3
    by_cases a2 : c < 148
    · have HEV := Aside0.mk (show entryV (c - 128) = (tbl.getD (c - 128).toNat z27, true) by unfold entryV; rw [if_pos (by omega)])
      have HTK := Aside0.mk (show takeV s = (0, tbl.getD (c - 128).toNat z27, r1) by unfold takeV; rw [HC.out, if_pos a1, if_pos a2, HR1.out])
      generalize tbl.getD (c - 128).toNat z27 = x at HEV HTK
      obtain ⟨x0, x1⟩ := x
      clear a1 a2 hr
      go_enter Tryd.func20, Tryd.ntmps20
      go_wp2_with (first | (go_at_call 10; (with_reducible refine (entry_c (c - 128) _ HT3.out).mono ?_); rintro e_ w3 ⟨rfl, hb⟩; rw [HEV.out]; dsimp only; have hbz : Below w3.heap.size w3 (w3.alloc (.cells #[.string x0, .string x1] 27)) := below_alloc (Below.refl _ _) _; have hnw := blk_new w3 (.cells #[.string x0, .string x1] 27); have hw4e : ∃ x, w3.alloc (.cells #[.string x0, .string x1] 27) = x := ⟨_, rfl⟩; obtain ⟨w4, hw4⟩ := hw4e; rw [hw4] at hbz hnw; have HB4 := Aside0.mk (below_step (below_step HB1.out hb) hbz); have hf4 := blk_below (blk_below HF1.out hb) hbz; have HF4 := Aside0.mk hf4; have HTX4 := Aside0.mk (blk_below (blk_below HTX1.out hb) hbz); have c0 := (show _ = some (Value.string (⟨#[]⟩ : ByteArray)) from (blk_cell hf4 0).trans rfl); have c1 := (show _ = some (Value.string (⟨#[]⟩ : ByteArray)) from (blk_cell hf4 1).trans rfl); have fr0 := blk_frozen hf4 0; have fr1 := blk_frozen hf4 1; have d0 := (show _ = some (Value.string x0) from (blk_cell hnw 0).trans rfl); have d1 := (show _ = some (Value.string x1) from (blk_cell hnw 1).trans rfl); have HV4 := Aside0.mk (Kd.C_below (Kd.C_below HV3.out hb) hbz); clear hb hf4 hbz hnw))
      refine bodyPost_ret (results_ctt rfl _ _ w.heap.size 27 #[.string x0, .string x1] (0, 0) _ rfl ?hh1 Tryd.underlying27 rfl (by kernel_rfl)) rfl ?_
      case hh1 =>
        (with_reducible repeat (first | exact HF4.out | exact blk_new _ _ | refine blk_drewN ?_ _ | refine blk_drew ?_ | refine blk_alloc ?_ _ | apply blk_set'))
        all_goals rfl
      exact ⟨⟨x0, x1, r1, by rw [HTK.out]; rfl, fun _ => by rw [HTK.out]; exact ⟨rfl, rfl, rfl⟩⟩, (by repeat (first | exact HB4.out | exact HB1.out | exact Below.refl _ _ | apply below_drew1 | apply pw_below_drewN | (refine below_set ?_ (Nat.le_refl _)) | apply below_alloc))⟩
    · have HEV := Aside0.mk (show entryV (c - 128) = (⟨⟨#[]⟩, ⟨#[]⟩⟩, false) by unfold entryV; rw [if_neg (by omega)]; rfl)
      have HTK := Aside0.mk (show takeV s = (5, z27, ⟨#[]⟩) by unfold takeV; rw [HC.out, if_pos a1, if_neg a2])
      have HNE := Aside0.mk (show (5 : Int) ≠ 0 by decide)
      clear a1 a2 hr
      go_enter Tryd.func20, Tryd.ntmps20
      go_wp2_with (first | (go_at_call 10; (with_reducible refine (entry_c (c - 128) _ HT3.out).mono ?_); rintro e_ w3 ⟨rfl, hb⟩; rw [HEV.out]; dsimp only; have HB4 := Aside0.mk (below_step HB1.out hb); have hf4 := blk_below HF1.out hb; have HF4 := Aside0.mk hf4; have ha := blk_alloc hf4 (.cells #[.string (⟨#[]⟩ : ByteArray), .string (⟨#[]⟩ : ByteArray)] 27); have hs := blk_alloc (blk_set hf4 0 (.string (⟨#[]⟩ : ByteArray))) (.cells #[.string (⟨#[]⟩ : ByteArray), .string (⟨#[]⟩ : ByteArray)] 27); have c0 := (show _ = some (Value.string (⟨#[]⟩ : ByteArray)) from (blk_cell ha 0).trans rfl); have c1 := (show _ = some (Value.string (⟨#[]⟩ : ByteArray)) from (blk_cell ha 1).trans rfl); have fr0 := blk_frozen ha 0; have fr1 := blk_frozen ha 1; have s1 := (show _ = some (Value.string (⟨#[]⟩ : ByteArray)) from (blk_cell hs 1).trans rfl); have fs1 := blk_frozen hs 1; clear hb hf4 ha hs))
      refine bodyPost_ret (results_ctt rfl _ _ w.heap.size 27 #[.string (⟨#[]⟩ : ByteArray), .string (⟨#[]⟩ : ByteArray)] (0, 0) _ rfl ?hh2 Tryd.underlying27 rfl (by kernel_rfl)) rfl ?_
      case hh2 =>
        (with_reducible repeat (first | exact HF4.out | exact blk_new _ _ | refine blk_drewN ?_ _ | refine blk_drew ?_ | refine blk_alloc ?_ _ | apply blk_set'))
        all_goals rfl
      exact ⟨⟨_, _, _, by rw [HTK.out]; rfl, fun h => absurd (by rw [HTK.out] at h; exact h) HNE.out⟩, (by repeat (first | exact HB4.out | exact HB1.out | exact Below.refl _ _ | apply below_drew1 | apply pw_below_drewN | (refine below_set ?_ (Nat.le_refl _)) | apply below_alloc))⟩
  have D1 : decide (c ≥ 128) = false := decide_eq_false a1
  have D1' : decide (128 ≤ c) = false := D1
  by_cases b1 : 64 ≤ c
  · have D2 : decide (c ≥ 64) = true := decide_eq_true b1
    have D2' : decide (64 ≤ c) = true := D2
    have W3 : wrap64 (c - 64) = c - 64 := wrap_in _ (by omega) (by omega)
    have W4 : IntKind.i64.wrap (c - 64) = c - 64 := (i64_w _).trans W3
    by_cases b2 : c < 84
    · have HEV := Aside0.mk (show entryV (c - 64) = (tbl.getD (c - 64).toNat z27, true) by unfold entryV; rw [if_pos (by omega)])
      rcases take_ex r1 HZ1.out with ⟨m, v, k1, hk1, hbk1, hkk1⟩ | ⟨v_, n_, e_, k1, hne, hk1, hkk1⟩
      · have HTK := Aside0.mk (show takeV s = (0, ⟨(tbl.getD (c - 64).toNat z27).f0, v⟩, restV r1 (m : Int)) by unfold takeV; rw [HC.out, if_neg a1, if_pos b1, if_pos b2, HR1.out, hk1]; rfl)
        generalize tbl.getD (c - 64).toNat z27 = x at HEV HTK
        obtain ⟨x0, x1⟩ := x
        dsimp only at HTK
        have Hk1 := Aside0.mk hkk1
        obtain ⟨z1, z2, z3⟩ := str_slice hbk1
        clear a1 b1 b2 hr hk1 hkk1 hbk1
        go_enter Tryd.func20, Tryd.ntmps20
        go_wp2_with (first | (go_at_call 10; (with_reducible refine (entry_c (c - 64) _ HT3.out).mono ?_); rintro e_ w3 ⟨rfl, hb⟩; rw [HEV.out]; dsimp only; have hbz : Below w3.heap.size w3 (w3.alloc (.cells #[.string x0, .string x1] 27)) := below_alloc (Below.refl _ _) _; have hnw := blk_new w3 (.cells #[.string x0, .string x1] 27); have hw4e : ∃ x, w3.alloc (.cells #[.string x0, .string x1] 27) = x := ⟨_, rfl⟩; obtain ⟨w4, hw4⟩ := hw4e; rw [hw4] at hbz hnw; have HB4 := Aside0.mk (below_step (below_step HB1.out hb) hbz); have hf4 := blk_below (blk_below HF1.out hb) hbz; have HF4 := Aside0.mk hf4; have HTX4 := Aside0.mk (blk_below (blk_below HTX1.out hb) hbz); have c0 := (show _ = some (Value.string (⟨#[]⟩ : ByteArray)) from (blk_cell hf4 0).trans rfl); have c1 := (show _ = some (Value.string (⟨#[]⟩ : ByteArray)) from (blk_cell hf4 1).trans rfl); have fr0 := blk_frozen hf4 0; have fr1 := blk_frozen hf4 1; have d0 := (show _ = some (Value.string x0) from (blk_cell hnw 0).trans rfl); have d1 := (show _ = some (Value.string x1) from (blk_cell hnw 1).trans rfl); have HV4 := Aside0.mk (Kd.C_below (Kd.C_below HV3.out hb) hbz); clear hb hf4 hbz hnw))
        have t0 := (show _ = some (Value.pointer (some ⟨w.heap.size, 0, none⟩)) from (blk_cell HTX4.out 0).trans rfl)
        have t1 := (show _ = some (Value.pointer (some ⟨w.heap.size, 1, none⟩)) from (blk_cell HTX4.out 1).trans rfl)
        go_region
        (try simp only [Exit.inBlock, Exit.then])
        go_wp2_with (fail)
        refine wp_loop_rounds 2 ?_
        rw [rounds_succ]
        go_wp2_with (first | (go_at_call 28; (with_reducible refine (varint_Take.calls k1 r1 v m 0 _ ?hvk1_ Hk1.out).mono ?_); (case hvk1_ => exact Kd.C_below HV0.out (by repeat (first | exact HB4.out | exact HB1.out | exact Below.refl _ _ | apply below_drew1 | apply pw_below_drewN | (refine below_set ?_ (Nat.le_refl _)) | apply below_alloc))); rintro e_ w9 ⟨rfl, ⟨nd, rfl⟩⟩))
        refine Calm.wp_region_calmC [] [0, 1, 2, 3, 4, 5] [6, 7] (by kernel_rfl) (by kernel_rfl) Calm.allC_nil ?_
        repeat (first
          | (refine Calm.g_value (v := ?_) (a' := ?_) rfl rfl (by rfl) ?_ ?_ ?_; rotate_left; (· rintro w' hS'; (try simp only [Calm.SC_cons, Calm.SC_nil, Nat.reduceEqDiff, forall_const, false_implies, and_true, true_and] at hS'); (try obtain ⟨hS1, hS2⟩ := hS'); go_simp; with_reducible rfl); rotate_left; (· simp only [Act.put, List.setIfInBounds_toArray, List.set_cons_zero, List.set_cons_succ, i64_w, i32_w]; rfl)))
        refine Calm.g_nil ?_
        refine Calm.c_store (w1 := ?_) rfl (by rfl) rfl ?_ ?_ ?_
        rotate_left
        · go_simp; rfl
        · repeat (first | exact Calm.okC_nil | (refine Calm.okC_cons (Or.inl (by decide +kernel)) ?_) | (refine Calm.okC_cons (Or.inr (by (first | assumption | (go_simp; done)))) ?_))
        refine Calm.c_value (v := ?_) (w1 := ?_) (a' := ?_) rfl rfl (by rfl) ?_ ?_ ?_ ?_
        rotate_left
        rotate_left
        · go_simp; first | (refine And.intro ?_ ?_ <;> rfl) | rfl
        · repeat (first | exact Calm.okC_nil | (refine Calm.okC_cons (Or.inl (by decide +kernel)) ?_) | (refine Calm.okC_cons (Or.inr (by (first | assumption | (go_simp; done)))) ?_))
        rotate_left
        · simp only [Act.put, List.setIfInBounds_toArray, List.set_cons_zero, List.set_cons_succ, i64_w, i32_w]; rfl
        refine Calm.h_nil ?_
        simp only [Exit.inBlock, Exit.then]
        go_wp2_with (fail)
        rw [rounds_succ]
        go_wp2_with (fail)
        refine bodyPost_ret (results_ctt rfl _ _ w.heap.size 27 #[.string x0, .string v] (0, 0) _ rfl ?hh3 Tryd.underlying27 rfl (by kernel_rfl)) rfl ?_
        case hh3 =>
          (with_reducible repeat (first | exact HF4.out | exact blk_new _ _ | refine blk_drewN ?_ _ | refine blk_drew ?_ | refine blk_alloc ?_ _ | apply blk_set'))
          all_goals rfl
        exact ⟨⟨x0, v, (r1.extract m r1.size), by rw [HTK.out]; rfl, fun _ => by rw [HTK.out]; exact ⟨rfl, rfl, rfl⟩⟩, (by repeat (first | exact HB4.out | exact HB1.out | exact Below.refl _ _ | apply below_drew1 | apply pw_below_drewN | (refine below_set ?_ (Nat.le_refl _)) | apply below_alloc))⟩
      · have HTK := Aside0.mk (show takeV s = (e_, z27, ⟨#[]⟩) by unfold takeV; rw [HC.out, if_neg a1, if_pos b1, if_pos b2, HR1.out, hk1, if_neg hne])
        generalize tbl.getD (c - 64).toNat z27 = x at HEV
        obtain ⟨x0, x1⟩ := x
        have Hk1 := Aside0.mk hkk1
        have HNE := Aside0.mk hne
        obtain ⟨k1_, k2_, k3_, k4_, k5_⟩ := ne0 hne
        clear a1 b1 b2 hr hk1 hkk1 hne
        go_enter Tryd.func20, Tryd.ntmps20
        go_wp2_with (first | (go_at_call 10; (with_reducible refine (entry_c (c - 64) _ HT3.out).mono ?_); rintro e_ w3 ⟨rfl, hb⟩; rw [HEV.out]; dsimp only; have hbz : Below w3.heap.size w3 (w3.alloc (.cells #[.string x0, .string x1] 27)) := below_alloc (Below.refl _ _) _; have hnw := blk_new w3 (.cells #[.string x0, .string x1] 27); have hw4e : ∃ x, w3.alloc (.cells #[.string x0, .string x1] 27) = x := ⟨_, rfl⟩; obtain ⟨w4, hw4⟩ := hw4e; rw [hw4] at hbz hnw; have HB4 := Aside0.mk (below_step (below_step HB1.out hb) hbz); have hf4 := blk_below (blk_below HF1.out hb) hbz; have HF4 := Aside0.mk hf4; have HTX4 := Aside0.mk (blk_below (blk_below HTX1.out hb) hbz); have c0 := (show _ = some (Value.string (⟨#[]⟩ : ByteArray)) from (blk_cell hf4 0).trans rfl); have c1 := (show _ = some (Value.string (⟨#[]⟩ : ByteArray)) from (blk_cell hf4 1).trans rfl); have fr0 := blk_frozen hf4 0; have fr1 := blk_frozen hf4 1; have d0 := (show _ = some (Value.string x0) from (blk_cell hnw 0).trans rfl); have d1 := (show _ = some (Value.string x1) from (blk_cell hnw 1).trans rfl); have HV4 := Aside0.mk (Kd.C_below (Kd.C_below HV3.out hb) hbz); clear hb hf4 hbz hnw))
        have t0 := (show _ = some (Value.pointer (some ⟨w.heap.size, 0, none⟩)) from (blk_cell HTX4.out 0).trans rfl)
        have t1 := (show _ = some (Value.pointer (some ⟨w.heap.size, 1, none⟩)) from (blk_cell HTX4.out 1).trans rfl)
        go_region
        (try simp only [Exit.inBlock, Exit.then])
        go_wp2_with (fail)
        refine wp_loop_rounds 1 ?_
        rw [rounds_succ]
        go_wp2_with (first | (go_at_call 28; (with_reducible refine (varint_Take.calls k1 r1 v_ n_ e_ _ ?hvk1_ Hk1.out).mono ?_); (case hvk1_ => exact Kd.C_below HV0.out (by repeat (first | exact HB4.out | exact HB1.out | exact Below.refl _ _ | apply below_drew1 | apply pw_below_drewN | (refine below_set ?_ (Nat.le_refl _)) | apply below_alloc))); rintro e_ w9 ⟨rfl, ⟨nd, rfl⟩⟩))
        refine bodyPost_ret (results_ctt rfl _ _ w.heap.size 27 #[.string x0, .string (⟨#[]⟩ : ByteArray)] (0, 0) _ rfl ?hh4 Tryd.underlying27 rfl (by kernel_rfl)) rfl ?_
        case hh4 =>
          (with_reducible repeat (first | exact HF4.out | exact blk_new _ _ | refine blk_drewN ?_ _ | refine blk_drew ?_ | refine blk_alloc ?_ _ | apply blk_set'))
          all_goals rfl
        exact ⟨⟨_, _, _, by rw [HTK.out]; rfl, fun h => absurd (by rw [HTK.out] at h; exact h) HNE.out⟩, (by repeat (first | exact HB4.out | exact HB1.out | exact Below.refl _ _ | apply below_drew1 | apply pw_below_drewN | (refine below_set ?_ (Nat.le_refl _)) | apply below_alloc))⟩
    · have HEV := Aside0.mk (show entryV (c - 64) = (⟨⟨#[]⟩, ⟨#[]⟩⟩, false) by unfold entryV; rw [if_neg (by omega)]; rfl)
      have HTK := Aside0.mk (show takeV s = (5, z27, ⟨#[]⟩) by unfold takeV; rw [HC.out, if_neg a1, if_pos b1, if_neg b2])
      have HNE := Aside0.mk (show (5 : Int) ≠ 0 by decide)
      clear a1 b1 b2 hr
      go_enter Tryd.func20, Tryd.ntmps20
      go_wp2_with (first | (go_at_call 10; (with_reducible refine (entry_c (c - 64) _ HT3.out).mono ?_); rintro e_ w3 ⟨rfl, hb⟩; rw [HEV.out]; dsimp only; have HB4 := Aside0.mk (below_step HB1.out hb); have hf4 := blk_below HF1.out hb; have HF4 := Aside0.mk hf4; have ha := blk_alloc hf4 (.cells #[.string (⟨#[]⟩ : ByteArray), .string (⟨#[]⟩ : ByteArray)] 27); have hs := blk_alloc (blk_set hf4 0 (.string (⟨#[]⟩ : ByteArray))) (.cells #[.string (⟨#[]⟩ : ByteArray), .string (⟨#[]⟩ : ByteArray)] 27); have c0 := (show _ = some (Value.string (⟨#[]⟩ : ByteArray)) from (blk_cell ha 0).trans rfl); have c1 := (show _ = some (Value.string (⟨#[]⟩ : ByteArray)) from (blk_cell ha 1).trans rfl); have fr0 := blk_frozen ha 0; have fr1 := blk_frozen ha 1; have s1 := (show _ = some (Value.string (⟨#[]⟩ : ByteArray)) from (blk_cell hs 1).trans rfl); have fs1 := blk_frozen hs 1; clear hb hf4 ha hs))
      refine bodyPost_ret (results_ctt rfl _ _ w.heap.size 27 #[.string (⟨#[]⟩ : ByteArray), .string (⟨#[]⟩ : ByteArray)] (0, 0) _ rfl ?hh5 Tryd.underlying27 rfl (by kernel_rfl)) rfl ?_
      case hh5 =>
        (with_reducible repeat (first | exact HF4.out | exact blk_new _ _ | refine blk_drewN ?_ _ | refine blk_drew ?_ | refine blk_alloc ?_ _ | apply blk_set'))
        all_goals rfl
      exact ⟨⟨_, _, _, by rw [HTK.out]; rfl, fun h => absurd (by rw [HTK.out] at h; exact h) HNE.out⟩, (by repeat (first | exact HB4.out | exact HB1.out | exact Below.refl _ _ | apply below_drew1 | apply pw_below_drewN | (refine below_set ?_ (Nat.le_refl _)) | apply below_alloc))⟩
  have D2 : decide (c ≥ 64) = false := decide_eq_false b1
  have D2' : decide (64 ≤ c) = false := D2
  by_cases c1 : c = 0
  · subst c1
    rcases take_ex r1 HZ1.out with ⟨m, v, k1, hk1, hbk1, hkk1⟩ | ⟨v_, n_, e_, k1, hne, hk1, hkk1⟩
    · obtain ⟨z1, z2, z3⟩ := str_slice hbk1
      obtain ⟨r2, hr2⟩ : ∃ q, r1.extract m r1.size = q := ⟨_, rfl⟩
      have HZ2 := Aside0.mk (show r2.size ≤ 140737488351232 by rw [← hr2, ByteArray.size_extract]; have := HZ1.out; omega)
      have HR2 := Aside0.mk (show restV r1 (m : Int) = r2 from hr2)
      have Hk1 := Aside0.mk hkk1
      rcases take_ex r2 HZ2.out with ⟨m2, u, k2, hk2, hbk2, hkk2⟩ | ⟨v_, n_, e_, k2, hne, hk2, hkk2⟩
      · have HTK := Aside0.mk (show takeV s = (0, ⟨v, u⟩, restV r2 (m2 : Int)) by unfold takeV; rw [HC.out, if_neg (by omega), if_neg (by omega), if_neg (by simp), HR1.out, hk1]; dsimp only; rw [if_neg (by simp), HR2.out, hk2]; rfl)
        have Hk2 := Aside0.mk hkk2
        obtain ⟨z4, z5, z6⟩ := str_slice hbk2
        clear a1 b1 hr hk1 hkk1 hbk1 hk2 hkk2 hbk2
        go_enter Tryd.func20, Tryd.ntmps20
        go_wp2_with (fail)
        refine wp_loop_rounds 3 ?_
        rw [rounds_succ]
        go_wp2_with (first | (go_at_call 28; (with_reducible refine (varint_Take.calls k1 r1 v m 0 _ ?hvk1_ Hk1.out).mono ?_); (case hvk1_ => exact Kd.C_below HV0.out (by repeat (first | exact HB4.out | exact HB1.out | exact Below.refl _ _ | apply below_drew1 | apply pw_below_drewN | (refine below_set ?_ (Nat.le_refl _)) | apply below_alloc))); rintro e_ w9 ⟨rfl, ⟨nd, rfl⟩⟩))
        refine Calm.wp_region_calmC [] [0, 1, 2, 3, 4, 5] [6, 7] (by kernel_rfl) (by kernel_rfl) Calm.allC_nil ?_
        repeat (first
          | (refine Calm.g_value (v := ?_) (a' := ?_) rfl rfl (by rfl) ?_ ?_ ?_; rotate_left; (· rintro w' hS'; (try simp only [Calm.SC_cons, Calm.SC_nil, Nat.reduceEqDiff, forall_const, false_implies, and_true, true_and] at hS'); (try obtain ⟨hS1, hS2⟩ := hS'); go_simp; with_reducible rfl); rotate_left; (· simp only [Act.put, List.setIfInBounds_toArray, List.set_cons_zero, List.set_cons_succ, i64_w, i32_w]; rfl)))
        refine Calm.g_nil ?_
        refine Calm.c_store (w1 := ?_) rfl (by rfl) rfl ?_ ?_ ?_
        rotate_left
        · go_simp; rfl
        · repeat (first | exact Calm.okC_nil | (refine Calm.okC_cons (Or.inl (by decide +kernel)) ?_) | (refine Calm.okC_cons (Or.inr (by (first | assumption | (go_simp; done)))) ?_))
        refine Calm.c_value (v := ?_) (w1 := ?_) (a' := ?_) rfl rfl (by rfl) ?_ ?_ ?_ ?_
        rotate_left
        rotate_left
        · go_simp; first | (refine And.intro ?_ ?_ <;> rfl) | rfl
        · repeat (first | exact Calm.okC_nil | (refine Calm.okC_cons (Or.inl (by decide +kernel)) ?_) | (refine Calm.okC_cons (Or.inr (by (first | assumption | (go_simp; done)))) ?_))
        rotate_left
        · simp only [Act.put, List.setIfInBounds_toArray, List.set_cons_zero, List.set_cons_succ, i64_w, i32_w]; rfl
        refine Calm.h_nil ?_
        simp only [Exit.inBlock, Exit.then]
        go_wp2_with (fail)
        rw [rounds_succ]
        go_wp2_with (first | (go_at_call 28; (with_reducible refine (varint_Take.calls k2 r2 u m2 0 _ ?hvk2_ Hk2.out).mono ?_); (case hvk2_ => exact Kd.C_below HV0.out (by repeat (first | exact HB4.out | exact HB1.out | exact Below.refl _ _ | apply below_drew1 | apply pw_below_drewN | (refine below_set ?_ (Nat.le_refl _)) | apply below_alloc))); rintro e_ w9 ⟨rfl, ⟨nd, rfl⟩⟩))
        refine Calm.wp_region_calmC [] [0, 1, 2, 3, 4, 5] [6, 7] (by kernel_rfl) (by kernel_rfl) Calm.allC_nil ?_
        repeat (first
          | (refine Calm.g_value (v := ?_) (a' := ?_) rfl rfl (by rfl) ?_ ?_ ?_; rotate_left; (· rintro w' hS'; (try simp only [Calm.SC_cons, Calm.SC_nil, Nat.reduceEqDiff, forall_const, false_implies, and_true, true_and] at hS'); (try obtain ⟨hS1, hS2⟩ := hS'); go_simp; with_reducible rfl); rotate_left; (· simp only [Act.put, List.setIfInBounds_toArray, List.set_cons_zero, List.set_cons_succ, i64_w, i32_w]; rfl)))
        refine Calm.g_nil ?_
        refine Calm.c_store (w1 := ?_) rfl (by rfl) rfl ?_ ?_ ?_
        rotate_left
        · go_simp; rfl
        · repeat (first | exact Calm.okC_nil | (refine Calm.okC_cons (Or.inl (by decide +kernel)) ?_) | (refine Calm.okC_cons (Or.inr (by (first | assumption | (go_simp; done)))) ?_))
        refine Calm.c_value (v := ?_) (w1 := ?_) (a' := ?_) rfl rfl (by rfl) ?_ ?_ ?_ ?_
        rotate_left
        rotate_left
        · go_simp; first | (refine And.intro ?_ ?_ <;> rfl) | rfl
        · repeat (first | exact Calm.okC_nil | (refine Calm.okC_cons (Or.inl (by decide +kernel)) ?_) | (refine Calm.okC_cons (Or.inr (by (first | assumption | (go_simp; done)))) ?_))
        rotate_left
        · simp only [Act.put, List.setIfInBounds_toArray, List.set_cons_zero, List.set_cons_succ, i64_w, i32_w]; rfl
        refine Calm.h_nil ?_
        simp only [Exit.inBlock, Exit.then]
        go_wp2_with (fail)
        rw [rounds_succ]
        go_wp2_with (fail)
        refine bodyPost_ret (results_ctt rfl _ _ w.heap.size 27 #[.string v, .string u] (0, 0) _ rfl ?hh6 Tryd.underlying27 rfl (by kernel_rfl)) rfl ?_
        case hh6 =>
          (with_reducible repeat (first | exact HF4.out | exact blk_new _ _ | refine blk_drewN ?_ _ | refine blk_drew ?_ | refine blk_alloc ?_ _ | apply blk_set'))
          all_goals rfl
        exact ⟨⟨v, u, (r2.extract m2 r2.size), by rw [HTK.out]; rfl, fun _ => by rw [HTK.out]; exact ⟨rfl, rfl, rfl⟩⟩, (by repeat (first | exact HB4.out | exact HB1.out | exact Below.refl _ _ | apply below_drew1 | apply pw_below_drewN | (refine below_set ?_ (Nat.le_refl _)) | apply below_alloc))⟩
      · have HTK := Aside0.mk (show takeV s = (e_, z27, ⟨#[]⟩) by unfold takeV; rw [HC.out, if_neg (by omega), if_neg (by omega), if_neg (by simp), HR1.out, hk1]; dsimp only; rw [if_neg (by simp), HR2.out, hk2]; dsimp only; rw [if_pos hne])
        have Hk2 := Aside0.mk hkk2
        have HNE := Aside0.mk hne
        obtain ⟨k1_, k2_, k3_, k4_, k5_⟩ := ne0 hne
        clear a1 b1 hr hk1 hkk1 hbk1 hk2 hkk2 hne
        go_enter Tryd.func20, Tryd.ntmps20
        go_wp2_with (fail)
        refine wp_loop_rounds 2 ?_
        rw [rounds_succ]
        go_wp2_with (first | (go_at_call 28; (with_reducible refine (varint_Take.calls k1 r1 v m 0 _ ?hvk1_ Hk1.out).mono ?_); (case hvk1_ => exact Kd.C_below HV0.out (by repeat (first | exact HB4.out | exact HB1.out | exact Below.refl _ _ | apply below_drew1 | apply pw_below_drewN | (refine below_set ?_ (Nat.le_refl _)) | apply below_alloc))); rintro e_ w9 ⟨rfl, ⟨nd, rfl⟩⟩))
        refine Calm.wp_region_calmC [] [0, 1, 2, 3, 4, 5] [6, 7] (by kernel_rfl) (by kernel_rfl) Calm.allC_nil ?_
        repeat (first
          | (refine Calm.g_value (v := ?_) (a' := ?_) rfl rfl (by rfl) ?_ ?_ ?_; rotate_left; (· rintro w' hS'; (try simp only [Calm.SC_cons, Calm.SC_nil, Nat.reduceEqDiff, forall_const, false_implies, and_true, true_and] at hS'); (try obtain ⟨hS1, hS2⟩ := hS'); go_simp; with_reducible rfl); rotate_left; (· simp only [Act.put, List.setIfInBounds_toArray, List.set_cons_zero, List.set_cons_succ, i64_w, i32_w]; rfl)))
        refine Calm.g_nil ?_
        refine Calm.c_store (w1 := ?_) rfl (by rfl) rfl ?_ ?_ ?_
        rotate_left
        · go_simp; rfl
        · repeat (first | exact Calm.okC_nil | (refine Calm.okC_cons (Or.inl (by decide +kernel)) ?_) | (refine Calm.okC_cons (Or.inr (by (first | assumption | (go_simp; done)))) ?_))
        refine Calm.c_value (v := ?_) (w1 := ?_) (a' := ?_) rfl rfl (by rfl) ?_ ?_ ?_ ?_
        rotate_left
        rotate_left
        · go_simp; first | (refine And.intro ?_ ?_ <;> rfl) | rfl
        · repeat (first | exact Calm.okC_nil | (refine Calm.okC_cons (Or.inl (by decide +kernel)) ?_) | (refine Calm.okC_cons (Or.inr (by (first | assumption | (go_simp; done)))) ?_))
        rotate_left
        · simp only [Act.put, List.setIfInBounds_toArray, List.set_cons_zero, List.set_cons_succ, i64_w, i32_w]; rfl
        refine Calm.h_nil ?_
        simp only [Exit.inBlock, Exit.then]
        go_wp2_with (fail)
        rw [rounds_succ]
        go_wp2_with (first | (go_at_call 28; (with_reducible refine (varint_Take.calls k2 r2 v_ n_ e_ _ ?hvk2_ Hk2.out).mono ?_); (case hvk2_ => exact Kd.C_below HV0.out (by repeat (first | exact HB4.out | exact HB1.out | exact Below.refl _ _ | apply below_drew1 | apply pw_below_drewN | (refine below_set ?_ (Nat.le_refl _)) | apply below_alloc))); rintro e_ w9 ⟨rfl, ⟨nd, rfl⟩⟩))
        refine bodyPost_ret (results_ctt rfl _ _ w.heap.size 27 #[.string v, .string (⟨#[]⟩ : ByteArray)] (0, 0) _ rfl ?hh7 Tryd.underlying27 rfl (by kernel_rfl)) rfl ?_
        case hh7 =>
          (with_reducible repeat (first | exact HF4.out | exact blk_new _ _ | refine blk_drewN ?_ _ | refine blk_drew ?_ | refine blk_alloc ?_ _ | apply blk_set'))
          all_goals rfl
        exact ⟨⟨_, _, _, by rw [HTK.out]; rfl, fun h => absurd (by rw [HTK.out] at h; exact h) HNE.out⟩, (by repeat (first | exact HB4.out | exact HB1.out | exact Below.refl _ _ | apply below_drew1 | apply pw_below_drewN | (refine below_set ?_ (Nat.le_refl _)) | apply below_alloc))⟩
    · have HTK := Aside0.mk (show takeV s = (e_, z27, ⟨#[]⟩) by unfold takeV; rw [HC.out, if_neg (by omega), if_neg (by omega), if_neg (by simp), HR1.out, hk1]; dsimp only; rw [if_pos hne])
      have Hk1 := Aside0.mk hkk1
      have HNE := Aside0.mk hne
      obtain ⟨k1_, k2_, k3_, k4_, k5_⟩ := ne0 hne
      clear a1 b1 hr hk1 hkk1 hne
      go_enter Tryd.func20, Tryd.ntmps20
      go_wp2_with (fail)
      refine wp_loop_rounds 1 ?_
      rw [rounds_succ]
      go_wp2_with (first | (go_at_call 28; (with_reducible refine (varint_Take.calls k1 r1 v_ n_ e_ _ ?hvk1_ Hk1.out).mono ?_); (case hvk1_ => exact Kd.C_below HV0.out (by repeat (first | exact HB4.out | exact HB1.out | exact Below.refl _ _ | apply below_drew1 | apply pw_below_drewN | (refine below_set ?_ (Nat.le_refl _)) | apply below_alloc))); rintro e_ w9 ⟨rfl, ⟨nd, rfl⟩⟩))
      refine bodyPost_ret (results_ctt rfl _ _ w.heap.size 27 #[.string (⟨#[]⟩ : ByteArray), .string (⟨#[]⟩ : ByteArray)] (0, 0) _ rfl ?hh8 Tryd.underlying27 rfl (by kernel_rfl)) rfl ?_
      case hh8 =>
        (with_reducible repeat (first | exact HF4.out | exact blk_new _ _ | refine blk_drewN ?_ _ | refine blk_drew ?_ | refine blk_alloc ?_ _ | apply blk_set'))
        all_goals rfl
      exact ⟨⟨_, _, _, by rw [HTK.out]; rfl, fun h => absurd (by rw [HTK.out] at h; exact h) HNE.out⟩, (by repeat (first | exact HB4.out | exact HB1.out | exact Below.refl _ _ | apply below_drew1 | apply pw_below_drewN | (refine below_set ?_ (Nat.le_refl _)) | apply below_alloc))⟩
  · have HTK := Aside0.mk (show takeV s = (5, z27, ⟨#[]⟩) by unfold takeV; rw [HC.out, if_neg a1, if_neg b1, if_pos c1])
    have HNE := Aside0.mk (show (5 : Int) ≠ 0 by decide)
    obtain ⟨k1_, k2_, k3_, k4_, k5_⟩ := ne0 c1
    clear a1 b1 c1 hr
    go_enter Tryd.func20, Tryd.ntmps20
    go_wp2_with (fail)
    refine bodyPost_ret (results_ctt rfl _ _ w.heap.size 27 #[.string (⟨#[]⟩ : ByteArray), .string (⟨#[]⟩ : ByteArray)] (0, 0) _ rfl ?hh9 Tryd.underlying27 rfl (by kernel_rfl)) rfl ?_
    case hh9 =>
      (with_reducible repeat (first | exact HF4.out | exact blk_new _ _ | refine blk_drewN ?_ _ | refine blk_drew ?_ | refine blk_alloc ?_ _ | apply blk_set'))
      all_goals rfl
    exact ⟨⟨_, _, _, by rw [HTK.out]; rfl, fun h => absurd (by rw [HTK.out] at h; exact h) HNE.out⟩, (by repeat (first | exact HB4.out | exact HB1.out | exact Below.refl _ _ | apply below_drew1 | apply pw_below_drewN | (refine below_set ?_ (Nat.le_refl _)) | apply below_alloc))⟩
end Go.Proofs.YtoigojlemffikaaDoor.Fld
