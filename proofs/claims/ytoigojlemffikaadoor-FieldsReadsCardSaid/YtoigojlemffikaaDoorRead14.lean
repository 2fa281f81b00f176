/- Layer 14: fields.Read, by its contract. gen/mk_rd14b.py writes this text. -/
import Derived.Test.YtoigojlemffikaaDoorRd14
namespace Go.Proofs.YtoigojlemffikaaDoor.Fld
open Go.RowKit Go.Deep Go.Proofs.YtoigojlemffikaaDoor.PFields Go.Proofs.YtoigojlemffikaaDoorW.PrintWords Go.Proofs.YtoigojlemffikaaDoorW.PrintLast Go.Proofs.YtoigojlemffikaaDoorW.PrintMore Go.Proofs.YtoigojlemffikaaDoor.Hand Go.Proofs.YtoigojlemffikaaDoor.Pure
set_option linter.unusedVariables false
set_option linter.unusedSimpArgs false
theorem rest_size (s : ByteArray) (n : Int) : (restV s n).size ≤ s.size := by unfold restV; rw [ByteArray.size_extract]; omega
theorem rest_one {s : ByteArray} (h : 0 < s.size) : (restV s 1).size + 1 = s.size := by
  unfold restV
  rw [ByteArray.size_extract, show (1 : Int).toNat = 1 from rfl]
  omega
theorem tbl_small : ∀ i, i < 20 → (tbl.getD i z27).f0.size ≤ 20 ∧ (tbl.getD i z27).f1.size ≤ 20 := by decide
theorem vtake_size (r : ByteArray) : (vtake r).1.size ≤ r.size := by
  unfold vtake
  repeat' split
  · exact Nat.zero_le _
  · rw [ByteArray.size_extract]; omega
  · exact Nat.zero_le _
structure TakeF (s : ByteArray) : Prop where
  rest : (takeV s).2.2.size < s.size
  a : (takeV s).2.1.f0.size ≤ s.size + 20
  b : (takeV s).2.1.f1.size ≤ s.size + 20
theorem take_mk {s r : ByteArray} {f : S27} (e : takeV s = (0, f, r)) (h1 : r.size < s.size) (h2 : f.f0.size ≤ s.size + 20) (h3 : f.f1.size ≤ s.size + 20) : TakeF s := ⟨by rw [e]; exact h1, by rw [e]; exact h2, by rw [e]; exact h3⟩
theorem take_facts {s : ByteArray} (h : 0 < s.size) (h0 : (takeV s).1 = 0) : TakeF s := by
  have hr := bt_range s 0
  have h1 := rest_one h
  have h2 := rest_size (restV s 1) (vtake (restV s 1)).2.1
  have h3 := rest_size (restV (restV s 1) (vtake (restV s 1)).2.1) (vtake (restV (restV s 1) (vtake (restV s 1)).2.1)).2.1
  have v1 := vtake_size (restV s 1)
  have v2 := vtake_size (restV (restV s 1) (vtake (restV s 1)).2.1)
  unfold takeV at h0
  by_cases a1 : 128 ≤ bt s 0
  · rw [if_pos a1] at h0
    by_cases a2 : bt s 0 < 148
    · have e : takeV s = (0, tbl.getD (bt s 0 - 128).toNat z27, restV s 1) := by unfold takeV; rw [if_pos a1, if_pos a2]
      have ht := tbl_small (bt s 0 - 128).toNat (by omega)
      clear h0
      exact take_mk e (by (try dsimp only); omega) (by (try dsimp only); omega) (by (try dsimp only); omega)
    · rw [if_neg a2] at h0; dsimp only at h0; exact absurd h0 (by decide)
  · rw [if_neg a1] at h0
    by_cases b1 : 64 ≤ bt s 0
    · rw [if_pos b1] at h0
      by_cases b2 : bt s 0 < 84
      · rw [if_pos b2] at h0
        by_cases b3 : (vtake (restV s 1)).2.2 = 0
        · have e : takeV s = (0, ⟨(tbl.getD (bt s 0 - 64).toNat z27).f0, (vtake (restV s 1)).1⟩, restV (restV s 1) (vtake (restV s 1)).2.1) := by unfold takeV; rw [if_neg a1, if_pos b1, if_pos b2, if_pos b3]
          have ht := tbl_small (bt s 0 - 64).toNat (by omega)
          clear h0
          exact take_mk e (by (try dsimp only); omega) (by (try dsimp only); omega) (by (try dsimp only); omega)
        · rw [if_neg b3] at h0; dsimp only at h0; exact absurd h0 b3
      · rw [if_neg b2] at h0; dsimp only at h0; exact absurd h0 (by decide)
    · rw [if_neg b1] at h0
      by_cases c1 : bt s 0 ≠ 0
      · rw [if_pos c1] at h0; dsimp only at h0; exact absurd h0 (by decide)
      · rw [if_neg c1] at h0
        by_cases c2 : (vtake (restV s 1)).2.2 ≠ 0
        · rw [if_pos c2] at h0; dsimp only at h0; exact absurd h0 c2
        · rw [if_neg c2] at h0
          by_cases c3 : (vtake (restV (restV s 1) (vtake (restV s 1)).2.1)).2.2 ≠ 0
          · rw [if_pos c3] at h0; dsimp only at h0; exact absurd h0 c3
          · have e : takeV s = (0, ⟨(vtake (restV s 1)).1, (vtake (restV (restV s 1) (vtake (restV s 1)).2.1)).1⟩, restV (restV (restV s 1) (vtake (restV s 1)).2.1) (vtake (restV (restV s 1) (vtake (restV s 1)).2.1)).2.1) := by unfold takeV; rw [if_neg a1, if_neg b1, if_neg c1, if_neg c2, if_neg c3]
            clear h0
            exact take_mk e (by (try dsimp only); omega) (by (try dsimp only); omega) (by (try dsimp only); omega)
def readN : Nat → List S27 → ByteArray → List S27 × Int
  | 0, l, _ => (l, 0)
  | n + 1, l, s => if s.size = 0 then (l, 0) else if (takeV s).1 ≠ 0 then ([], (takeV s).1) else if l.length = 16 then ([], 8) else if checkV (takeV s).2.1 ≠ 0 then ([], checkV (takeV s).2.1) else readN n (l ++ [(takeV s).2.1]) (takeV s).2.2
theorem readN_succ (n : Nat) (l : List S27) (s : ByteArray) : readN (n + 1) l s = if s.size = 0 then (l, 0) else if (takeV s).1 ≠ 0 then ([], (takeV s).1) else if l.length = 16 then ([], 8) else if checkV (takeV s).2.1 ≠ 0 then ([], checkV (takeV s).2.1) else readN n (l ++ [(takeV s).2.1]) (takeV s).2.2 := rfl
def readV (s : ByteArray) : List S27 × Int := readN s.size [] s
theorem readN_nil {n : Nat} {l : List S27} {s : ByteArray} (h : s.size = 0) : readN n l s = (l, 0) := by
  cases n with
  | zero => rfl
  | succ n => rw [readN_succ, if_pos h]
def strSize : Value → Nat
  | .string s => s.size
  | _ => 0
theorem rinfo27_ : (Tryd.prog.info? 27).map (fun i => (i.zero, i.size, i.bytes)) = some (some (.agg #[.string (⟨#[]⟩ : ByteArray), .string (⟨#[]⟩ : ByteArray)]), 2, 32) := by kernel_rfl
set_option maxHeartbeats 8000000 in
set_option maxRecDepth 100000 in
theorem read_c (s : ByteArray) (w : World) (hs : s.size ≤ 1000000000) (hT : TB w) (hV : TV w) : Calls Tryd.prog 8 #[.string s] w fun e w' => ∃ v, e = .returned (.tuple #[v, .int .i64 (readV s).2]) ∧ Kd.R k27 27 w' w.heap.size (fun _ => True) v (readV s).1 ∧ Below w.heap.size w w' := by
  have HT := Aside0.mk hT
  have HV := Aside0.mk hV
  have HS := Aside0.mk hs
  clear hT hV hs
  go_enter Tryd.func8, Tryd.ntmps8
  go_wp2_with (fail)
  go_loopw [0, 4, 5, 6, 7] (fun v0 v4 v5 v6 v7 wr => ∃ (sr : ByteArray) (l : List S27) (n : Nat), v0 = .string sr ∧ Aside0 (sr.size ≤ n ∧ readN n l sr = readV s) ∧ Aside0 (l.length ≤ 16) ∧ Aside0 (sr.size ≤ s.size) ∧ Aside0 (Kd.R k27 27 wr w.heap.size (fun _ => True) v4 l) ∧ Aside0 (Below w.heap.size w wr)) (fun v0 _ _ _ _ _ => strSize v0)
  case atStart => exact ⟨s, [], s.size, rfl, ⟨Nat.le_refl _, rfl⟩, ⟨by decide⟩, ⟨Nat.le_refl _⟩, ⟨Kd.R_nil _ _ _ _ _⟩, ⟨Below.refl _ _⟩⟩
  case round =>
    obtain ⟨sr, l, n, rfl, HN, HL, HSS, HR, HB⟩ := hrel
    by_cases z : sr.size = 0
    · have N1 : sr.toList.isEmpty = true := List.isEmpty_iff.2 ((toList_nil sr).2 z)
      have HQ := Aside0.mk (show readV s = (l, 0) by rw [← HN.out.2]; exact readN_nil z)
      clear z
      go_wp2_with (fail)
      go_ret2
      exact ⟨_, by rw [HQ.out]; rfl, by rw [HQ.out]; exact HR.out, HB.out⟩
    · have N1 : sr.toList.isEmpty = false := by cases hq : sr.toList.isEmpty with | false => rfl | true => exact absurd ((toList_nil sr).1 (List.isEmpty_iff.1 hq)) z
      have HZ := Aside0.mk (show 0 < sr.size ∧ sr.size ≤ 140737488351232 from ⟨by omega, by have := HSS.out; have := HS.out; omega⟩)
      obtain ⟨n2, hn2⟩ : ∃ m, n = m + 1 := ⟨n - 1, by have := HN.out.1; omega⟩
      subst hn2
      obtain ⟨et, het⟩ : ∃ q, (takeV sr).1 = q := ⟨_, rfl⟩
      have HET := Aside0.mk het
      by_cases e0 : et = 0
      · subst e0
        have htf := take_facts (s := sr) (by omega) het
        obtain ⟨ff, hff⟩ : ∃ q, (takeV sr).2.1 = q := ⟨_, rfl⟩
        obtain ⟨rr, hrr⟩ : ∃ q, (takeV sr).2.2 = q := ⟨_, rfl⟩
        obtain ⟨f0, f1⟩ := ff
        have HTF := Aside0.mk (show rr.size < sr.size ∧ f0.size ≤ sr.size + 20 ∧ f1.size ≤ sr.size + 20 by have h1 := htf.rest; have h2 := htf.a; have h3 := htf.b; rw [hrr] at h1; rw [hff] at h2 h3; exact ⟨h1, h2, h3⟩)
        have HSF := Aside0.mk (show f0.size ≤ 140737488351232 ∧ f1.size ≤ 140737488351232 from ⟨by have := HTF.out; have := HSS.out; have := HS.out; omega, by have := HTF.out; have := HSS.out; have := HS.out; omega⟩)
        have HFF := Aside0.mk hff
        have HRR := Aside0.mk hrr
        have HST := Aside0.mk (show readV s = if l.length = 16 then ([], 8) else if checkV ⟨f0, f1⟩ ≠ 0 then ([], checkV ⟨f0, f1⟩) else readN n2 (l ++ [⟨f0, f1⟩]) rr by rw [← HN.out.2, readN_succ, if_neg z, if_neg (by rw [het]; simp), hff, hrr])
        clear htf hff hrr het z
        by_cases l16 : l.length = 16
        · have HQ := Aside0.mk (show readV s = ([], 8) by rw [HST.out, if_pos l16])
          obtain ⟨Al, cl, hvl⟩ := Kd.R_slice HR.out
          subst hvl
          have m1 : ((l.length : Int) == 16) = true := by rw [l16]; rfl
          have m2 : decide ((l.length : Int) = 16) = true := decide_eq_true (by omega)
          have m3 : (l.length == 16) = true := by rw [l16]; rfl
          have m4 : decide (l.length = 16) = true := decide_eq_true l16
          clear l16
          go_wp2_with (first | (go_at_call 20; (with_reducible refine (take_c sr wr HZ.out.1 HZ.out.2 (Kd.C_below HT.out HB.out) (Kd.C_below HV.out HB.out)).mono ?_); rintro e_ w3 ⟨⟨a, b, r, rfl, hok⟩, hb⟩; rw [HET.out] at hok ⊢; have hok2 := hok rfl; rw [HFF.out, HRR.out] at hok2; dsimp only at hok2; obtain ⟨ha_, hb_, hr_⟩ := hok2; replace ha_ := ha_.symm; replace hb_ := hb_.symm; replace hr_ := hr_.symm; subst ha_; subst hb_; subst hr_; clear hok; have HR3 := Aside0.mk (Kd.R_below HR.out hb); have HB3 := Aside0.mk (below_step HB.out hb); clear hb))
          go_ret2
          exact ⟨_, by rw [HQ.out]; rfl, by rw [HQ.out]; exact Kd.R_nil _ _ _ _ _, below_step HB3.out (below_alloc (Below.refl _ _) _)⟩
        · obtain ⟨Al, cl, hvl⟩ := Kd.R_slice HR.out
          subst hvl
          have m1 : ((l.length : Int) == 16) = false := beq_eq_false_iff_ne.2 (by omega)
          have m2 : decide ((l.length : Int) = 16) = false := decide_eq_false (by omega)
          have m3 : (l.length == 16) = false := beq_eq_false_iff_ne.2 l16
          have m4 : decide (l.length = 16) = false := decide_eq_false l16
          have HLL := Aside0.mk l16
          obtain ⟨ck, hck⟩ : ∃ q, checkV ⟨f0, f1⟩ = q := ⟨_, rfl⟩
          have HCK := Aside0.mk hck
          clear hck
          by_cases c0 : ck = 0
          · subst c0
            have HQ := Aside0.mk (show readN n2 (l ++ [⟨f0, f1⟩]) rr = readV s by rw [HST.out, if_neg l16, HCK.out]; simp)
            clear l16
            go_wp2_with (first | (go_at_call 20; (with_reducible refine (take_c sr wr HZ.out.1 HZ.out.2 (Kd.C_below HT.out HB.out) (Kd.C_below HV.out HB.out)).mono ?_); rintro e_ w3 ⟨⟨a, b, r, rfl, hok⟩, hb⟩; rw [HET.out] at hok ⊢; have hok2 := hok rfl; rw [HFF.out, HRR.out] at hok2; dsimp only at hok2; obtain ⟨ha_, hb_, hr_⟩ := hok2; replace ha_ := ha_.symm; replace hb_ := hb_.symm; replace hr_ := hr_.symm; subst ha_; subst hb_; subst hr_; clear hok; have HR3 := Aside0.mk (Kd.R_below HR.out hb); have HB3 := Aside0.mk (below_step HB.out hb); clear hb) | (go_at_call 21; (with_reducible refine (check_c f0 f1 _ HSF.out.1 HSF.out.2).mono ?_); rintro e_ w4 ⟨rfl, hb⟩; rw [HCK.out]; have hbz : Below w3.heap.size w3 (w3.alloc (.cells #[.string f0, .string f1] 27)) := below_alloc (Below.refl _ _) _; have g0 := (hb.cell (blk_lt (blk_new w3 (.cells #[.string f0, .string f1] 27)))).trans ((blk_cell (blk_new w3 (.cells #[.string f0, .string f1] 27)) 0).trans (rfl : _ = some (Value.string f0))); have g1 := (hb.cell (blk_lt (blk_new w3 (.cells #[.string f0, .string f1] 27)))).trans ((blk_cell (blk_new w3 (.cells #[.string f0, .string f1] 27)) 1).trans (rfl : _ = some (Value.string f1))); have HR4 := Aside0.mk (Kd.R_below (Kd.R_below HR3.out hbz) hb); have HB4 := Aside0.mk (below_step (below_step HB3.out hbz) hb); clear hb hbz) | ((with_reducible refine gate_builtin (b := .append) (xs := #[.tmp 30, .tmp 32]) rfl ?_); at_builtin; refine Kd.R_append k27 (w0 := w4) w.heap.size rfl (.tmp 30) (.tmp 32) 22 27 (.agg #[.string (⟨#[]⟩ : ByteArray), .string (⟨#[]⟩ : ByteArray)]) 32 rfl Tryd.underlying22 rinfo27_ rfl (by decide) (by omega) _ l ⟨f0, f1⟩ [.string f0, .string f1] (fun _ => True) (fun _ => False) rfl rfl ?aP (fun _ hk => hk.elim) (fun _ _ => trivial) HR4.out (Below.refl _ _) ?aS ?aL ?_; (case aP => exact k27_mkM _ _ _ _); (case aS => exact HB4.out.size); (case aL => have := HL.out; omega); intro v6 w6 hR6 hB6 hg6 hat; have HR6 := Aside0.mk hR6; have HB6 := Aside0.mk (HB4.out.grown hg6 HB4.out.size (fun j hj => Kd.R_base HR4.out j hj)); clear hR6 hB6 hg6 hat))
            go_roundw
            case rel => exact ⟨rr, l ++ [⟨f0, f1⟩], n2, rfl, ⟨by have := HN.out.1; have := HTF.out.1; omega, HQ.out⟩, ⟨by rw [List.length_append]; have h1 := HL.out; have h2 := HLL.out; simp only [List.length_cons, List.length_nil]; omega⟩, ⟨by have := HTF.out.1; have := HSS.out; omega⟩, HR6, HB6⟩
            case measure => have := HTF.out.1; exact this
          · have HQ := Aside0.mk (show readV s = ([], ck) by rw [HST.out, if_neg l16, HCK.out, if_pos c0])
            obtain ⟨k1, k2, k3, k4, k5⟩ := ne0 c0
            clear l16 c0
            go_wp2_with (first | (go_at_call 20; (with_reducible refine (take_c sr wr HZ.out.1 HZ.out.2 (Kd.C_below HT.out HB.out) (Kd.C_below HV.out HB.out)).mono ?_); rintro e_ w3 ⟨⟨a, b, r, rfl, hok⟩, hb⟩; rw [HET.out] at hok ⊢; have hok2 := hok rfl; rw [HFF.out, HRR.out] at hok2; dsimp only at hok2; obtain ⟨ha_, hb_, hr_⟩ := hok2; replace ha_ := ha_.symm; replace hb_ := hb_.symm; replace hr_ := hr_.symm; subst ha_; subst hb_; subst hr_; clear hok; have HR3 := Aside0.mk (Kd.R_below HR.out hb); have HB3 := Aside0.mk (below_step HB.out hb); clear hb) | (go_at_call 21; (with_reducible refine (check_c f0 f1 _ HSF.out.1 HSF.out.2).mono ?_); rintro e_ w4 ⟨rfl, hb⟩; rw [HCK.out]; have hbz : Below w3.heap.size w3 (w3.alloc (.cells #[.string f0, .string f1] 27)) := below_alloc (Below.refl _ _) _; have g0 := (hb.cell (blk_lt (blk_new w3 (.cells #[.string f0, .string f1] 27)))).trans ((blk_cell (blk_new w3 (.cells #[.string f0, .string f1] 27)) 0).trans (rfl : _ = some (Value.string f0))); have g1 := (hb.cell (blk_lt (blk_new w3 (.cells #[.string f0, .string f1] 27)))).trans ((blk_cell (blk_new w3 (.cells #[.string f0, .string f1] 27)) 1).trans (rfl : _ = some (Value.string f1))); have HR4 := Aside0.mk (Kd.R_below (Kd.R_below HR3.out hbz) hb); have HB4 := Aside0.mk (below_step (below_step HB3.out hbz) hb); clear hb hbz))
            go_ret2
            exact ⟨_, by rw [HQ.out]; rfl, by rw [HQ.out]; exact Kd.R_nil _ _ _ _ _, HB4.out⟩
      · have HQ := Aside0.mk (show readV s = ([], et) by rw [← HN.out.2, readN_succ, if_neg z, het, if_pos e0])
        obtain ⟨k1, k2, k3, k4, k5⟩ := ne0 e0
        clear z e0 het
        go_wp2_with (first | (go_at_call 20; (with_reducible refine (take_c sr wr HZ.out.1 HZ.out.2 (Kd.C_below HT.out HB.out) (Kd.C_below HV.out HB.out)).mono ?_); rintro e_ w3 ⟨⟨a, b, r, rfl, hok⟩, hb⟩; rw [HET.out] at hok ⊢; clear hok; have HR3 := Aside0.mk (Kd.R_below HR.out hb); have HB3 := Aside0.mk (below_step HB.out hb); clear hb))
        go_ret2
        exact ⟨_, by rw [HQ.out]; rfl, by rw [HQ.out]; exact Kd.R_nil _ _ _ _ _, below_step HB3.out (below_alloc (Below.refl _ _) _)⟩
end Go.Proofs.YtoigojlemffikaaDoor.Fld
