/- Layer 14: the ref's Read answers as the library's. -/
import Derived.Test.YtoigojlemffikaaDoorRef14
namespace Go.Proofs.YtoigojlemffikaaDoor.Fld
open Go.RowKit Go.Deep Go.Proofs.YtoigojlemffikaaDoor.PFields Go.Proofs.YtoigojlemffikaaDoorW.PrintWords Go.Proofs.YtoigojlemffikaaDoorW.PrintLast Go.Proofs.YtoigojlemffikaaDoorW.PrintMore Go.Proofs.YtoigojlemffikaaDoor.Hand Go.Proofs.YtoigojlemffikaaDoor.Pure
set_option linter.unusedVariables false
set_option linter.unusedSimpArgs false
theorem ext_ext (s : ByteArray) (a b : Nat) (ha : a ≤ s.size) : (s.extract a s.size).extract b (s.extract a s.size).size = s.extract (a + b) s.size := by
  apply ByteArray.ext
  rw [ByteArray.data_extract, ByteArray.data_extract, ByteArray.data_extract, Array.extract_extract, ByteArray.size_extract]
  congr 1
  omega
structure FirstF (s : ByteArray) (a b : ByteArray) (n e : Int) : Prop where
  ev : Ev (fun k => vizardref14_first.f k s) (a, b, n, e)
  he : e = (takeV s).1
  ok : e = 0 → a = (takeV s).2.1.f0 ∧ b = (takeV s).2.1.f1 ∧ 0 ≤ n ∧ n ≤ s.size ∧ s.extract n.toNat s.size = (takeV s).2.2
theorem first_start (s : ByteArray) (h : 0 < s.size) (v : ByteArray × ByteArray × Int × Int) (g : Ev (fun k => vizardref14_first.j0 k s tbl (bt s 0) (if bt s 0 ≥ 128 then decide (bt s 0 - 128 < 20) else false) ⟨#[]⟩ ⟨#[]⟩) v) : Ev (fun k => vizardref14_first.f k s) v := by
  have hr := bt_range s 0
  have w1 : wrap64 (bt s 0) = bt s 0 := wrap_in _ (by omega) (by omega)
  have w2 : wrap64 (bt s 0 - 128) = bt s 0 - 128 := wrap_in _ (by omega) (by omega)
  refine Ev.congr (fun k => ?_) g
  simp only [vizardref14_first.f]
  rw [table_f, Option.bind_some, if_pos (by omega), w1]
  by_cases c : bt s 0 ≥ 128
  · rw [if_pos c, if_pos c, w2]; rfl
  · rw [if_neg c, if_neg c]
theorem first_bad (s : ByteArray) (c : Int) (hc : c ≠ 0) (h64 : ¬(64 ≤ c ∧ c < 84)) (h0 : 0 ≤ c) (h1 : c ≤ 255) : Ev (fun k => vizardref14_first.j0 k s tbl c false ⟨#[]⟩ ⟨#[]⟩) (⟨#[]⟩, ⟨#[]⟩, 0, 5) := by
  have w2 : wrap64 (c - 64) = c - 64 := wrap_in _ (by omega) (by omega)
  have g : Ev (fun k => vizardref14_first.j1 k s tbl c false ⟨#[]⟩ ⟨#[]⟩) (⟨#[]⟩, ⟨#[]⟩, 0, 5) := by
    refine Ev.step (f := fun _ => some (⟨#[]⟩, ⟨#[]⟩, 0, 5)) (fun k => ?_) (Ev.now _)
    simp only [vizardref14_first.j1]
    rw [if_neg (by simp), if_neg hc]
  refine Ev.step (fun k => ?_) g
  simp only [vizardref14_first.j0]
  rw [if_neg (by simp)]
  by_cases d : c ≥ 64
  · rw [if_pos d, w2, decide_eq_false (by rw [tbl_len]; omega)]
  · rw [if_neg d]
theorem first_ex (s : ByteArray) (h : 0 < s.size) (hs : s.size ≤ 1000000000) : ∃ a b n e, FirstF s a b n e := by
  have hr := bt_range s 0
  have hst := first_start s h
  have hx1 : s.extract 1 s.size = restV s 1 := rfl
  have hz1 := rest_size s 1
  obtain ⟨c, hc⟩ : ∃ q, bt s 0 = q := ⟨_, rfl⟩
  rw [hc] at hst hr
  by_cases a1 : 128 ≤ c
  · rw [if_pos (show c ≥ 128 from a1)] at hst
    by_cases a2 : c < 148
    · have e : takeV s = (0, tbl.getD (c - 128).toNat z27, restV s 1) := by unfold takeV; rw [hc, if_pos a1, if_pos a2]
      have w2 : wrap64 (c - 128) = c - 128 := wrap_in _ (by omega) (by omega)
      refine ⟨(tbl.getD (c - 128).toNat z27).f0, (tbl.getD (c - 128).toNat z27).f1, 1, 0, hst _ ?_, by rw [e], fun _ => by rw [e]; exact ⟨rfl, rfl, by decide, by omega, rfl⟩⟩
      rw [decide_eq_true (by omega)]
      refine Ev.step (f := fun _ => some ((tbl.getD (c - 128).toNat z27).f0, (tbl.getD (c - 128).toNat z27).f1, 1, 0)) (fun k => ?_) (Ev.now _)
      simp only [vizardref14_first.j0]
      rw [if_pos trivial, w2, if_pos (by omega), if_pos (by rw [tbl_len]; omega)]
      rfl
    · have e : takeV s = (5, z27, ⟨#[]⟩) := by unfold takeV; rw [hc, if_pos a1, if_neg a2]
      refine ⟨⟨#[]⟩, ⟨#[]⟩, 0, 5, hst _ ?_, by rw [e], fun h => absurd h (by decide)⟩
      rw [decide_eq_false (by omega)]
      exact first_bad s c (by omega) (by omega) hr.1 hr.2
  · rw [if_neg (show ¬ c ≥ 128 from a1)] at hst
    by_cases b1 : 64 ≤ c
    · by_cases b2 : c < 84
      · have w2 : wrap64 (c - 64) = c - 64 := wrap_in _ (by omega) (by omega)
        have hj : ∀ v, Ev (fun k => (vizardref01_Take.f k (s.extract 1 s.size)).bind fun bt125 => (some ((rd_T27 tbl (wrap64 (c - 64))).f0, bt125.1, wrap64 (1 + bt125.2.1), bt125.2.2))) v → Ev (fun k => vizardref14_first.j0 k s tbl c false ⟨#[]⟩ ⟨#[]⟩) v := by
          intro v g
          have g1 : Ev (fun k => vizardref14_first.j1 k s tbl c true ⟨#[]⟩ ⟨#[]⟩) v := by
            refine Ev.step (fun k => ?_) g
            simp only [vizardref14_first.j1]
            rw [if_pos trivial, w2, if_pos (by omega), if_pos (by rw [tbl_len]; omega), if_pos (by omega)]
          refine Ev.step (fun k => ?_) g1
          simp only [vizardref14_first.j0]
          rw [if_neg (by simp), if_pos (show c ≥ 64 from b1), w2, decide_eq_true (by rw [tbl_len]; omega)]
        rcases take_ex (restV s 1) (by omega) with ⟨m, v, k1, hm, hb, _⟩ | ⟨v, n, e, k1, hne, hm, _⟩
        · have e : takeV s = (0, ⟨(tbl.getD (c - 64).toNat z27).f0, v⟩, restV (restV s 1) (m : Int)) := by unfold takeV; rw [hc, if_neg a1, if_pos b1, if_pos b2, hm]; rfl
          have w3 : wrap64 (1 + (m : Int)) = 1 + (m : Int) := wrap_in _ (by omega) (by omega)
          have h1 := rest_one h
          have hxx : s.extract (1 + (m : Int)).toNat s.size = (s.extract 1 s.size).extract (m : Int).toNat (s.extract 1 s.size).size := by
            rw [Int.toNat_natCast, ext_ext s 1 m (by omega), show (1 + (m : Int)).toNat = 1 + m by omega]
          refine ⟨(tbl.getD (c - 64).toNat z27).f0, v, 1 + (m : Int), 0, hst _ (hj _ ?_), by rw [e], fun _ => by rw [e]; refine ⟨rfl, rfl, by omega, by omega, ?_⟩; exact hxx⟩
          refine Ev.bind (rtake_ev (s.extract 1 s.size) (by rw [hx1]; omega)) (Ev.congr (f := fun _ => some _) (fun k => ?_) (Ev.now _))
          rw [hx1, hm]
          dsimp only
          rw [w3, w2]
          try rfl
        · have e' : takeV s = (e, z27, ⟨#[]⟩) := by unfold takeV; rw [hc, if_neg a1, if_pos b1, if_pos b2, hm]; dsimp only; rw [if_neg hne]
          refine ⟨(tbl.getD (c - 64).toNat z27).f0, v, wrap64 (1 + n), e, hst _ (hj _ ?_), by rw [e'], fun h => absurd h hne⟩
          refine Ev.bind (rtake_ev (s.extract 1 s.size) (by rw [hx1]; omega)) (Ev.congr (f := fun _ => some _) (fun k => ?_) (Ev.now _))
          rw [hx1, hm]
          dsimp only
          rw [w2]
          rfl
      · have e : takeV s = (5, z27, ⟨#[]⟩) := by unfold takeV; rw [hc, if_neg a1, if_pos b1, if_neg b2]
        exact ⟨⟨#[]⟩, ⟨#[]⟩, 0, 5, hst _ (first_bad s c (by omega) (by omega) hr.1 hr.2), by rw [e], fun h => absurd h (by decide)⟩
    · by_cases c1 : c = 0
      · subst c1
        have hj : ∀ v, Ev (fun k => (vizardref01_Take.f k (s.extract 1 s.size)).bind fun bt128 => (if bt128.2.2 = 0 then (if 0 ≤ (wrap64 (1 + bt128.2.1)) then (if (wrap64 (1 + bt128.2.1)) ≤ (s.size : Int) then ((vizardref01_Take.f k (s.extract ((wrap64 (1 + bt128.2.1)) : Int).toNat s.size)).bind fun bt131 => (some (bt128.1, bt131.1, wrap64 ((wrap64 (1 + bt128.2.1)) + bt131.2.1), bt131.2.2))) else (none)) else (none)) else (some ((⟨#[]⟩ : ByteArray), (⟨#[]⟩ : ByteArray), 0, bt128.2.2)))) v → Ev (fun k => vizardref14_first.j0 k s tbl 0 false ⟨#[]⟩ ⟨#[]⟩) v := by
          intro v g
          have g1 : Ev (fun k => vizardref14_first.j1 k s tbl 0 false ⟨#[]⟩ ⟨#[]⟩) v := by
            refine Ev.step (fun k => ?_) g
            simp only [vizardref14_first.j1]
            rw [if_neg (by simp), if_pos trivial, if_pos (by omega)]
          refine Ev.step (fun k => ?_) g1
          simp only [vizardref14_first.j0]
          rw [if_neg (by simp), if_neg (by omega)]
        have h1 := rest_one h
        rcases take_ex (restV s 1) (by omega) with ⟨m, v, k1, hm, hb, _⟩ | ⟨v, n, e, k1, hne, hm, _⟩
        · have w3 : wrap64 (1 + (m : Int)) = 1 + (m : Int) := wrap_in _ (by omega) (by omega)
          have hx2 : s.extract (1 + (m : Int)).toNat s.size = restV (restV s 1) (m : Int) := by
            show _ = (s.extract 1 s.size).extract (m : Int).toNat (s.extract 1 s.size).size
            rw [Int.toNat_natCast, ext_ext s 1 m (by omega), show (1 + (m : Int)).toNat = 1 + m by omega]
          have hz2 := rest_size (restV s 1) (m : Int)
          have hz3 : (restV (restV s 1) (m : Int)).size + m = (restV s 1).size := by unfold restV at hb ⊢; rw [Int.toNat_natCast, ByteArray.size_extract]; omega
          rcases take_ex (restV (restV s 1) (m : Int)) (by omega) with ⟨m2, u, k2, hm2, hb2, _⟩ | ⟨u, n2, e2, k2, hne2, hm2, _⟩
          · have e : takeV s = (0, ⟨v, u⟩, restV (restV (restV s 1) (m : Int)) (m2 : Int)) := by unfold takeV; rw [hc, if_neg a1, if_neg b1, if_neg (by simp), hm]; dsimp only; rw [if_neg (by simp), hm2]; rfl
            have w4 : wrap64 (1 + (m : Int) + (m2 : Int)) = 1 + (m : Int) + (m2 : Int) := wrap_in _ (by omega) (by omega)
            have hxx : s.extract (1 + (m : Int) + (m2 : Int)).toNat s.size = (restV (restV s 1) (m : Int)).extract (m2 : Int).toNat (restV (restV s 1) (m : Int)).size := by
              rw [← hx2, Int.toNat_natCast, ext_ext s _ m2 (by omega), show (1 + (m : Int) + (m2 : Int)).toNat = (1 + (m : Int)).toNat + m2 by omega]
            refine ⟨v, u, 1 + (m : Int) + (m2 : Int), 0, hst _ (hj _ ?_), by rw [e], fun _ => by rw [e]; refine ⟨rfl, rfl, by omega, by omega, ?_⟩; exact hxx⟩
            refine Ev.bind (rtake_ev (s.extract 1 s.size) (by rw [hx1]; omega)) ?_
            rw [hx1, hm]
            dsimp only
            rw [w3]
            refine Ev.congr (fun k => (if_pos rfl).trans ((if_pos (by omega)).trans (if_pos (by omega)))) ?_
            refine Ev.bind (rtake_ev _ (by rw [hx2]; omega)) (Ev.congr (f := fun _ => some _) (fun k => ?_) (Ev.now _))
            rw [hx2, hm2]
            dsimp only
            rw [w4]
          · have e' : takeV s = (e2, z27, ⟨#[]⟩) := by unfold takeV; rw [hc, if_neg a1, if_neg b1, if_neg (by simp), hm]; dsimp only; rw [if_neg (by simp), hm2]; dsimp only; rw [if_pos hne2]
            refine ⟨v, u, wrap64 (1 + (m : Int) + n2), e2, hst _ (hj _ ?_), by rw [e'], fun h => absurd h hne2⟩
            refine Ev.bind (rtake_ev (s.extract 1 s.size) (by rw [hx1]; omega)) ?_
            rw [hx1, hm]
            dsimp only
            rw [w3]
            refine Ev.congr (fun k => (if_pos rfl).trans ((if_pos (by omega)).trans (if_pos (by omega)))) ?_
            refine Ev.bind (rtake_ev _ (by rw [hx2]; omega)) (Ev.congr (f := fun _ => some _) (fun k => ?_) (Ev.now _))
            rw [hx2, hm2]
        · have e' : takeV s = (e, z27, ⟨#[]⟩) := by unfold takeV; rw [hc, if_neg a1, if_neg b1, if_neg (by simp), hm]; dsimp only; rw [if_pos hne]
          refine ⟨⟨#[]⟩, ⟨#[]⟩, 0, e, hst _ (hj _ ?_), by rw [e'], fun h => absurd h hne⟩
          refine Ev.bind (rtake_ev (s.extract 1 s.size) (by rw [hx1]; omega)) (Ev.congr (f := fun _ => some _) (fun k => ?_) (Ev.now _))
          rw [hx1, hm]
          exact if_neg hne
      · have e : takeV s = (5, z27, ⟨#[]⟩) := by unfold takeV; rw [hc, if_neg a1, if_neg b1, if_pos c1]
        exact ⟨⟨#[]⟩, ⟨#[]⟩, 0, 5, hst _ (first_bad s c c1 (by omega) hr.1 hr.2), by rw [e], fun h => absurd h (by decide)⟩
theorem j2_bad (s : ByteArray) (acc : List S27) (n e : Int) (a b : ByteArray) (he : e ≠ 0) : Ev (fun k => vizardref14_Read.j2 k s acc n e a b) ([], e) := by
  refine Ev.step (f := fun _ => some ([], e)) (fun k => ?_) (Ev.now _)
  simp only [vizardref14_Read.j2]
  rw [if_neg he]
theorem rread_ev (n : Nat) : ∀ (acc : List S27) (s : ByteArray), s.size ≤ n → acc.length ≤ 16 → s.size ≤ 1000000000 → Ev (fun k => vizardref14_Read.l0 k s acc) (readN n acc s) := by
  induction n with
  | zero =>
    intro acc s hn ha hs
    refine Ev.step (f := fun _ => some (acc, 0)) (fun k => ?_) (Ev.now _)
    simp only [vizardref14_Read.l0]
    rw [if_pos ((toList_nil s).2 (by omega))]
  | succ n ih =>
    intro acc s hn ha hs
    rw [readN_succ]
    by_cases z : s.size = 0
    · rw [if_pos z]
      refine Ev.step (f := fun _ => some (acc, 0)) (fun k => ?_) (Ev.now _)
      simp only [vizardref14_Read.l0]
      rw [if_pos ((toList_nil s).2 z)]
    · rw [if_neg z]
      obtain ⟨a, b, m, e, hev, he, hok⟩ := first_ex s (by omega) hs
      refine Ev.step (f := fun k => (vizardref14_first.f k s).bind fun bt135 => (if bt135.2.2.2 = 0 then (vizardref14_Read.j1 k s acc bt135.2.2.1 bt135.2.2.2 ((acc.length : Int) == 16) bt135.1 bt135.2.1) else (vizardref14_Read.j1 k s acc bt135.2.2.1 bt135.2.2.2 false bt135.1 bt135.2.1))) (fun k => ?_) (Ev.bind hev ?_)
      · simp only [vizardref14_Read.l0]
        rw [if_neg (fun h => z ((toList_nil s).1 h))]
      dsimp only
      rw [← he]
      by_cases e0 : e ≠ 0
      · rw [if_pos e0]
        refine Ev.congr (fun k => if_neg e0) ?_
        refine Ev.step (fun k => ?_) (j2_bad s acc m e a b e0)
        simp only [vizardref14_Read.j1]
        rw [if_neg (by simp)]
      · rw [if_neg e0]
        have e0' : e = 0 := by omega
        obtain ⟨ra, rb, rm0, rm1, rx⟩ := hok e0'
        refine Ev.congr (fun k => if_pos e0') ?_
        by_cases l16 : acc.length = 16
        · rw [if_pos l16]
          refine Ev.step (fun k => ?_) (j2_bad s acc m 8 a b (by decide))
          simp only [vizardref14_Read.j1]
          rw [if_pos (by rw [l16]; rfl)]
        · rw [if_neg l16]
          have hf := take_facts (s := s) (by omega) (he.symm.trans e0')
          have hre := right_ev (takeV s).2.1 (by have := hf.a; omega) (by have := hf.b; omega)
          have hg : Ev (fun k => vizardref14_Read.j2 k s acc m e a b) (if checkV (takeV s).2.1 ≠ 0 then ([], checkV (takeV s).2.1) else readN n (acc ++ [(takeV s).2.1]) (takeV s).2.2) := by
            refine Ev.step (f := fun k => (vizardref14_right.f k a b).bind fun t140 => (if t140 = 0 then (if acc.length < 4398046511104 then (if 0 ≤ m then (if m ≤ (s.size : Int) then (vizardref14_Read.l0 k (s.extract (m : Int).toNat s.size) (acc ++ [(⟨a, b⟩ : S27)])) else (none)) else (none)) else (none)) else (some (([] : List (S27)), t140)))) (fun k => ?_) ?_
            · simp only [vizardref14_Read.j2]
              rw [if_pos e0']
            · subst ra rb
              refine Ev.bind hre ?_
              by_cases c0 : checkV (takeV s).2.1 ≠ 0
              · rw [if_pos c0]
                exact Ev.congr (f := fun _ => some ([], checkV (takeV s).2.1)) (fun k => if_neg c0) (Ev.now _)
              · rw [if_neg c0]
                refine Ev.congr (fun k => (if_pos (by omega)).trans ((if_pos (by omega)).trans ((if_pos rm0).trans (if_pos rm1)))) ?_
                rw [rx]
                exact ih _ _ (by have := hf.rest; omega) (by rw [List.length_append]; simp only [List.length_cons, List.length_nil]; omega) (by have := hf.rest; omega)
          refine Ev.step (fun k => ?_) hg
          simp only [vizardref14_Read.j1]
          rw [if_neg (by rw [beq_eq_false_iff_ne.2 (show ((acc.length : Nat) : Int) ≠ 16 by omega)]; simp)]
theorem read_ev (s : ByteArray) (hs : s.size ≤ 1000000000) : Ev (fun k => vizardref14_Read.f k s) (readV s) := rread_ev s.size [] s (Nat.le_refl _) (by decide) hs
end Go.Proofs.YtoigojlemffikaaDoor.Fld
