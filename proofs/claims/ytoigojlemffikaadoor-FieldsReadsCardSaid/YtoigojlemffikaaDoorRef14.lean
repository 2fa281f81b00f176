/- Layer 14: the ref's functions answer as the library's. -/
import Derived.Test.YtoigojlemffikaaDoorBk14
namespace Go.Proofs.YtoigojlemffikaaDoor.Fld
open Go.RowKit Go.Deep Go.Proofs.YtoigojlemffikaaDoor.PFields Go.Proofs.YtoigojlemffikaaDoorW.PrintWords Go.Proofs.YtoigojlemffikaaDoorW.PrintLast Go.Proofs.YtoigojlemffikaaDoorW.PrintMore Go.Proofs.YtoigojlemffikaaDoor.Hand Go.Proofs.YtoigojlemffikaaDoor.Pure
set_option linter.unusedVariables false
set_option linter.unusedSimpArgs false
theorem letterB_iff (c : Int) : letterB c = true ↔ (97 ≤ c ∧ c ≤ 122) ∨ (48 ≤ c ∧ c ≤ 57) ∨ c = 45 ∨ c = 58 := by
  unfold letterB
  simp only [Bool.or_eq_true, Bool.and_eq_true, decide_eq_true_eq]
  omega
theorem wrap_nat (i : Nat) (h : i ≤ 9000000000000000) : wrap64 ((i : Int) + 1) = ((i + 1 : Nat) : Int) := by rw [wrap_in _ (by omega) (by omega)]; omega
theorem right_l1 (f0 f1 : ByteArray) (hz : f1.size ≤ 256) (d : Nat) : ∀ i : Nat, f1.size - i = d → i ≤ f1.size → allTo charB f1 i = true → Ev (fun k => vizardref14_right.l1 k i f0 f1) (if allTo charB f1 f1.size then 0 else 3) := by
  induction d with
  | zero =>
    intro i hd hi ha
    obtain rfl : i = f1.size := by omega
    rw [ha]
    refine Ev.step (f := fun _ => some 0) (fun k => ?_) (Ev.now _)
    simp only [vizardref14_right.l1]; rw [if_neg (by omega)]
  | succ d ih =>
    intro i hd hi ha
    have hil : i < f1.size := by omega
    have hs := all_step charB f1 i
    rw [ha, Bool.true_and] at hs
    have hbad := fun h => all_bad (p := charB) (s := f1) hil h
    by_cases c1 : bt f1 i < 32
    · rw [hbad (by unfold charB; rw [decide_eq_false (by omega)]; rfl)]
      refine Ev.step (f := fun _ => some 3) (fun k => ?_) (Ev.now _)
      simp only [vizardref14_right.l1]; rw [if_pos (by omega), if_pos (by omega), if_pos c1]
    · by_cases c2 : bt f1 i > 126
      · rw [hbad (by unfold charB; rw [decide_eq_false (show ¬ bt f1 i ≤ 126 by omega), Bool.and_false])]
        refine Ev.step (f := fun _ => some 3) (fun k => ?_) (Ev.now _)
        simp only [vizardref14_right.l1]; rw [if_pos (by omega), if_pos (by omega), if_neg c1, if_pos c2]
      · refine Ev.step (fun k => ?_) (ih (i + 1) (by omega) (by omega) (by rw [hs]; unfold charB; rw [decide_eq_true (show 32 ≤ bt f1 i by omega), decide_eq_true (show bt f1 i ≤ 126 by omega)]; rfl))
        simp only [vizardref14_right.l1]
        rw [if_pos (by omega), if_pos (by omega), if_neg c1, if_neg c2, wrap_nat i (by omega)]
theorem right_l0 (f0 f1 : ByteArray) (h0 : f0.size ≤ 256) (hz : f1.size ≤ 256) (d : Nat) : ∀ i : Nat, f0.size - i = d → i ≤ f0.size → allTo letterB f0 i = true → Ev (fun k => vizardref14_right.l0 k i f0 f1) (if allTo letterB f0 f0.size && allTo charB f1 f1.size then 0 else 3) := by
  induction d with
  | zero =>
    intro i hd hi ha
    obtain rfl : i = f0.size := by omega
    rw [ha, Bool.true_and]
    refine Ev.step (fun k => ?_) (right_l1 f0 f1 hz f1.size 0 (by omega) (by omega) rfl)
    simp only [vizardref14_right.l0]; rw [if_neg (by omega)]
    rfl
  | succ d ih =>
    intro i hd hi ha
    have hil : i < f0.size := by omega
    have hs := all_step letterB f0 i
    rw [ha, Bool.true_and] at hs
    have hbad := fun h => all_bad (p := letterB) (s := f0) hil h
    cases hl : letterB (bt f0 i) with
    | true =>
      rw [hl] at hs
      have hc := (letterB_iff _).1 hl
      refine Ev.step (fun k => ?_) (ih (i + 1) (by omega) (by omega) hs)
      simp only [vizardref14_right.l0]
      rw [if_pos (by omega), if_pos (by omega), wrap_nat i (by omega)]
      repeat' split
      all_goals first | rfl | omega
    | false =>
      rw [hbad hl, Bool.false_and]
      have hc : ¬((97 ≤ bt f0 i ∧ bt f0 i ≤ 122) ∨ (48 ≤ bt f0 i ∧ bt f0 i ≤ 57) ∨ bt f0 i = 45 ∨ bt f0 i = 58) := fun h => by rw [(letterB_iff _).2 h] at hl; exact absurd hl (by decide)
      refine Ev.step (f := fun _ => some 3) (fun k => ?_) (Ev.now _)
      simp only [vizardref14_right.l0]
      rw [if_pos (by omega), if_pos (by omega)]
      repeat' split
      all_goals first | rfl | omega
theorem right_ev (f : S27) (h0 : f.f0.size ≤ 140737488351232) (h1 : f.f1.size ≤ 140737488351232) : Ev (fun k => vizardref14_right.f k f.f0 f.f1) (checkV f) := by
  obtain ⟨f0, f1⟩ := f
  dsimp only at h0 h1 ⊢
  unfold checkV
  dsimp only
  by_cases a0 : 256 < f0.size
  · rw [if_pos (.inl a0)]
    refine Ev.congr (fun k => if_pos (by omega)) ?_
    refine Ev.step (f := fun _ => some 8) (fun k => ?_) (Ev.now _)
    simp only [vizardref14_right.j0]; rfl
  · refine Ev.congr (fun k => if_neg (by omega)) ?_
    by_cases a1 : 256 < f1.size
    · rw [if_pos (.inr a1)]
      refine Ev.step (f := fun _ => some 8) (fun k => ?_) (Ev.now _)
      simp only [vizardref14_right.j0]; rw [if_pos (decide_eq_true (by omega))]
    · rw [if_neg (by omega)]
      by_cases a2 : f0.size = 0
      · rw [if_pos a2]
        refine Ev.step (f := fun _ => some 3) (fun k => ?_) (Ev.now _)
        simp only [vizardref14_right.j0]; rw [if_neg (by simp; omega), if_pos ((toList_nil f0).2 a2)]
      · rw [if_neg a2]
        refine Ev.step (fun k => ?_) (right_l0 f0 f1 (by omega) (by omega) f0.size 0 (by omega) (by omega) rfl)
        simp only [vizardref14_right.j0]; rw [if_neg (by simp; omega), if_neg (fun h => a2 ((toList_nil f0).1 h))]
        rfl
theorem rd_nat (l : List S27) (i : Nat) : rd_T27 l (i : Int) = l.getD i z27 := rfl
theorem check_loop (l : List S27) (hl : l.length ≤ 16) (hs : Sized l) (d : Nat) : ∀ i : Nat, l.length - i = d → i ≤ l.length → Ev (fun k => vizardref14_Check.l0 k l i) (firstBad (l.drop i)) := by
  induction d with
  | zero =>
    intro i hd hi
    rw [List.drop_of_length_le (by omega)]
    refine Ev.step (f := fun _ => some 0) (fun k => ?_) (Ev.now _)
    simp only [vizardref14_Check.l0]; rw [if_neg (by omega)]
  | succ d ih =>
    intro i hd hi
    have hil : i < l.length := by omega
    have hx := hs _ (getD_mem hil)
    rw [drop_at hil, firstBad_cons]
    refine Ev.step (f := fun k => (vizardref14_right.f k (l.getD i z27).f0 (l.getD i z27).f1).bind fun t => if t = 0 then vizardref14_Check.l0 k l ((i + 1 : Nat) : Int) else some t) (fun k => ?_) (Ev.bind (right_ev _ hx.1 hx.2) ?_)
    · simp only [vizardref14_Check.l0]
      rw [if_pos (by omega), if_pos (by omega), wrap_nat i (by omega)]
      rfl
    · by_cases c : checkV (l.getD i z27) = 0
      · rw [if_pos c]
        exact Ev.congr (fun k => if_pos c) (ih (i + 1) (by omega) (by omega))
      · rw [if_neg c]
        exact Ev.congr (f := fun _ => some (checkV (l.getD i z27))) (fun k => if_neg c) (Ev.now _)
theorem check_ev (l : List S27) (hs : Sized l) : Ev (fun k => vizardref14_Check.f k l) (checksV l) := by
  unfold checksV
  by_cases c : 16 < l.length
  · rw [if_pos c]
    exact Ev.congr (f := fun _ => some 8) (fun k => if_pos (by omega)) (Ev.now _)
  · rw [if_neg c]
    refine Ev.congr (fun k => if_neg (by omega)) ?_
    have := check_loop l (by omega) hs l.length 0 (by omega) (by omega)
    rwa [List.drop_zero] at this
theorem rtext_ev (s : ByteArray) (hs : s.size ≤ 140737488351232) : Ev (fun k => vizardref01_Text.f k s) (vtext s) := by
  have hf := form_ok (s.size : Int) (by omega) (by omega)
  refine Ev.bind (put_r _) (Ev.congr (f := fun _ => some (vtext s)) (fun k => ?_) (Ev.now _))
  (try dsimp only)
  rw [if_pos (by rw [vput_size]; omega)]
  rfl
theorem line_l1 (f : S27) (h0 : f.f0.size ≤ 256) (h1 : f.f1.size ≤ 256) (hn : findTo (fun x => sameB x f) 20 = none) (d : Nat) : ∀ i : Nat, 20 - i = d → i ≤ 20 → (∀ k, k < i → eqB (tbl.getD k z27).f0 f.f0 = false) → Ev (fun k => vizardref14_line.l1 k tbl i f.f0 f.f1) (lineV f) := by
  have hz0 := vtext_small f.f0 h0
  have hz1 := vtext_small f.f1 h1
  induction d with
  | zero =>
    intro i hd hi ha
    obtain rfl : i = 20 := by omega
    have e : lineV f = (⟨#[0]⟩ : ByteArray) ++ vtext f.f0 ++ vtext f.f1 := by unfold lineV; rw [hn]; dsimp only; rw [find_miss (p := fun x => eqB x.f0 f.f0) ha]
    rw [e]
    refine Ev.step (f := fun k => (vizardref01_Text.f k f.f0).bind fun t178 => (if 1 + t178.size ≤ 9223372036854775807 then ((vizardref01_Text.f k f.f1).bind fun t179 => (if ((⟨#[0]⟩ : ByteArray) ++ t178).size + t179.size ≤ 9223372036854775807 then (some (((⟨#[0]⟩ : ByteArray) ++ t178) ++ t179)) else (none))) else (none))) (fun k => ?_) (Ev.bind (rtext_ev f.f0 (by omega)) ?_)
    · simp only [vizardref14_line.l1]; rw [if_neg (by rw [tbl_len]; decide)]
    · (try dsimp only)
      refine Ev.congr (fun k => if_pos (by omega)) ?_
      refine Ev.bind (rtext_ev f.f1 (by omega)) ?_
      (try dsimp only)
      exact Ev.congr (f := fun _ => some _) (fun k => if_pos (by rw [ByteArray.size_append]; show 1 + _ + _ ≤ _; omega)) (Ev.now _)
  | succ d ih =>
    intro i hd hi ha
    cases hb : eqB (tbl.getD i z27).f0 f.f0 with
    | true =>
      have e : lineV f = strOfNums [64 + (i : Int)] ++ vtext f.f1 := by unfold lineV; rw [hn]; dsimp only; rw [find_hit (p := fun x => eqB x.f0 f.f0) ha hb (by omega)]
      have hlist : ((rd_T27 tbl (i : Int)).f0).toList = f.f0.toList := by rw [rd_nat]; unfold eqB at hb; rwa [beq_iff_eq] at hb
      rw [e]
      refine Ev.step (f := fun k => (vizardref01_Text.f k f.f1).bind fun t => if (strOfNums [64 + (i : Int)]).size + t.size ≤ 9223372036854775807 then some (strOfNums [64 + (i : Int)] ++ t) else none) (fun k => ?_) (Ev.bind (rtext_ev f.f1 (by omega)) ?_)
      · simp only [vizardref14_line.l1]
        rw [if_pos (by rw [tbl_len]; omega), if_pos (by omega), if_pos hlist, Option.bind_some, wrap_in (64 + (i : Int)) (by omega) (by omega), show (64 + (i : Int)) % 256 = 64 + (i : Int) by omega]
      · (try dsimp only)
        exact Ev.congr (f := fun _ => some _) (fun k => if_pos (by rw [one_size1]; omega)) (Ev.now _)
    | false =>
      have hlist : ¬ ((rd_T27 tbl (i : Int)).f0).toList = f.f0.toList := by rw [rd_nat]; unfold eqB at hb; rwa [beq_eq_false_iff_ne] at hb
      refine Ev.step (fun k => ?_) (ih (i + 1) (by omega) (by omega) (step_lt ha hb))
      simp only [vizardref14_line.l1]
      rw [if_pos (by rw [tbl_len]; omega), if_pos (by omega), if_neg hlist, wrap_nat i (by omega)]
theorem line_l0 (f : S27) (h0 : f.f0.size ≤ 256) (h1 : f.f1.size ≤ 256) (d : Nat) : ∀ i : Nat, 20 - i = d → i ≤ 20 → (∀ k, k < i → sameB (tbl.getD k z27) f = false) → Ev (fun k => vizardref14_line.l0 k tbl i f.f0 f.f1) (lineV f) := by
  induction d with
  | zero =>
    intro i hd hi ha
    obtain rfl : i = 20 := by omega
    refine Ev.step (fun k => ?_) (line_l1 f h0 h1 (find_miss ha) 20 0 (by omega) (by omega) (fun k hk => by omega))
    simp only [vizardref14_line.l0]; rw [if_neg (by rw [tbl_len]; decide)]
    rfl
  | succ d ih =>
    intro i hd hi ha
    have hdef : ((((rd_T27 tbl (i : Int)).f0).toList) == f.f0.toList && ((((rd_T27 tbl (i : Int)).f1).toList) == f.f1.toList)) = sameB (tbl.getD i z27) f := rfl
    cases hb : sameB (tbl.getD i z27) f with
    | true =>
      have e : lineV f = strOfNums [128 + (i : Int)] := by unfold lineV; rw [find_hit (p := fun x => sameB x f) ha hb (by omega)]
      rw [e]
      refine Ev.step (f := fun _ => some (strOfNums [128 + (i : Int)])) (fun k => ?_) (Ev.now _)
      simp only [vizardref14_line.l0]
      rw [if_pos (by rw [tbl_len]; omega), if_pos (by omega), hdef, hb, if_pos rfl, wrap_in (128 + (i : Int)) (by omega) (by omega), show (128 + (i : Int)) % 256 = 128 + (i : Int) by omega]
    | false =>
      refine Ev.step (fun k => ?_) (ih (i + 1) (by omega) (by omega) (step_lt ha hb))
      simp only [vizardref14_line.l0]
      rw [if_pos (by rw [tbl_len]; omega), if_pos (by omega), hdef, hb, if_neg (by simp), wrap_nat i (by omega)]
theorem rline_ev (f : S27) (h0 : f.f0.size ≤ 256) (h1 : f.f1.size ≤ 256) : Ev (fun k => vizardref14_line.f k f.f0 f.f1) (lineV f) :=
  line_l0 f h0 h1 20 0 (by omega) (by omega) (fun k hk => by omega)
theorem write_loop (l : List S27) (hl : l.length ≤ 16) (hc : ∀ f ∈ l, checkV f = 0) (d : Nat) : ∀ i : Nat, l.length - i = d → i ≤ l.length → (catV (l.take i)).size ≤ i * 600 → Ev (fun k => vizardref14_Write.l0 k l (catV (l.take i)) i) (catV l, 0) := by
  induction d with
  | zero =>
    intro i hd hi hz
    rw [List.take_of_length_le (by omega)]
    refine Ev.step (f := fun _ => some (catV l, 0)) (fun k => ?_) (Ev.now _)
    simp only [vizardref14_Write.l0]; rw [if_neg (by omega)]
  | succ d ih =>
    intro i hd hi hz
    have hil : i < l.length := by omega
    have hsm := small_of_check (hc _ (getD_mem hil))
    have hls := line_size _ hsm.1 hsm.2
    have hst := cat_step hil
    have hih := ih (i + 1) (by omega) (by omega) (by rw [hst, ByteArray.size_append]; omega)
    rw [hst] at hih
    refine Ev.step (f := fun k => (vizardref14_line.f k (l.getD i z27).f0 (l.getD i z27).f1).bind fun t => if (catV (l.take i)).size + t.size ≤ 9223372036854775807 then vizardref14_Write.l0 k l (catV (l.take i) ++ t) ((i + 1 : Nat) : Int) else none) (fun k => ?_) (Ev.bind (rline_ev (l.getD i z27) hsm.1 hsm.2) (Ev.congr (fun k => if_pos (by omega)) hih))
    simp only [vizardref14_Write.l0]
    rw [if_pos (by omega), if_pos (by omega), wrap_nat i (by omega)]
    rfl
theorem rwrite_ev (l : List S27) (hs : Sized l) : Ev (fun k => vizardref14_Write.f k l) (writeV l) := by
  refine Ev.bind (check_ev l hs) ?_
  unfold writeV
  by_cases c : checksV l = 0
  · rw [if_pos c]
    have ha := checks_all c
    exact Ev.congr (fun k => if_pos c) (write_loop l ha.1 ha.2 l.length 0 (by omega) (by omega) (Nat.le_refl _))
  · rw [if_neg c]
    exact Ev.congr (f := fun _ => some ((⟨#[]⟩ : ByteArray), checksV l)) (fun k => if_neg c) (Ev.now _)
def getN : Nat → List S27 → ByteArray → Int → ByteArray → ByteArray × Bool
  | 0, _, _, c, v => if c = 1 then (v, true) else (⟨#[]⟩, false)
  | n + 1, l, name, c, v => match l with
    | [] => if c = 1 then (v, true) else (⟨#[]⟩, false)
    | f :: t => if f.f0.toList = name.toList then getN n t name (c + 1) f.f1 else getN n t name c v
theorem getN_cons (n : Nat) (f : S27) (t : List S27) (name : ByteArray) (c : Int) (v : ByteArray) : getN (n + 1) (f :: t) name c v = if f.f0.toList = name.toList then getN n t name (c + 1) f.f1 else getN n t name c v := rfl
theorem getA_loop (l : List S27) (name : ByteArray) (hl : l.length ≤ 4398046511104) (d : Nat) : ∀ (i : Nat) (c : Int) (v : ByteArray), l.length - i = d → i ≤ l.length → 0 ≤ c → c ≤ i → Ev (fun k => fields_Get.l0 k name v c l (l.length : Int) i) (getN d (l.drop i) name c v) := by
  induction d with
  | zero =>
    intro i c v hd hi h0 hc
    unfold getN
    by_cases h1 : c = 1
    · rw [if_pos h1]
      refine Ev.step (f := fun _ => some (v, true)) (fun k => ?_) (Ev.now _)
      simp only [fields_Get.l0]; rw [if_neg (by omega), if_pos h1]
    · rw [if_neg h1]
      refine Ev.step (f := fun _ => some ((⟨#[]⟩ : ByteArray), false)) (fun k => ?_) (Ev.now _)
      simp only [fields_Get.l0]; rw [if_neg (by omega), if_neg h1]
  | succ d ih =>
    intro i c v hd hi h0 hc
    have hil : i < l.length := by omega
    rw [drop_at hil, getN_cons]
    by_cases h1 : (l.getD i z27).f0.toList = name.toList
    · rw [if_pos h1]
      refine Ev.step (fun k => ?_) (ih (i + 1) (c + 1) (l.getD i z27).f1 (by omega) (by omega) (by omega) (by omega))
      simp only [fields_Get.l0]
      rw [if_pos (by omega), if_pos (by omega), if_pos (by omega), rd_nat, if_pos h1, wrap_nat i (by omega), wrap_in (c + 1) (by omega) (by omega)]
    · rw [if_neg h1]
      refine Ev.step (fun k => ?_) (ih (i + 1) c v (by omega) (by omega) h0 (by omega))
      simp only [fields_Get.l0]
      rw [if_pos (by omega), if_pos (by omega), if_pos (by omega), rd_nat, if_neg h1, wrap_nat i (by omega)]
theorem getR_loop (l : List S27) (name : ByteArray) (hl : l.length ≤ 4398046511104) (d : Nat) : ∀ (i : Nat) (c : Int) (v : ByteArray), l.length - i = d → i ≤ l.length → 0 ≤ c → c ≤ i → Ev (fun k => vizardref14_Get.l0 k l name c v i) (getN d (l.drop i) name c v) := by
  induction d with
  | zero =>
    intro i c v hd hi h0 hc
    unfold getN
    by_cases h1 : c = 1
    · rw [if_pos h1]
      refine Ev.step (f := fun _ => some (v, true)) (fun k => ?_) (Ev.now _)
      simp only [vizardref14_Get.l0]; rw [if_neg (by omega), if_pos h1]
    · rw [if_neg h1]
      refine Ev.step (f := fun _ => some ((⟨#[]⟩ : ByteArray), false)) (fun k => ?_) (Ev.now _)
      simp only [vizardref14_Get.l0]; rw [if_neg (by omega), if_neg h1]
  | succ d ih =>
    intro i c v hd hi h0 hc
    have hil : i < l.length := by omega
    rw [drop_at hil, getN_cons]
    by_cases h1 : (l.getD i z27).f0.toList = name.toList
    · rw [if_pos h1]
      refine Ev.step (fun k => ?_) (ih (i + 1) (c + 1) (l.getD i z27).f1 (by omega) (by omega) (by omega) (by omega))
      simp only [vizardref14_Get.l0]
      rw [if_pos (by omega), if_pos (by omega), rd_nat, if_pos h1, wrap_nat i (by omega), wrap_in (c + 1) (by omega) (by omega)]
    · rw [if_neg h1]
      refine Ev.step (fun k => ?_) (ih (i + 1) c v (by omega) (by omega) h0 (by omega))
      simp only [vizardref14_Get.l0]
      rw [if_pos (by omega), if_pos (by omega), rd_nat, if_neg h1, wrap_nat i (by omega)]
def getV (l : List S27) (name : ByteArray) : ByteArray × Bool := getN l.length l name 0 ⟨#[]⟩
theorem getA_ev (l : List S27) (name : ByteArray) (hl : l.length ≤ 4398046511104) : Ev (fun k => fields_Get.f k l name) (getV l name) := getA_loop l name hl l.length 0 0 _ (by omega) (by omega) (by omega) (by omega)
theorem getR_ev (l : List S27) (name : ByteArray) (hl : l.length ≤ 4398046511104) : Ev (fun k => vizardref14_Get.f k l name) (getV l name) := getR_loop l name hl l.length 0 0 _ (by omega) (by omega) (by omega) (by omega)
end Go.Proofs.YtoigojlemffikaaDoor.Fld
