/- Layer 14: what is written is read as it was; what is read, written again, is no longer. -/
import Derived.Test.YtoigojlemffikaaDoorWr14
import Derived.Test.YtoigojlemffikaaDoorRead14
namespace Go.Proofs.YtoigojlemffikaaDoor.Fld
open Go.RowKit Go.Deep Go.Proofs.YtoigojlemffikaaDoor.PFields Go.Proofs.YtoigojlemffikaaDoorW.PrintWords Go.Proofs.YtoigojlemffikaaDoorW.PrintLast Go.Proofs.YtoigojlemffikaaDoorW.PrintMore Go.Proofs.YtoigojlemffikaaDoor.Hand Go.Proofs.YtoigojlemffikaaDoor.Pure
set_option linter.unusedVariables false
set_option linter.unusedSimpArgs false
theorem drop_front (a b : ByteArray) : (a ++ b).extract a.size (a ++ b).size = b := by
  have h := extract_mid a b (⟨#[]⟩ : ByteArray)
  rw [show a ++ b ++ (⟨#[]⟩ : ByteArray) = a ++ b from ByteArray.append_empty] at h
  rw [ByteArray.size_append]
  exact h
theorem rest_front (a b : ByteArray) (n : Int) (h : n = (a.size : Int)) : restV (a ++ b) n = b := by
  subst h
  unfold restV
  rw [Int.toNat_natCast]
  exact drop_front a b
theorem eqB_iff {a b : ByteArray} : eqB a b = true ↔ a = b := by
  unfold eqB
  rw [beq_iff_eq]
  constructor
  · intro h
    rw [ByteArray.toList_eq, ByteArray.toList_eq] at h
    exact ByteArray.ext (Array.toList_inj.1 h)
  · intro h; rw [h]
theorem find_some {p : S27 → Bool} {n i : Nat} (h : findTo p n = some i) : i < n ∧ p (tbl.getD i z27) = true := by
    unfold findTo at h
    have h2 := List.find?_some h
    exact ⟨List.mem_range.1 (List.mem_of_find?_eq_some h), h2⟩
theorem head_bt (x : Int) (h0 : 0 ≤ x) (h1 : x ≤ 255) (more : ByteArray) : bt (strOfNums [x] ++ more) 0 = x := by
  have := bt_append_left (strOfNums [x]) more 0 (by rw [one_size1]; decide)
  exact this.trans (one_bt x h0 h1)
theorem rest_head (x : Int) (more : ByteArray) : restV (strOfNums [x] ++ more) 1 = more := rest_front _ _ 1 (by rw [one_size1]; rfl)
theorem take_whole (i : Nat) (hi : i < 20) (more : ByteArray) : takeV (strOfNums [128 + (i : Int)] ++ more) = (0, tbl.getD i z27, more) := by
  have hb := head_bt (128 + (i : Int)) (by omega) (by omega) more
  unfold takeV
  rw [hb, if_pos (by omega), if_pos (by omega), show (128 + (i : Int) - 128).toNat = i by omega, rest_head]
theorem take_named (j : Nat) (hj : j < 20) (v more : ByteArray) (hv : v.size ≤ 140737488351232) : takeV (strOfNums [64 + (j : Int)] ++ (vtext v ++ more)) = (0, ⟨(tbl.getD j z27).f0, v⟩, more) := by
  have hb := head_bt (64 + (j : Int)) (by omega) (by omega) (vtext v ++ more)
  unfold takeV
  rw [hb, if_neg (by omega), if_pos (by omega), if_pos (by omega), show (64 + (j : Int) - 64).toNat = j by omega, rest_head, vtake_text v more hv]
  dsimp only
  rw [if_pos rfl, rest_front _ _ _ rfl]
theorem zero_str : (⟨#[0]⟩ : ByteArray) = strOfNums [0] := by decide
theorem take_plain (u v more : ByteArray) (hu : u.size ≤ 140737488351232) (hv : v.size ≤ 140737488351232) : takeV ((⟨#[0]⟩ : ByteArray) ++ (vtext u ++ (vtext v ++ more))) = (0, ⟨u, v⟩, more) := by
  rw [zero_str]
  have hb := head_bt 0 (by omega) (by omega) (vtext u ++ (vtext v ++ more))
  unfold takeV
  rw [hb, if_neg (by omega), if_neg (by omega), if_neg (by simp), rest_head, vtake_text u _ hu]
  dsimp only
  rw [if_neg (by simp), rest_front _ _ _ rfl, vtake_text v _ hv]
  dsimp only
  rw [if_neg (by simp), rest_front _ _ _ rfl]
theorem take_line (f : S27) (h : checkV f = 0) (more : ByteArray) : takeV (lineV f ++ more) = (0, f, more) := by
  have hs := small_of_check h
  obtain ⟨a, b⟩ := f
  dsimp only at hs
  unfold lineV
  cases hc : findTo (fun x => sameB x ⟨a, b⟩) 20 with
  | some i =>
    dsimp only
    obtain ⟨hi, hp⟩ := find_some hc
    rw [take_whole i hi]
    unfold sameB at hp
    dsimp only at hp
    rw [Bool.and_eq_true, eqB_iff, eqB_iff] at hp
    generalize tbl.getD i z27 = x at hp
    obtain ⟨x0, x1⟩ := x
    obtain ⟨rfl, rfl⟩ := hp
    rfl
  | none =>
    dsimp only
    cases hd : findTo (fun x => eqB x.f0 a) 20 with
    | some j =>
      dsimp only
      obtain ⟨hj, hp⟩ := find_some hd
      rw [eqB_iff] at hp
      rw [ByteArray.append_assoc, take_named j hj b more (by omega), hp]
    | none =>
      dsimp only
      rw [ByteArray.append_assoc, ByteArray.append_assoc, take_plain a b more (by omega) (by omega)]
theorem cat_from (l : List S27) : ∀ a : ByteArray, l.foldl (fun a f => a ++ lineV f) a = a ++ catV l := by
  induction l with
  | nil => intro a; exact ByteArray.append_empty.symm
  | cons f t ih =>
    intro a
    unfold catV
    rw [List.foldl_cons, List.foldl_cons, ih, ih, ByteArray.append_assoc]
    rw [show (⟨#[]⟩ : ByteArray) ++ lineV f = lineV f from ByteArray.empty_append]
theorem cat_cons (f : S27) (t : List S27) : catV (f :: t) = lineV f ++ catV t := by
  show List.foldl _ _ t = _
  rw [cat_from]
  dsimp only
  rw [show (⟨#[]⟩ : ByteArray) ++ lineV f = lineV f from ByteArray.empty_append]
theorem cat_append (a b : List S27) : catV (a ++ b) = catV a ++ catV b := by
  unfold catV
  rw [List.foldl_append]
  exact cat_from b _
theorem line_pos (f : S27) : 1 ≤ (lineV f).size := by
  unfold lineV
  split
  · exact Nat.le_of_eq (one_size1 _).symm
  · split
    · rw [ByteArray.size_append, one_size1]; omega
    · rw [ByteArray.size_append, ByteArray.size_append]; show 1 ≤ 1 + _ + _; omega
theorem read_cat (l : List S27) : ∀ (acc : List S27) (n : Nat), (∀ f ∈ l, checkV f = 0) → acc.length + l.length ≤ 16 → (catV l).size ≤ n → readN n acc (catV l) = (acc ++ l, 0) := by
  induction l with
  | nil =>
    intro acc n _ _ _
    rw [List.append_nil]
    exact readN_nil rfl
  | cons f t ih =>
    intro acc n hc hl hn
    have hp := line_pos f
    have hz : (catV (f :: t)).size = (lineV f).size + (catV t).size := by rw [cat_cons, ByteArray.size_append]
    obtain ⟨m, rfl⟩ : ∃ m, n = m + 1 := ⟨n - 1, by omega⟩
    have ht := take_line f (hc f (List.mem_cons_self ..)) (catV t)
    rw [readN_succ, if_neg (by omega), cat_cons, ht]
    dsimp only
    rw [List.length_cons] at hl
    rw [if_neg (by simp), if_neg (by omega), hc f (List.mem_cons_self ..), if_neg (by simp), ih (acc ++ [f]) m (fun g hg => hc g (List.mem_cons_of_mem _ hg)) (by rw [List.length_append]; simp only [List.length_cons, List.length_nil]; omega) (by omega)]
    rw [List.append_assoc]
    rfl
theorem read_write {l : List S27} (h : checksV l = 0) : readV (catV l) = (l, 0) := by
  have := read_cat l [] (catV l).size (checks_all h).2 (by have := (checks_all h).1; simpa using this) (Nat.le_refl _)
  exact this
theorem tbl_line : ∀ i, i < 20 → (lineV (tbl.getD i z27)).size = 1 := by decide +kernel
theorem vtake_min {r v : ByteArray} {n : Int} (h : vtake r = (v, n, 0)) : ((vtext v).size : Int) ≤ n ∧ n ≤ r.size := by
  unfold vtake at h
  by_cases h1 : (vget r).2.2 = 0
  · rw [if_pos h1] at h
    have hk := vget_ok r h1
    by_cases h2 : (vget r).1 > (r.size : Int) - (vget r).2.1
    · rw [if_pos h2] at h; injection h with _ h; injection h with _ h; exact absurd h (by decide)
    · rw [if_neg h2] at h
      injection h with hv h
      injection h with hn _
      have hz : (v.size : Int) = (vget r).1 := by rw [← hv, ByteArray.size_extract]; omega
      have hb := bt_range r 0
      have hc := vlen_cases _ hb.1 hb.2
      have hvg : (vget r).1 = vacc r (vlenOf (bt r 0)).toNat ∧ (vget r).2.1 = vlenOf (bt r 0) := by
        unfold vget at h1 ⊢
        by_cases c1 : r.size = 0
        · rw [if_pos c1] at h1; exact absurd h1 (by decide)
        · rw [if_neg c1] at h1 ⊢
          by_cases c2 : (r.size : Int) < vlenOf (bt r 0)
          · rw [if_pos c2] at h1; exact absurd h1 (by decide)
          · rw [if_neg c2]; exact ⟨rfl, rfl⟩
      have r0 := vacc_range r 0
      have r1 := vacc_range r 1
      have r3 := vacc_range r 3
      have r7 := vacc_range r 7
      have hs : (vsize (v.size : Int) : Int) ≤ (vget r).2.1 := by
        rw [hz, hvg.1, hvg.2]
        rw [show (64 * 256 ^ 0 : Int) = 64 by decide] at r0
        rw [show (64 * 256 ^ 1 : Int) = 16384 by decide] at r1
        rw [show (64 * 256 ^ 3 : Int) = 1073741824 by decide] at r3
        rw [show (64 * 256 ^ 7 : Int) = 4611686018427387904 by decide] at r7
        rcases hc with ⟨e, _⟩ | ⟨e, _⟩ | ⟨e, _⟩ | ⟨e, _⟩
        · rw [e]; show (vsize (vacc r (0 + 1)) : Int) ≤ 1
          generalize vacc r (0 + 1) = x at r0
          unfold vsize
          repeat' split
          all_goals omega
        · rw [e]; show (vsize (vacc r (1 + 1)) : Int) ≤ 2
          generalize vacc r (1 + 1) = x at r1
          unfold vsize
          repeat' split
          all_goals omega
        · rw [e]; show (vsize (vacc r (3 + 1)) : Int) ≤ 4
          generalize vacc r (3 + 1) = x at r3
          unfold vsize
          repeat' split
          all_goals omega
        · rw [e]; show (vsize (vacc r (7 + 1)) : Int) ≤ 8
          generalize vacc r (7 + 1) = x at r7
          unfold vsize
          repeat' split
          all_goals omega
      have ht : (vtext v).size = vsize v.size + v.size := by rw [vtext, ByteArray.size_append, vput_size]
      constructor
      · rw [ht]; omega
      · omega
  · rw [if_neg h1] at h; injection h with _ h; injection h with _ h; exact absurd h (by decide)
theorem line_le (f : S27) : (lineV f).size ≤ 1 + (vtext f.f0).size + (vtext f.f1).size := by
  unfold lineV
  split
  · rw [one_size1]; omega
  · split
    · rw [ByteArray.size_append, one_size1]; omega
    · rw [ByteArray.size_append, ByteArray.size_append]; exact Nat.le_refl _
theorem line_le_name (f : S27) (j : Nat) (hj : j < 20) (h : (tbl.getD j z27).f0 = f.f0) : (lineV f).size ≤ 1 + (vtext f.f1).size := by
  unfold lineV
  split
  · rw [one_size1]; omega
  · split
    · rw [ByteArray.size_append, one_size1]; exact Nat.le_refl _
    · rename_i hd
      have := List.find?_eq_none.1 hd j (List.mem_range.2 hj)
      exact absurd (eqB_iff.2 h) this
theorem line_min {s : ByteArray} (h : 0 < s.size) (h0 : (takeV s).1 = 0) : (lineV (takeV s).2.1).size + (takeV s).2.2.size ≤ s.size := by
  have hr := bt_range s 0
  have h1 := rest_one h
  unfold takeV at h0
  by_cases a1 : 128 ≤ bt s 0
  · rw [if_pos a1] at h0
    by_cases a2 : bt s 0 < 148
    · have e : takeV s = (0, tbl.getD (bt s 0 - 128).toNat z27, restV s 1) := by unfold takeV; rw [if_pos a1, if_pos a2]
      rw [e]
      dsimp only
      rw [tbl_line _ (by omega)]
      omega
    · rw [if_neg a2] at h0; exact absurd h0 (by decide)
  · rw [if_neg a1] at h0
    by_cases b1 : 64 ≤ bt s 0
    · rw [if_pos b1] at h0
      by_cases b2 : bt s 0 < 84
      · rw [if_pos b2] at h0
        by_cases b3 : (vtake (restV s 1)).2.2 = 0
        · have e : takeV s = (0, ⟨(tbl.getD (bt s 0 - 64).toNat z27).f0, (vtake (restV s 1)).1⟩, restV (restV s 1) (vtake (restV s 1)).2.1) := by unfold takeV; rw [if_neg a1, if_pos b1, if_pos b2, if_pos b3]
          have hm := vtake_min (r := restV s 1) (v := (vtake (restV s 1)).1) (n := (vtake (restV s 1)).2.1) (by rw [← b3])
          have hl := line_le_name ⟨(tbl.getD (bt s 0 - 64).toNat z27).f0, (vtake (restV s 1)).1⟩ (bt s 0 - 64).toNat (by omega) rfl
          rw [e]
          dsimp only at hl ⊢
          have hz : (restV (restV s 1) (vtake (restV s 1)).2.1).size = (restV s 1).size - (vtake (restV s 1)).2.1.toNat := by unfold restV; rw [ByteArray.size_extract]; omega
          omega
        · rw [if_neg b3] at h0; dsimp only at h0; exact absurd h0 b3
      · rw [if_neg b2] at h0; exact absurd h0 (by decide)
    · rw [if_neg b1] at h0
      by_cases c1 : bt s 0 ≠ 0
      · rw [if_pos c1] at h0; exact absurd h0 (by decide)
      · rw [if_neg c1] at h0
        by_cases c2 : (vtake (restV s 1)).2.2 ≠ 0
        · rw [if_pos c2] at h0; dsimp only at h0; exact absurd h0 c2
        · rw [if_neg c2] at h0
          by_cases c3 : (vtake (restV (restV s 1) (vtake (restV s 1)).2.1)).2.2 ≠ 0
          · rw [if_pos c3] at h0; dsimp only at h0; exact absurd h0 c3
          · have e : takeV s = (0, ⟨(vtake (restV s 1)).1, (vtake (restV (restV s 1) (vtake (restV s 1)).2.1)).1⟩, restV (restV (restV s 1) (vtake (restV s 1)).2.1) (vtake (restV (restV s 1) (vtake (restV s 1)).2.1)).2.1) := by unfold takeV; rw [if_neg a1, if_neg b1, if_neg c1, if_neg c2, if_neg c3]
            have c2' : (vtake (restV s 1)).2.2 = 0 := by omega
            have c3' : (vtake (restV (restV s 1) (vtake (restV s 1)).2.1)).2.2 = 0 := by omega
            rw [e]
            generalize restV s 1 = r1 at h1 c2' c3' e ⊢
            have hm := vtake_min (r := r1) (v := (vtake r1).1) (n := (vtake r1).2.1) (by rw [← c2'])
            have hz : (restV r1 (vtake r1).2.1).size = r1.size - (vtake r1).2.1.toNat := by unfold restV; rw [ByteArray.size_extract]; omega
            generalize restV r1 (vtake r1).2.1 = r2 at hz c3' e ⊢
            have hm2 := vtake_min (r := r2) (v := (vtake r2).1) (n := (vtake r2).2.1) (by rw [← c3'])
            have hz2 : (restV r2 (vtake r2).2.1).size = r2.size - (vtake r2).2.1.toNat := by unfold restV; rw [ByteArray.size_extract]; omega
            have hl := line_le ⟨(vtake r1).1, (vtake r2).1⟩
            dsimp only at hl ⊢
            omega
structure ReadF (acc x : List S27) (s : ByteArray) : Prop where
  out : ∃ l2, x = acc ++ l2 ∧ (∀ f ∈ l2, checkV f = 0) ∧ (catV l2).size ≤ s.size
  len : acc.length ≤ 16 → x.length ≤ 16
theorem read_facts (n : Nat) : ∀ (acc : List S27) (s : ByteArray) (x : List S27), s.size ≤ n → readN n acc s = (x, 0) → ReadF acc x s := by
  induction n with
  | zero =>
    intro acc s x hs h
    obtain rfl : acc = x := congrArg Prod.fst h
    exact ⟨⟨[], (List.append_nil _).symm, (fun f hf => by cases hf), Nat.zero_le _⟩, fun h => h⟩
  | succ n ih =>
    intro acc s x hs h
    rw [readN_succ] at h
    by_cases z : s.size = 0
    · rw [if_pos z] at h
      obtain rfl : acc = x := congrArg Prod.fst h
      exact ⟨⟨[], (List.append_nil _).symm, (fun f hf => by cases hf), Nat.zero_le _⟩, fun h => h⟩
    · rw [if_neg z] at h
      by_cases e0 : (takeV s).1 ≠ 0
      · rw [if_pos e0] at h; exact absurd (congrArg Prod.snd h) e0
      · rw [if_neg e0] at h
        have e0' : (takeV s).1 = 0 := by omega
        by_cases l16 : acc.length = 16
        · rw [if_pos l16] at h; exact absurd (congrArg Prod.snd h) (show ¬ (8 : Int) = 0 by decide)
        · rw [if_neg l16] at h
          by_cases c0 : checkV (takeV s).2.1 ≠ 0
          · rw [if_pos c0] at h; exact absurd (congrArg Prod.snd h) c0
          · rw [if_neg c0] at h
            have hf := take_facts (s := s) (by omega) e0'
            have hm := line_min (s := s) (by omega) e0'
            obtain ⟨⟨l2, hx, hc, hz⟩, hlen⟩ := ih _ _ _ (by have := hf.rest; omega) h
            refine ⟨⟨(takeV s).2.1 :: l2, by rw [hx, List.append_assoc]; rfl, fun f hf => ?_, ?_⟩, fun ha => hlen (by rw [List.length_append]; simp only [List.length_cons, List.length_nil]; omega)⟩
            · rcases List.mem_cons.1 hf with rfl | hf
              · omega
              · exact hc f hf
            · rw [cat_cons, ByteArray.size_append]; omega
theorem bad_all {l : List S27} (h : ∀ f ∈ l, checkV f = 0) : firstBad l = 0 := by
  induction l with
  | nil => rfl
  | cons x t ih =>
    rw [firstBad_cons, if_pos (h x (List.mem_cons_self ..))]
    exact ih (fun f hf => h f (List.mem_cons_of_mem _ hf))
theorem read_ok {s : ByteArray} {x : List S27} (h : readV s = (x, 0)) : checksV x = 0 ∧ (catV x).size ≤ s.size := by
  obtain ⟨⟨l2, hx, hc, hz⟩, hl⟩ := read_facts s.size [] s x (Nat.le_refl _) h
  rw [List.nil_append] at hx
  subst hx
  refine ⟨?_, hz⟩
  unfold checksV
  rw [if_neg (by have := hl (by decide); omega)]
  exact bad_all hc
theorem read_bad (n : Nat) : ∀ (acc : List S27) (s : ByteArray) (x : List S27) (e : Int), readN n acc s = (x, e) → e ≠ 0 → x = [] := by
  induction n with
  | zero => intro acc s x e h he; exact absurd (congrArg Prod.snd h).symm he
  | succ n ih =>
    intro acc s x e h he
    rw [readN_succ] at h
    by_cases z : s.size = 0
    · rw [if_pos z] at h; exact absurd (congrArg Prod.snd h).symm he
    · rw [if_neg z] at h
      by_cases e0 : (takeV s).1 ≠ 0
      · rw [if_pos e0] at h; exact (congrArg Prod.fst h).symm
      · rw [if_neg e0] at h
        by_cases l16 : acc.length = 16
        · rw [if_pos l16] at h; exact (congrArg Prod.fst h).symm
        · rw [if_neg l16] at h
          by_cases c0 : checkV (takeV s).2.1 ≠ 0
          · rw [if_pos c0] at h; exact (congrArg Prod.fst h).symm
          · rw [if_neg c0] at h; exact ih _ _ _ _ h he
theorem same_ev (l : List S27) (hl : l.length ≤ 100000) (d : Nat) : ∀ i : Nat, l.length - i = d → i ≤ l.length → Ev (fun k => vizardref14_Same.l0 k l l i) true := by
  induction d with
  | zero =>
    intro i hd hi
    refine Ev.step (f := fun _ => some true) (fun k => ?_) (Ev.now _)
    simp only [vizardref14_Same.l0]; rw [if_neg (by omega)]
  | succ d ih =>
    intro i hd hi
    refine Ev.step (fun k => ?_) (ih (i + 1) (by omega) (by omega))
    simp only [vizardref14_Same.l0]
    rw [if_pos (by omega), if_pos (by omega), if_pos (by omega), if_neg (by simp), wrap_in _ (by omega) (by omega)]
    rfl
theorem same_self (l : List S27) (hl : l.length ≤ 100000) : ∃ k, vizardref14_Same.f k l l = some true := by
  refine (Ev.congr (fun k => ?_) (same_ev l hl l.length 0 (by omega) (by omega))).rounds
  simp only [vizardref14_Same.f]
  rw [if_pos trivial]
  rfl
end Go.Proofs.YtoigojlemffikaaDoor.Fld
