/- The pure law ReplaySees -/
import Derived.Test.YtligpakpgifkdaaGoodReplaySees
import Derived.Test.YtligpakpgifkdaaHand
import Derived.Test.YtligpakpgifkdaaPReplaySeesx1
namespace Go.Proofs.Ytligpakpgifkdaa.Pure
open Go.RowKit Go.Proofs.Ytligpakpgifkdaa.PReplaySees Go.Proofs.YtligpakpgifkdaaW.PrintWords Go.Proofs.YtligpakpgifkdaaW.PrintLast Go.Proofs.Ytligpakpgifkdaa.Opening Go.Proofs.Ytligpakpgifkdaa.Hand
set_option linter.unusedVariables false
set_option linter.unusedSimpArgs false
theorem wrap_in (x : Int) (h0 : -9223372036854775808 ≤ x) (h1 : x ≤ 9223372036854775807) : wrap64 x = x := by
  unfold wrap64
  omega
theorem mx_eq (a b : Int) : mx a b = if a < b then b else a := rfl
theorem mn_eq (a b : Int) : mn a b = if b < a then b else a := rfl
theorem u64_eq (n : Int) : IntKind.u64.wrap n = n % 18446744073709551616 := by simp [IntKind.wrap, IntKind.bits, IntKind.signed]
theorem u64_range (n : Int) : 0 ≤ IntKind.u64.wrap n ∧ IntKind.u64.wrap n < 18446744073709551616 := by
  rw [u64_eq]
  omega
theorem u32_eq (n : Int) : IntKind.u32.wrap n = n % 4294967296 := by simp [IntKind.wrap, IntKind.bits, IntKind.signed]
theorem ev_p {α : Type} {c : Prop} [Decidable c] {f g : Nat → Option α} {v : α} (h : c) (e : Ev f v) : Ev (fun k => if c then f k else g k) v := Ev.congr (fun k => if_pos h) e
theorem ev_n {α : Type} {c : Prop} [Decidable c] {f g : Nat → Option α} {v : α} (h : ¬ c) (e : Ev g v) : Ev (fun k => if c then f k else g k) v := Ev.congr (fun k => if_neg h) e
/-! ### The window: a greatest number and the bits behind it -/
theorem or_nat (a b : Nat) (ha : a < 2 ^ 64) (hb : b < 2 ^ 64) : Go.bits .or .u64 (a : Int) (b : Int) = ((a ||| b : Nat) : Int) := by
  have hx : a ||| b < 2 ^ 64 := Nat.or_lt_two_pow ha hb
  have h1 : (BitVec.ofInt 64 (a : Int)).toNat = a := by
    rw [BitVec.ofInt_natCast, BitVec.toNat_ofNat]; exact Nat.mod_eq_of_lt ha
  have h2 : (BitVec.ofInt 64 (b : Int)).toNat = b := by
    rw [BitVec.ofInt_natCast, BitVec.toNat_ofNat]; exact Nat.mod_eq_of_lt hb
  show IntKind.u64.wrap ((BitVec.ofInt 64 (a : Int) ||| BitVec.ofInt 64 (b : Int)).toNat : Int) = _
  rw [BitVec.toNat_or, h1, h2, u64_eq]
  omega
theorem and1_nat (a : Nat) (ha : a < 2 ^ 64) : Go.bits .and .u64 (a : Int) 1 = ((a % 2 : Nat) : Int) := by
  have h1 : (BitVec.ofInt 64 (a : Int)).toNat = a := by
    rw [BitVec.ofInt_natCast, BitVec.toNat_ofNat]; exact Nat.mod_eq_of_lt ha
  have h2 : (BitVec.ofInt 64 (1 : Int)).toNat = 1 := by decide
  show IntKind.u64.wrap ((BitVec.ofInt 64 (a : Int) &&& BitVec.ofInt 64 (1 : Int)).toNat : Int) = _
  rw [BitVec.toNat_and, h1, h2, Nat.and_one_is_mod, u64_eq]
  omega
theorem shl_nat (a y : Nat) (ha : a < 2 ^ 64) (hy : y < 64) : shl .u64 (a : Int) (y : Int) = (((a <<< y) % 2 ^ 64 : Nat) : Int) := by
  unfold shl
  rw [show min (y : Int).toNat IntKind.u64.bits = y by simp [IntKind.bits]; omega, u64_eq, Nat.shiftLeft_eq]
  simp
theorem shr_nat (a y : Nat) (hy : y < 64) : shr .u64 (a : Int) (y : Int) = ((a >>> y : Nat) : Int) := by
  unfold shr
  rw [show min (y : Int).toNat IntKind.u64.bits = y by simp [IntKind.bits]; omega, Nat.shiftRight_eq_div_pow]
  simp
def M : Int := 4611686018427387903
/-- What Check answers. -/
def wck (t : Int) (b : Nat) (n : Int) : Int := if n < 0 ∨ n > M then 2 else if b = 0 ∨ n > t then 0 else if t - n ≥ 64 then 11 else if b.testBit (t - n).toNat then 11 else 0
/-- What See leaves. -/
def wsee (t : Int) (b : Nat) (n : Int) : Int × Int × Nat := if wck t b n ≠ 0 then (wck t b n, t, b) else if b = 0 then (0, n, 1) else if n > t then (0, n, if n - t < 64 then 1 ||| ((b <<< (n - t).toNat) % 2 ^ 64) else 1) else (0, t, b ||| ((1 <<< (t - n).toNat) % 2 ^ 64))
/-- A window that can be. -/
structure Win (t : Int) (b : Nat) : Prop where
  low : 0 ≤ t
  high : t ≤ M
  bits : b < 2 ^ 64
theorem check_ev (t n : Int) (b : Nat) (h : Win t b) (h0 : -9223372036854775808 ≤ n) (h1 : n ≤ 9223372036854775807) : Ev (fun k => replay_Window_Check.f k t (b : Int) n) (wck t b n, t, (b : Int)) := by
  have hl := h.low
  have hh := h.high
  have hb := h.bits
  unfold M at hh
  unfold wck M replay_Window_Check.f
  have bad : Ev (fun k => replay_Window_Check.j0 k n true t (b : Int)) (2, t, (b : Int)) := Ev.step (f := fun _ => some (2, t, (b : Int))) (fun k => by simp [replay_Window_Check.j0]) (Ev.now _)
  by_cases n0 : n < 0
  · rw [if_pos (Or.inl n0)]
    exact ev_p n0 bad
  refine ev_n n0 ?_
  by_cases n1 : n > 4611686018427387903
  · rw [if_pos (Or.inr n1), decide_eq_true n1]
    exact bad
  rw [if_neg (by omega), decide_eq_false n1]
  have fresh : Ev (fun k => replay_Window_Check.j1 k n true t (b : Int)) (0, t, (b : Int)) := Ev.step (f := fun _ => some (0, t, (b : Int))) (fun k => by simp [replay_Window_Check.j1]) (Ev.now _)
  by_cases b0 : b = 0
  · rw [if_pos (Or.inl b0)]
    subst b0
    refine Ev.step (fun k => ?_) fresh
    simp [replay_Window_Check.j0]
  have b0' : ¬ (b : Int) = 0 := by omega
  by_cases n2 : n > t
  · rw [if_pos (Or.inr n2)]
    refine Ev.step (fun k => ?_) fresh
    simp only [replay_Window_Check.j0]
    rw [if_neg (by decide), if_neg b0', decide_eq_true n2]
  rw [if_neg (fun hh => hh.elim b0 n2)]
  refine Ev.step (f := fun k => replay_Window_Check.j1 k n false t (b : Int)) (fun k => ?_) ?_
  · simp only [replay_Window_Check.j0]
    rw [if_neg (by decide), if_neg b0', decide_eq_false n2]
  by_cases n3 : t - n ≥ 64
  · rw [if_pos n3]
    refine Ev.step (f := fun _ => some (11, t, (b : Int))) (fun k => ?_) (Ev.now _)
    simp only [replay_Window_Check.j1]
    rw [if_neg (by decide), wrap_in _ (by omega) (by omega), if_pos n3]
  · rw [if_neg n3]
    obtain ⟨y, hy⟩ : ∃ y : Nat, t - n = y := ⟨(t - n).toNat, by omega⟩
    have e1 : Go.bits .and .u64 (shr .u64 (b : Int) (y : Int)) 1 = (((b >>> y) % 2 : Nat) : Int) := by
      rw [shr_nat b y (by omega)]
      exact and1_nat _ (Nat.lt_of_le_of_lt (Nat.shiftRight_le b y) hb)
    have e2 : (b.testBit (t - n).toNat = true) ↔ (b >>> y) % 2 = 1 := by
      rw [hy, Int.toNat_natCast, Nat.testBit_eq_decide_div_mod_eq, Nat.shiftRight_eq_div_pow]
      simp
    refine Ev.step (f := fun _ => some (if b.testBit (t - n).toNat then 11 else 0, t, (b : Int))) (fun k => ?_) (Ev.now _)
    simp only [replay_Window_Check.j1]
    rw [if_neg (by decide), wrap_in _ (by omega) (by omega), if_neg n3, if_pos (by omega), hy, e1]
    rw [hy] at e2
    by_cases c : (b >>> y) % 2 = 1
    · rw [if_pos (by omega), if_pos (e2.2 c)]
    · rw [if_neg (by omega), if_neg (fun h => c (e2.1 h))]
theorem see_ev (t n : Int) (b : Nat) (h : Win t b) (h0 : -9223372036854775808 ≤ n) (h1 : n ≤ 9223372036854775807) : Ev (fun k => replay_Window_See.f k t (b : Int) n) ((wsee t b n).1, (wsee t b n).2.1, ((wsee t b n).2.2 : Int)) := by
  have hl := h.low
  have hh := h.high
  have hb := h.bits
  unfold M at hh
  refine Ev.bind (check_ev t n b h h0 h1) (ev_p ⟨rfl, rfl⟩ ?_)
  by_cases c0 : wck t b n ≠ 0
  · have e : wsee t b n = (wck t b n, t, b) := by unfold wsee; rw [if_pos c0]
    rw [e]
    exact ev_p c0 (Ev.now _)
  refine ev_n c0 ?_
  have hn : 0 ≤ n ∧ n ≤ 4611686018427387903 := by
    by_cases hc : n < 0 ∨ n > M
    · exact absurd (by unfold wck; rw [if_pos hc]; decide) c0
    · unfold M at hc; omega
  by_cases b0 : b = 0
  · have e : wsee t b n = (0, n, 1) := by unfold wsee; rw [if_neg c0, if_pos b0]
    rw [e]
    exact ev_p (by omega) (Ev.now _)
  refine ev_n (by omega) ?_
  by_cases n2 : n > t
  · refine ev_p n2 ?_
    rw [wrap_in _ (by omega) (by omega)]
    by_cases n3 : n - t < 64
    · have ew : wsee t b n = (0, n, 1 ||| ((b <<< (n - t).toNat) % 2 ^ 64)) := by unfold wsee; rw [if_neg c0, if_neg b0, if_pos n2, if_pos n3]
      obtain ⟨y, hy⟩ : ∃ y : Nat, n - t = y := ⟨(n - t).toNat, by omega⟩
      rw [hy, Int.toNat_natCast] at ew
      have e := or_nat 1 ((b <<< y) % 2 ^ 64) (by decide) (Nat.mod_lt _ (by decide))
      rw [show ((1 : Nat) : Int) = 1 from rfl] at e
      rw [ew, hy, shl_nat b y hb (by omega), e]
      exact ev_p (by omega) (ev_p (by omega) (Ev.now _))
    · have ew : wsee t b n = (0, n, 1) := by unfold wsee; rw [if_neg c0, if_neg b0, if_pos n2, if_neg n3]
      rw [ew]
      exact ev_n n3 (Ev.now _)
  · refine ev_n n2 ?_
    have n3 : t - n < 64 := by
      by_cases n3 : t - n ≥ 64
      · exact absurd (by unfold wck; rw [if_neg (by unfold M; omega), if_neg (fun hh => hh.elim b0 n2), if_pos n3]; decide) c0
      · omega
    have ew : wsee t b n = ((0 : Int), t, (b ||| ((1 <<< (t - n).toNat) % 2 ^ 64) : Nat)) := by unfold wsee; rw [if_neg c0, if_neg b0, if_neg n2]
    obtain ⟨y, hy⟩ : ∃ y : Nat, t - n = y := ⟨(t - n).toNat, by omega⟩
    rw [hy, Int.toNat_natCast] at ew
    have e1 := shl_nat 1 y (by decide) (by omega)
    rw [show ((1 : Nat) : Int) = 1 from rfl] at e1
    rw [ew, wrap_in _ (by omega) (by omega), hy, e1, or_nat b _ hb (Nat.mod_lt _ (by decide))]
    exact ev_p (by omega) (Ev.now _)
theorem see_win (t n : Int) (b : Nat) (h : Win t b) : Win (wsee t b n).2.1 (wsee t b n).2.2 := by
  have hb := h.bits
  unfold wsee
  by_cases c0 : wck t b n ≠ 0
  · rw [if_pos c0]; exact h
  rw [if_neg c0]
  have hn : 0 ≤ n ∧ n ≤ M := by
    by_cases hc : n < 0 ∨ n > M
    · exact absurd (by unfold wck; rw [if_pos hc]; decide) c0
    · omega
  by_cases b0 : b = 0
  · rw [if_pos b0]; exact ⟨hn.1, hn.2, by dsimp only; decide⟩
  rw [if_neg b0]
  by_cases n2 : n > t
  · rw [if_pos n2]
    refine ⟨hn.1, hn.2, ?_⟩
    dsimp only
    split
    · exact Nat.or_lt_two_pow (by decide) (Nat.mod_lt _ (by decide))
    · decide
  · rw [if_neg n2]
    exact ⟨h.low, h.high, Nat.or_lt_two_pow hb (Nat.mod_lt _ (by decide))⟩
/-- A number that is not fresh. -/
def Has (t : Int) (b : Nat) (n : Int) : Prop := b ≠ 0 ∧ 0 ≤ n ∧ n ≤ t ∧ (t - n ≥ 64 ∨ b.testBit (t - n).toNat = true)
theorem has_check (t n : Int) (b : Nat) (h : Win t b) (hh : Has t b n) : wck t b n = 11 := by
  obtain ⟨h1, h2, h3, h4⟩ := hh
  have := h.high
  unfold wck
  rw [if_neg (by omega), if_neg (by omega)]
  by_cases h5 : t - n ≥ 64
  · rw [if_pos h5]
  · rw [if_neg h5, if_pos (h4.resolve_left h5)]
theorem has_see (t n : Int) (b : Nat) (h : Win t b) (hh : Has t b n) : (wsee t b n).1 = 11 := by
  have := has_check t n b h hh
  unfold wsee
  rw [if_pos (by omega)]
  exact this
theorem see_same (t n : Int) (b : Nat) (h : (wsee t b n).1 ≠ 0) : (wsee t b n).2 = (t, b) := by
  unfold wsee at h ⊢
  by_cases c0 : wck t b n ≠ 0
  · rw [if_pos c0]
  · rw [if_neg c0] at h
    exfalso
    apply h
    repeat' split
    all_goals rfl
theorem bit_or_one (x : Nat) : (1 ||| x).testBit 0 = true := by simp
theorem or_ne (a b : Nat) (i : Nat) (h : (a ||| b).testBit i = true) : a ||| b ≠ 0 := fun e => by rw [e] at h; simp at h
theorem shl_bit (b y i : Nat) (h : y + i < 64) : ((b <<< y) % 2 ^ 64).testBit (y + i) = b.testBit i := by
  rw [Nat.testBit_mod_two_pow, Nat.testBit_shiftLeft]
  simp [h]
theorem see_has (t n : Int) (b : Nat) (h : Win t b) (h0 : (wsee t b n).1 = 0) : Has (wsee t b n).2.1 (wsee t b n).2.2 n := by
  unfold wsee at h0 ⊢
  by_cases c0 : wck t b n ≠ 0
  · rw [if_pos c0] at h0
    exact absurd h0 c0
  rw [if_neg c0]
  have hn : 0 ≤ n ∧ n ≤ M := by
    by_cases hc : n < 0 ∨ n > M
    · exact absurd (by unfold wck; rw [if_pos hc]; decide) c0
    · omega
  by_cases b0 : b = 0
  · rw [if_pos b0]
    exact ⟨Nat.one_ne_zero, hn.1, by dsimp only; omega, Or.inr (by simp)⟩
  rw [if_neg b0]
  by_cases n2 : n > t
  · rw [if_pos n2]
    refine ⟨?_, hn.1, by dsimp only; omega, Or.inr ?_⟩
    · dsimp only
      split
      · exact or_ne _ _ 0 (bit_or_one _)
      · decide
    · dsimp only
      rw [Int.sub_self]
      split
      · exact bit_or_one _
      · decide
  · rw [if_neg n2]
    by_cases n3 : t - n ≥ 64
    · exact absurd (by unfold wck; rw [if_neg (by omega), if_neg (fun hh => hh.elim b0 n2), if_pos n3]; decide) c0
    have hb : (b ||| ((1 <<< (t - n).toNat) % 2 ^ 64)).testBit (t - n).toNat = true := by
      have := shl_bit 1 (t - n).toNat 0 (by omega)
      rw [Nat.add_zero] at this
      rw [Nat.testBit_or, this]
      simp
    exact ⟨or_ne _ _ _ hb, hn.1, by dsimp only; omega, Or.inr hb⟩
theorem has_kept (t n m : Int) (b : Nat) (h : Win t b) (hh : Has t b n) : Has (wsee t b m).2.1 (wsee t b m).2.2 n := by
  obtain ⟨h1, h2, h3, h4⟩ := hh
  unfold wsee
  by_cases c0 : wck t b m ≠ 0
  · rw [if_pos c0]; exact ⟨h1, h2, h3, h4⟩
  rw [if_neg c0, if_neg h1]
  by_cases n2 : m > t
  · rw [if_pos n2]
    refine ⟨?_, h2, by dsimp only; omega, ?_⟩
    · dsimp only
      split
      · exact or_ne _ _ 0 (bit_or_one _)
      · decide
    · dsimp only
      by_cases n3 : m - n ≥ 64
      · exact Or.inl n3
      · right
        rw [if_pos (by omega), Nat.testBit_or]
        have e : (m - n).toNat = (m - t).toNat + (t - n).toNat := by omega
        rw [e, shl_bit b (m - t).toNat (t - n).toNat (by omega), h4.resolve_left (by omega)]
        simp
  · rw [if_neg n2]
    refine ⟨?_, h2, h3, ?_⟩
    · dsimp only
      intro e
      apply h1
      have := congrArg (fun z => z ||| b) e
      apply Nat.eq_of_testBit_eq
      intro i
      have hi := congrArg (fun z => Nat.testBit z i) e
      simp only [Nat.testBit_or, Nat.zero_testBit, Bool.or_eq_false_iff] at hi
      rw [hi.1, Nat.zero_testBit]
    · dsimp only
      refine h4.imp id (fun hb => ?_)
      rw [Nat.testBit_or, hb]
      rfl
theorem new_win : Win 0 0 := ⟨by decide, by decide, by decide⟩
theorem one_bit (j : Nat) : (1 : Nat).testBit j = decide (0 = j) := by
  have := Nat.testBit_two_pow (n := 0) (m := j)
  simpa using this
/-! ### Bits, and the numbers that were seen -/
theorem tops_left (xs ys : List Int) : ∀ i : Nat, i ≤ xs.length → tops (xs ++ ys) i = tops xs i
  | 0, _ => rfl
  | i + 1, h => by
    simp only [tops]
    rw [tops_left xs ys i (by omega)]
    have e : (xs ++ ys).getD i 0 = xs.getD i 0 := by
      rw [List.getD_eq_getElem?_getD, List.getD_eq_getElem?_getD, List.getElem?_append_left (by omega)]
    rw [e]
theorem tops_app (xs : List Int) (n : Int) : tops (xs ++ [n]) (xs ++ [n]).length = if tops xs xs.length < n then n else tops xs xs.length := by
  rw [List.length_append, List.length_singleton]
  simp only [tops]
  rw [tops_left xs [n] xs.length (Nat.le_refl _)]
  have e : (xs ++ [n]).getD xs.length 0 = n := by
    rw [List.getD_eq_getElem?_getD, List.getElem?_append_right (Nat.le_refl _)]
    simp
  rw [e]
structure Rel (t : Int) (b : Nat) (xs : List Int) : Prop where
  win : Win t b
  top : tops xs xs.length = t
  le : ∀ x, x ∈ xs → 0 ≤ x ∧ x ≤ t
  emp : b = 0 ↔ xs = []
  bit : ∀ m : Int, 0 ≤ m → m ≤ t → t - m < 64 → (b.testBit (t - m).toNat = true ↔ m ∈ xs)
theorem rel_new : Rel 0 0 [] := ⟨new_win, rfl, by simp, by simp, by simp⟩
theorem rel_len {t : Int} {b : Nat} {xs : List Int} (h : Rel t b xs) : ((xs.length : Int) > 0) ↔ b ≠ 0 := by
  have he := h.emp
  cases xs with
  | nil => simp [he.2 rfl]
  | cons a l =>
    constructor
    · intro _ hb
      exact absurd (he.1 hb) (by simp)
    · intro _
      simp only [List.length_cons]
      omega
theorem rel_check {t : Int} {b : Nat} {xs : List Int} (h : Rel t b xs) (n : Int) : rck xs n = wck t b n := by
  have hl := rel_len h
  have ht := h.win.low
  have ht1 := h.win.high
  unfold rck wck M
  by_cases h1 : n < 0 ∨ n > 4611686018427387903
  · rw [if_pos h1, if_pos h1]
  rw [if_neg h1, if_neg h1, h.top]
  have hw : wrap64 (t - 64) = t - 64 := wrap_in _ (by omega) (by unfold M at ht1; omega)
  rw [hw]
  by_cases h2 : b = 0 ∨ n > t
  · rw [if_pos h2, if_neg (by rintro ⟨ha, hb⟩; have := hl.1 ha; omega), if_neg]
    intro hm
    have hle := h.le n hm
    rcases h2 with h2 | h2
    · have := h.emp.1 h2
      rw [this] at hm
      simp at hm
    · omega
  rw [if_neg h2]
  have hb : b ≠ 0 := fun e => h2 (.inl e)
  have hnt : n ≤ t := by omega
  by_cases h3 : t - n ≥ 64
  · rw [if_pos h3, if_pos ⟨hl.2 hb, by omega⟩]
  rw [if_neg h3, if_neg (by rintro ⟨_, h4⟩; omega)]
  have hbit := h.bit n (by omega) hnt (by omega)
  by_cases h5 : b.testBit (t - n).toNat = true
  · rw [if_pos h5, if_pos (hbit.1 h5)]
  · rw [if_neg h5, if_neg (fun hm => h5 (hbit.2 hm))]
theorem rel_see {t : Int} {b : Nat} {xs : List Int} (h : Rel t b xs) (n : Int) : Rel (wsee t b n).2.1 (wsee t b n).2.2 (if wck t b n = 0 then xs ++ [n] else xs) ∧ (wsee t b n).1 = wck t b n := by
  have hw := see_win t n b h.win
  have hck := rel_check h n
  have ht := h.win.low
  by_cases h0 : wck t b n = 0
  rotate_left
  · have e : wsee t b n = (wck t b n, t, b) := by unfold wsee; rw [if_pos h0]
    rw [if_neg h0, e]
    exact ⟨h, rfl⟩
  rw [if_pos h0]
  have hrange : 0 ≤ n ∧ n ≤ M := by
    unfold wck at h0
    by_cases h1 : n < 0 ∨ n > M
    · rw [if_pos h1] at h0; exact absurd h0 (by decide)
    · omega
  have hnew : n ∉ xs := by
    intro hm
    unfold rck at hck
    rw [h0, if_neg (by unfold M at hrange; omega)] at hck
    by_cases h5 : ((xs.length : Int) > 0 ∧ n ≤ wrap64 (tops xs xs.length - 64))
    · rw [if_pos h5] at hck; exact absurd hck (by decide)
    · rw [if_neg h5, if_pos hm] at hck; exact absurd hck (by decide)
  have hne : (xs ++ [n] = []) = False := by simp
  unfold wsee at hw ⊢
  rw [if_neg (fun hh => hh h0)] at hw ⊢
  by_cases hb : b = 0
  · rw [if_pos hb] at hw ⊢
    have hx := h.emp.1 hb
    subst hx
    have htop := h.top
    refine ⟨⟨hw, ?_, ?_, by simp, ?_⟩, h0.symm⟩
    · rw [tops_app]
      show (if (0 : Int) < n then n else 0) = n
      split <;> omega
    · intro x hx
      have : x = n := by simpa using hx
      subst this
      exact ⟨hrange.1, Int.le_refl _⟩
    · intro m h1 h2 h3
      have e : (1 : Nat).testBit (n - m).toNat = decide ((n - m).toNat = 0) := by
        rw [one_bit]
        simp [eq_comm]
      show (1 : Nat).testBit (n - m).toNat = true ↔ _
      rw [e]
      simp only [List.nil_append, List.mem_singleton, decide_eq_true_iff]
      change (n - m).toNat = 0 ↔ m = n
      have h2' : m ≤ n := h2
      omega
  rw [if_neg hb] at hw ⊢
  have hxs : xs ≠ [] := fun e => hb (h.emp.2 e)
  by_cases hgt : n > t
  · rw [if_pos hgt] at hw ⊢
    refine ⟨⟨hw, ?_, ?_, ?_, ?_⟩, h0.symm⟩
    · rw [tops_app, h.top, if_pos (by omega)]
    · intro x hx
      rw [List.mem_append, List.mem_singleton] at hx
      change 0 ≤ x ∧ x ≤ n
      rcases hx with hx | hx
      · have := h.le x hx; omega
      · omega
    · change (if n - t < 64 then 1 ||| ((b <<< (n - t).toNat) % 2 ^ 64) else 1) = 0 ↔ _
      rw [hne]
      simp only [iff_false]
      intro e
      have e2 : (if n - t < 64 then 1 ||| ((b <<< (n - t).toNat) % 2 ^ 64) else 1).testBit 0 = true := by
        split
        · exact bit_or_one _
        · decide
      rw [e] at e2
      simp at e2
    · intro m h1 h2 h3
      change m ≤ n at h2
      change n - m < 64 at h3
      change (if n - t < 64 then 1 ||| ((b <<< (n - t).toNat) % 2 ^ 64) else 1).testBit (n - m).toNat = true ↔ _
      rw [List.mem_append, List.mem_singleton]
      by_cases hmn : m = n
      · subst hmn
        simp only [or_true, iff_true]
        rw [show (m - m).toNat = 0 by omega]
        split
        · exact bit_or_one _
        · decide
      · have h1b : (1 : Nat).testBit (n - m).toNat = false := by
          rw [one_bit]
          exact decide_eq_false (by omega)
        by_cases hnt : n - t < 64
        · rw [if_pos hnt, Nat.testBit_or, h1b, Bool.false_or]
          by_cases hmt : m ≤ t
          · have e : (n - m).toNat = (n - t).toNat + (t - m).toNat := by omega
            rw [e, shl_bit b _ _ (by omega), h.bit m h1 hmt (by omega)]
            simp [hmn]
          · have hm : m ∉ xs := fun hm => hmt (h.le m hm).2
            have hz : ((b <<< (n - t).toNat) % 2 ^ 64).testBit (n - m).toNat = false := by
              rw [Nat.testBit_mod_two_pow, Nat.testBit_shiftLeft]
              have : ¬ (n - t).toNat ≤ (n - m).toNat := by omega
              simp [this]
            rw [hz]
            simp [hm, hmn]
        · rw [if_neg hnt, h1b]
          have hm : m ∉ xs := fun hm => by
            have := (h.le m hm).2
            omega
          simp [hm, hmn]
  · rw [if_neg hgt] at hw ⊢
    have hck2 := h0
    have ht64 : t - n < 64 := by
      unfold wck at hck2
      rw [if_neg (by omega), if_neg (by omega)] at hck2
      by_cases h6 : t - n ≥ 64
      · rw [if_pos h6] at hck2; exact absurd hck2 (by decide)
      · omega
    have hsh : (1 <<< (t - n).toNat) % 2 ^ 64 = 1 <<< (t - n).toNat := by
      apply Nat.mod_eq_of_lt
      rw [Nat.one_shiftLeft]
      exact Nat.pow_lt_pow_right (by decide) (by omega)
    refine ⟨⟨hw, ?_, ?_, ?_, ?_⟩, h0.symm⟩
    · rw [tops_app, h.top, if_neg (by omega)]
    · intro x hx
      rw [List.mem_append, List.mem_singleton] at hx
      change 0 ≤ x ∧ x ≤ t
      rcases hx with hx | hx
      · exact h.le x hx
      · omega
    · change b ||| ((1 <<< (t - n).toNat) % 2 ^ 64) = 0 ↔ _
      rw [hne]
      simp only [iff_false]
      intro e
      exact hb (Nat.or_eq_zero_iff.1 e).1
    · intro m h1 h2 h3
      change m ≤ t at h2
      change t - m < 64 at h3
      change (b ||| ((1 <<< (t - n).toNat) % 2 ^ 64)).testBit (t - m).toNat = true ↔ _
      rw [List.mem_append, List.mem_singleton, hsh, Nat.testBit_or, Nat.one_shiftLeft, Nat.testBit_two_pow, Bool.or_eq_true, h.bit m h1 h2 h3, decide_eq_true_iff]
      constructor
      · rintro (ha | ha)
        · exact .inl ha
        · exact .inr (by omega)
      · rintro (ha | ha)
        · exact .inl ha
        · exact .inr (by omega)

end Go.Proofs.Ytligpakpgifkdaa.Pure
