/- The pure law ReplayBack -/
import Derived.Test.YtligpakpgifkdaaGoodReplayBack
import Derived.Test.YtligpakpgifkdaaPReplayBackx1
namespace Go.Proofs.Ytligpakpgifkdaa.Pure
open Go.RowKit Go.Proofs.Ytligpakpgifkdaa.PReplayBack Go.Proofs.YtligpakpgifkdaaW.PrintWords Go.Proofs.YtligpakpgifkdaaW.PrintLast Go.Proofs.Ytligpakpgifkdaa.Opening
set_option linter.unusedVariables false
set_option linter.unusedSimpArgs false
theorem wrap_in (x : Int) (h0 : -9223372036854775808 ≤ x) (h1 : x ≤ 9223372036854775807) : wrap64 x = x := by
  unfold wrap64
  omega
theorem mx_eq (a b : Int) : mx a b = if a < b then b else a := rfl
theorem mn_eq (a b : Int) : mn a b = if b < a then b else a := rfl
theorem u64_eq (n : Int) : IntKind.u64.wrap n = n % 18446744073709551616 := by simp [IntKind.wrap, IntKind.bits, IntKind.signed]
theorem u64_range (n : Int) : 0 ≤ IntKind.u64.wrap n ∧ IntKind.u64.wrap n < 18446744073709551616 := by
  rw [u64_eq]
  omega
theorem u32_eq (n : Int) : IntKind.u32.wrap n = n % 4294967296 := by simp [IntKind.wrap, IntKind.bits, IntKind.signed]
theorem ev_p {α : Type} {c : Prop} [Decidable c] {f g : Nat → Option α} {v : α} (h : c) (e : Ev f v) : Ev (fun k => if c then f k else g k) v := Ev.congr (fun k => if_pos h) e
theorem ev_n {α : Type} {c : Prop} [Decidable c] {f g : Nat → Option α} {v : α} (h : ¬ c) (e : Ev g v) : Ev (fun k => if c then f k else g k) v := Ev.congr (fun k => if_neg h) e
/-! ### The window: a greatest number and the bits behind it -/
theorem or_nat (a b : Nat) (ha : a < 2 ^ 64) (hb : b < 2 ^ 64) : Go.bits .or .u64 (a : Int) (b : Int) = ((a ||| b : Nat) : Int) := by
  have hx : a ||| b < 2 ^ 64 := Nat.or_lt_two_pow ha hb
  have h1 : (BitVec.ofInt 64 (a : Int)).toNat = a := by
    rw [BitVec.ofInt_natCast, BitVec.toNat_ofNat]; exact Nat.mod_eq_of_lt ha
  have h2 : (BitVec.ofInt 64 (b : Int)).toNat = b := by
    rw [BitVec.ofInt_natCast, BitVec.toNat_ofNat]; exact Nat.mod_eq_of_lt hb
  show IntKind.u64.wrap ((BitVec.ofInt 64 (a : Int) ||| BitVec.ofInt 64 (b : Int)).toNat : Int) = _
  rw [BitVec.toNat_or, h1, h2, u64_eq]
  omega
theorem and1_nat (a : Nat) (ha : a < 2 ^ 64) : Go.bits .and .u64 (a : Int) 1 = ((a % 2 : Nat) : Int) := by
  have h1 : (BitVec.ofInt 64 (a : Int)).toNat = a := by
    rw [BitVec.ofInt_natCast, BitVec.toNat_ofNat]; exact Nat.mod_eq_of_lt ha
  have h2 : (BitVec.ofInt 64 (1 : Int)).toNat = 1 := by decide
  show IntKind.u64.wrap ((BitVec.ofInt 64 (a : Int) &&& BitVec.ofInt 64 (1 : Int)).toNat : Int) = _
  rw [BitVec.toNat_and, h1, h2, Nat.and_one_is_mod, u64_eq]
  omega
theorem shl_nat (a y : Nat) (ha : a < 2 ^ 64) (hy : y < 64) : shl .u64 (a : Int) (y : Int) = (((a <<< y) % 2 ^ 64 : Nat) : Int) := by
  unfold shl
  rw [show min (y : Int).toNat IntKind.u64.bits = y by simp [IntKind.bits]; omega, u64_eq, Nat.shiftLeft_eq]
  simp
theorem shr_nat (a y : Nat) (hy : y < 64) : shr .u64 (a : Int) (y : Int) = ((a >>> y : Nat) : Int) := by
  unfold shr
  rw [show min (y : Int).toNat IntKind.u64.bits = y by simp [IntKind.bits]; omega, Nat.shiftRight_eq_div_pow]
  simp
def M : Int := 4611686018427387903
/-- What Check answers. -/
def wck (t : Int) (b : Nat) (n : Int) : Int := if n < 0 ∨ n > M then 2 else if b = 0 ∨ n > t then 0 else if t - n ≥ 64 then 11 else if b.testBit (t - n).toNat then 11 else 0
/-- What See leaves. -/
def wsee (t : Int) (b : Nat) (n : Int) : Int × Int × Nat := if wck t b n ≠ 0 then (wck t b n, t, b) else if b = 0 then (0, n, 1) else if n > t then (0, n, if n - t < 64 then 1 ||| ((b <<< (n - t).toNat) % 2 ^ 64) else 1) else (0, t, b ||| ((1 <<< (t - n).toNat) % 2 ^ 64))
/-- A window that can be. -/
structure Win (t : Int) (b : Nat) : Prop where
  low : 0 ≤ t
  high : t ≤ M
  bits : b < 2 ^ 64
theorem check_ev (t n : Int) (b : Nat) (h : Win t b) (h0 : -9223372036854775808 ≤ n) (h1 : n ≤ 9223372036854775807) : Ev (fun k => replay_Window_Check.f k t (b : Int) n) (wck t b n, t, (b : Int)) := by
  have hl := h.low
  have hh := h.high
  have hb := h.bits
  unfold M at hh
  unfold wck M replay_Window_Check.f
  have bad : Ev (fun k => replay_Window_Check.j0 k n true t (b : Int)) (2, t, (b : Int)) := Ev.step (f := fun _ => some (2, t, (b : Int))) (fun k => by simp [replay_Window_Check.j0]) (Ev.now _)
  by_cases n0 : n < 0
  · rw [if_pos (Or.inl n0)]
    exact ev_p n0 bad
  refine ev_n n0 ?_
  by_cases n1 : n > 4611686018427387903
  · rw [if_pos (Or.inr n1), decide_eq_true n1]
    exact bad
  rw [if_neg (by omega), decide_eq_false n1]
  have fresh : Ev (fun k => replay_Window_Check.j1 k n true t (b : Int)) (0, t, (b : Int)) := Ev.step (f := fun _ => some (0, t, (b : Int))) (fun k => by simp [replay_Window_Check.j1]) (Ev.now _)
  by_cases b0 : b = 0
  · rw [if_pos (Or.inl b0)]
    subst b0
    refine Ev.step (fun k => ?_) fresh
    simp [replay_Window_Check.j0]
  have b0' : ¬ (b : Int) = 0 := by omega
  by_cases n2 : n > t
  · rw [if_pos (Or.inr n2)]
    refine Ev.step (fun k => ?_) fresh
    simp only [replay_Window_Check.j0]
    rw [if_neg (by decide), if_neg b0', decide_eq_true n2]
  rw [if_neg (fun hh => hh.elim b0 n2)]
  refine Ev.step (f := fun k => replay_Window_Check.j1 k n false t (b : Int)) (fun k => ?_) ?_
  · simp only [replay_Window_Check.j0]
    rw [if_neg (by decide), if_neg b0', decide_eq_false n2]
  by_cases n3 : t - n ≥ 64
  · rw [if_pos n3]
    refine Ev.step (f := fun _ => some (11, t, (b : Int))) (fun k => ?_) (Ev.now _)
    simp only [replay_Window_Check.j1]
    rw [if_neg (by decide), wrap_in _ (by omega) (by omega), if_pos n3]
  · rw [if_neg n3]
    obtain ⟨y, hy⟩ : ∃ y : Nat, t - n = y := ⟨(t - n).toNat, by omega⟩
    have e1 : Go.bits .and .u64 (shr .u64 (b : Int) (y : Int)) 1 = (((b >>> y) % 2 : Nat) : Int) := by
      rw [shr_nat b y (by omega)]
      exact and1_nat _ (Nat.lt_of_le_of_lt (Nat.shiftRight_le b y) hb)
    have e2 : (b.testBit (t - n).toNat = true) ↔ (b >>> y) % 2 = 1 := by
      rw [hy, Int.toNat_natCast, Nat.testBit_eq_decide_div_mod_eq, Nat.shiftRight_eq_div_pow]
      simp
    refine Ev.step (f := fun _ => some (if b.testBit (t - n).toNat then 11 else 0, t, (b : Int))) (fun k => ?_) (Ev.now _)
    simp only [replay_Window_Check.j1]
    rw [if_neg (by decide), wrap_in _ (by omega) (by omega), if_neg n3, if_pos (by omega), hy, e1]
    rw [hy] at e2
    by_cases c : (b >>> y) % 2 = 1
    · rw [if_pos (by omega), if_pos (e2.2 c)]
    · rw [if_neg (by omega), if_neg (fun h => c (e2.1 h))]
theorem see_ev (t n : Int) (b : Nat) (h : Win t b) (h0 : -9223372036854775808 ≤ n) (h1 : n ≤ 9223372036854775807) : Ev (fun k => replay_Window_See.f k t (b : Int) n) ((wsee t b n).1, (wsee t b n).2.1, ((wsee t b n).2.2 : Int)) := by
  have hl := h.low
  have hh := h.high
  have hb := h.bits
  unfold M at hh
  refine Ev.bind (check_ev t n b h h0 h1) (ev_p ⟨rfl, rfl⟩ ?_)
  by_cases c0 : wck t b n ≠ 0
  · have e : wsee t b n = (wck t b n, t, b) := by unfold wsee; rw [if_pos c0]
    rw [e]
    exact ev_p c0 (Ev.now _)
  refine ev_n c0 ?_
  have hn : 0 ≤ n ∧ n ≤ 4611686018427387903 := by
    by_cases hc : n < 0 ∨ n > M
    · exact absurd (by unfold wck; rw [if_pos hc]; decide) c0
    · unfold M at hc; omega
  by_cases b0 : b = 0
  · have e : wsee t b n = (0, n, 1) := by unfold wsee; rw [if_neg c0, if_pos b0]
    rw [e]
    exact ev_p (by omega) (Ev.now _)
  refine ev_n (by omega) ?_
  by_cases n2 : n > t
  · refine ev_p n2 ?_
    rw [wrap_in _ (by omega) (by omega)]
    by_cases n3 : n - t < 64
    · have ew : wsee t b n = (0, n, 1 ||| ((b <<< (n - t).toNat) % 2 ^ 64)) := by unfold wsee; rw [if_neg c0, if_neg b0, if_pos n2, if_pos n3]
      obtain ⟨y, hy⟩ : ∃ y : Nat, n - t = y := ⟨(n - t).toNat, by omega⟩
      rw [hy, Int.toNat_natCast] at ew
      have e := or_nat 1 ((b <<< y) % 2 ^ 64) (by decide) (Nat.mod_lt _ (by decide))
      rw [show ((1 : Nat) : Int) = 1 from rfl] at e
      rw [ew, hy, shl_nat b y hb (by omega), e]
      exact ev_p (by omega) (ev_p (by omega) (Ev.now _))
    · have ew : wsee t b n = (0, n, 1) := by unfold wsee; rw [if_neg c0, if_neg b0, if_pos n2, if_neg n3]
      rw [ew]
      exact ev_n n3 (Ev.now _)
  · refine ev_n n2 ?_
    have n3 : t - n < 64 := by
      by_cases n3 : t - n ≥ 64
      · exact absurd (by unfold wck; rw [if_neg (by unfold M; omega), if_neg (fun hh => hh.elim b0 n2), if_pos n3]; decide) c0
      · omega
    have ew : wsee t b n = ((0 : Int), t, (b ||| ((1 <<< (t - n).toNat) % 2 ^ 64) : Nat)) := by unfold wsee; rw [if_neg c0, if_neg b0, if_neg n2]
    obtain ⟨y, hy⟩ : ∃ y : Nat, t - n = y := ⟨(t - n).toNat, by omega⟩
    rw [hy, Int.toNat_natCast] at ew
    have e1 := shl_nat 1 y (by decide) (by omega)
    rw [show ((1 : Nat) : Int) = 1 from rfl] at e1
    rw [ew, wrap_in _ (by omega) (by omega), hy, e1, or_nat b _ hb (Nat.mod_lt _ (by decide))]
    exact ev_p (by omega) (Ev.now _)
theorem see_win (t n : Int) (b : Nat) (h : Win t b) : Win (wsee t b n).2.1 (wsee t b n).2.2 := by
  have hb := h.bits
  unfold wsee
  by_cases c0 : wck t b n ≠ 0
  · rw [if_pos c0]; exact h
  rw [if_neg c0]
  have hn : 0 ≤ n ∧ n ≤ M := by
    by_cases hc : n < 0 ∨ n > M
    · exact absurd (by unfold wck; rw [if_pos hc]; decide) c0
    · omega
  by_cases b0 : b = 0
  · rw [if_pos b0]; exact ⟨hn.1, hn.2, by dsimp only; decide⟩
  rw [if_neg b0]
  by_cases n2 : n > t
  · rw [if_pos n2]
    refine ⟨hn.1, hn.2, ?_⟩
    dsimp only
    split
    · exact Nat.or_lt_two_pow (by decide) (Nat.mod_lt _ (by decide))
    · decide
  · rw [if_neg n2]
    exact ⟨h.low, h.high, Nat.or_lt_two_pow hb (Nat.mod_lt _ (by decide))⟩
/-- A number that is not fresh. -/
def Has (t : Int) (b : Nat) (n : Int) : Prop := b ≠ 0 ∧ 0 ≤ n ∧ n ≤ t ∧ (t - n ≥ 64 ∨ b.testBit (t - n).toNat = true)
theorem has_check (t n : Int) (b : Nat) (h : Win t b) (hh : Has t b n) : wck t b n = 11 := by
  obtain ⟨h1, h2, h3, h4⟩ := hh
  have := h.high
  unfold wck
  rw [if_neg (by omega), if_neg (by omega)]
  by_cases h5 : t - n ≥ 64
  · rw [if_pos h5]
  · rw [if_neg h5, if_pos (h4.resolve_left h5)]
theorem has_see (t n : Int) (b : Nat) (h : Win t b) (hh : Has t b n) : (wsee t b n).1 = 11 := by
  have := has_check t n b h hh
  unfold wsee
  rw [if_pos (by omega)]
  exact this
theorem see_same (t n : Int) (b : Nat) (h : (wsee t b n).1 ≠ 0) : (wsee t b n).2 = (t, b) := by
  unfold wsee at h ⊢
  by_cases c0 : wck t b n ≠ 0
  · rw [if_pos c0]
  · rw [if_neg c0] at h
    exfalso
    apply h
    repeat' split
    all_goals rfl
theorem bit_or_one (x : Nat) : (1 ||| x).testBit 0 = true := by simp
theorem or_ne (a b : Nat) (i : Nat) (h : (a ||| b).testBit i = true) : a ||| b ≠ 0 := fun e => by rw [e] at h; simp at h
theorem shl_bit (b y i : Nat) (h : y + i < 64) : ((b <<< y) % 2 ^ 64).testBit (y + i) = b.testBit i := by
  rw [Nat.testBit_mod_two_pow, Nat.testBit_shiftLeft]
  simp [h]
theorem see_has (t n : Int) (b : Nat) (h : Win t b) (h0 : (wsee t b n).1 = 0) : Has (wsee t b n).2.1 (wsee t b n).2.2 n := by
  unfold wsee at h0 ⊢
  by_cases c0 : wck t b n ≠ 0
  · rw [if_pos c0] at h0
    exact absurd h0 c0
  rw [if_neg c0]
  have hn : 0 ≤ n ∧ n ≤ M := by
    by_cases hc : n < 0 ∨ n > M
    · exact absurd (by unfold wck; rw [if_pos hc]; decide) c0
    · omega
  by_cases b0 : b = 0
  · rw [if_pos b0]
    exact ⟨Nat.one_ne_zero, hn.1, by dsimp only; omega, Or.inr (by simp)⟩
  rw [if_neg b0]
  by_cases n2 : n > t
  · rw [if_pos n2]
    refine ⟨?_, hn.1, by dsimp only; omega, Or.inr ?_⟩
    · dsimp only
      split
      · exact or_ne _ _ 0 (bit_or_one _)
      · decide
    · dsimp only
      rw [Int.sub_self]
      split
      · exact bit_or_one _
      · decide
  · rw [if_neg n2]
    by_cases n3 : t - n ≥ 64
    · exact absurd (by unfold wck; rw [if_neg (by omega), if_neg (fun hh => hh.elim b0 n2), if_pos n3]; decide) c0
    have hb : (b ||| ((1 <<< (t - n).toNat) % 2 ^ 64)).testBit (t - n).toNat = true := by
      have := shl_bit 1 (t - n).toNat 0 (by omega)
      rw [Nat.add_zero] at this
      rw [Nat.testBit_or, this]
      simp
    exact ⟨or_ne _ _ _ hb, hn.1, by dsimp only; omega, Or.inr hb⟩
theorem has_kept (t n m : Int) (b : Nat) (h : Win t b) (hh : Has t b n) : Has (wsee t b m).2.1 (wsee t b m).2.2 n := by
  obtain ⟨h1, h2, h3, h4⟩ := hh
  unfold wsee
  by_cases c0 : wck t b m ≠ 0
  · rw [if_pos c0]; exact ⟨h1, h2, h3, h4⟩
  rw [if_neg c0, if_neg h1]
  by_cases n2 : m > t
  · rw [if_pos n2]
    refine ⟨?_, h2, by dsimp only; omega, ?_⟩
    · dsimp only
      split
      · exact or_ne _ _ 0 (bit_or_one _)
      · decide
    · dsimp only
      by_cases n3 : m - n ≥ 64
      · exact Or.inl n3
      · right
        rw [if_pos (by omega), Nat.testBit_or]
        have e : (m - n).toNat = (m - t).toNat + (t - n).toNat := by omega
        rw [e, shl_bit b (m - t).toNat (t - n).toNat (by omega), h4.resolve_left (by omega)]
        simp
  · rw [if_neg n2]
    refine ⟨?_, h2, h3, ?_⟩
    · dsimp only
      intro e
      apply h1
      have := congrArg (fun z => z ||| b) e
      apply Nat.eq_of_testBit_eq
      intro i
      have hi := congrArg (fun z => Nat.testBit z i) e
      simp only [Nat.testBit_or, Nat.zero_testBit, Bool.or_eq_false_iff] at hi
      rw [hi.1, Nat.zero_testBit]
    · dsimp only
      refine h4.imp id (fun hb => ?_)
      rw [Nat.testBit_or, hb]
      rfl
theorem new_win : Win 0 0 := ⟨by decide, by decide, by decide⟩
theorem works_ev : Ev (fun k => vizardlaw07_works.f k) true := Ev.of (fun k => vizardlaw07_works.mono k) (k := 40) (by decide +kernel)
/-! ### The window's bits, and the map of what was seen -/
structure BRel (T : Int) (b : Nat) (f : Int → Bool) : Prop where
  win : Win T b
  ne : b ≠ 0
  bit : ∀ m : Int, m ≤ T → T - m < 64 → f m = b.testBit (T - m).toNat
theorem one_bit (j : Nat) : (1 : Nat).testBit j = decide (0 = j) := by
  have := Nat.testBit_two_pow (n := 0) (m := j)
  simpa using this
theorem back_new (T : Int) (h0 : 0 ≤ T) (h1 : T ≤ M) : wsee 0 0 T = (0, T, 1) ∧ BRel T 1 (fun j => if j = T then true else false) := by
  have hc : wck 0 0 T = 0 := by
    unfold wck
    rw [if_neg (by omega), if_pos (.inl rfl)]
  have hs : wsee 0 0 T = (0, T, 1) := by
    unfold wsee
    rw [if_neg (fun h => h hc), if_pos rfl]
  have hw := see_win 0 T 0 new_win
  rw [hs] at hw
  refine ⟨hs, hw, by decide, fun m hm h64 => ?_⟩
  rw [one_bit]
  by_cases hmt : m = T
  · subst hmt
    rw [if_pos rfl]
    exact (decide_eq_true (by omega)).symm
  · rw [if_neg hmt]
    exact (decide_eq_false (by omega)).symm
theorem back_step {T : Int} {b : Nat} {f : Int → Bool} (h : BRel T b f) (n : Int) (h0 : 0 ≤ n) (h1 : n ≤ T) :
    (T - n ≥ 64 ∧ wsee T b n = (11, T, b) ∧ BRel T b (fun j => if j = n then f n else f j)) ∨
    (T - n < 64 ∧ f n = true ∧ wsee T b n = (11, T, b) ∧ BRel T b (fun j => if j = n then true else f j)) ∨
    (T - n < 64 ∧ f n = false ∧ ∃ b', wsee T b n = (0, T, b') ∧ BRel T b' (fun j => if j = n then true else f j)) := by
  have hT := h.win.high
  have hb := h.ne
  have same : (fun j => if j = n then f n else f j) = f := by
    funext j
    by_cases hj : j = n
    · subst hj; rw [if_pos rfl]
    · rw [if_neg hj]
  by_cases h64 : T - n ≥ 64
  · have hc : wck T b n = 11 := by
      unfold wck
      rw [if_neg (by omega), if_neg (by omega), if_pos h64]
    refine .inl ⟨h64, ?_, by rw [same]; exact h⟩
    unfold wsee
    rw [if_pos (by rw [hc]; decide), hc]
  have hf := h.bit n h1 (by omega)
  by_cases ht : b.testBit (T - n).toNat = true
  · have hc : wck T b n = 11 := by
      unfold wck
      rw [if_neg (by omega), if_neg (by omega), if_neg h64, if_pos ht]
    have hfn : f n = true := hf.trans ht
    refine .inr (.inl ⟨by omega, hfn, ?_, ?_⟩)
    · unfold wsee
      rw [if_pos (by rw [hc]; decide), hc]
    · have : (fun j => if j = n then true else f j) = f := by rw [← same, hfn]; funext j; by_cases hj : j = n <;> simp [hj, hfn]
      rw [this]
      exact h
  · have hfalse : b.testBit (T - n).toNat = false := by simpa using ht
    have hc : wck T b n = 0 := by
      unfold wck
      rw [if_neg (by omega), if_neg (by omega), if_neg h64, if_neg ht]
    have hw := see_win T n b h.win
    have hs : wsee T b n = ((0 : Int), T, (b ||| (((1 : Nat) <<< (T - n).toNat) % 2 ^ 64) : Nat)) := by
      unfold wsee
      rw [if_neg (fun hh => hh hc), if_neg hb, if_neg (by omega)]
    rw [hs] at hw
    refine .inr (.inr ⟨by omega, hf.trans hfalse, _, hs, hw, fun e => hb (Nat.or_eq_zero_iff.1 e).1, fun m hm hm64 => ?_⟩)
    have hsh : (1 <<< (T - n).toNat) % 2 ^ 64 = 1 <<< (T - n).toNat := by
      apply Nat.mod_eq_of_lt
      rw [Nat.one_shiftLeft]
      exact Nat.pow_lt_pow_right (by decide) (by omega)
    rw [hsh, Nat.testBit_or, Nat.one_shiftLeft, Nat.testBit_two_pow]
    by_cases hmn : m = n
    · subst hmn
      rw [if_pos rfl]
      simp
    · rw [if_neg hmn, h.bit m hm hm64, decide_eq_false (by omega), Bool.or_false]
theorem i64_of {x : Int} (h : -9223372036854775808 ≤ x ∧ x ≤ 9223372036854775807) : (Lit.int .i64 x).wf = true := by
  have h' : IntKind.i64.min ≤ x ∧ x ≤ IntKind.i64.max := h
  simpa [Lit.wf] using h'

end Go.Proofs.Ytligpakpgifkdaa.Pure
