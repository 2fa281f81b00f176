/- The pure law SlotsWait -/
import Derived.Test.YtkadeigcblmcaaaGoodSlotsWait
namespace Go.Proofs.Ytkadeigcblmcaaa.Pure
open Go.RowKit Go.Proofs.Ytkadeigcblmcaaa.PSlotsWait Go.Proofs.YtkadeigcblmcaaaW.PrintWords Go.Proofs.YtkadeigcblmcaaaW.PrintLast Go.Proofs.Ytkadeigcblmcaaa.Opening
set_option linter.unusedVariables false
set_option linter.unusedSimpArgs false
/-! ### Whose tick -/
def own (l : List Int) (t : Int) : Int := if t < 0 ∨ l = [] then -1 else mx (-1) (rd l (t % l.length))
theorem mx_eq (a b : Int) : mx a b = if a < b then b else a := rfl
theorem own_period {l : List Int} {t : Int} (ht : 0 ≤ t) (c : Nat) : own l (t + c * l.length) = own l t := by
  unfold own
  by_cases hl : l = []
  · simp [hl]
  · have h1 : ¬ (t < 0 ∨ l = []) := by simp [hl]; omega
    have h2 : ¬ (t + c * l.length < 0 ∨ l = []) := by
      simp [hl]
      have : 0 ≤ (c : Int) * l.length := Int.mul_nonneg (by omega) (by omega)
      omega
    rw [if_neg h1, if_neg h2, Int.add_mul_emod_self_right]
theorem own_add {l : List Int} {t : Int} (ht : 0 ≤ t) : own l (t + l.length) = own l t := by
  have := own_period (l := l) ht 1
  simpa using this
theorem own_mod {l : List Int} {t i : Int} (hl : l ≠ []) (ht : 0 ≤ t) (hi : 0 ≤ i) : own l (t % l.length + i) = own l (t + i) := by
  have hp : 0 < (l.length : Int) := by have := List.length_pos_iff.2 hl; omega
  have h0 := Int.emod_nonneg t (b := (l.length : Int)) (by omega)
  have h1 := Int.mul_ediv_add_emod t l.length
  have h2 : 0 ≤ t / l.length := Int.ediv_nonneg ht (by omega)
  obtain ⟨c, hc⟩ := Int.eq_ofNat_of_zero_le h2
  have := own_period (l := l) (t := t % l.length + i) (by omega) c
  rw [← this]
  congr 1
  rw [hc, Int.mul_comm] at h1
  omega
theorem wrap_in (x : Int) (h0 : -9223372036854775808 ≤ x) (h1 : x ≤ 9223372036854775807) : wrap64 x = x := by
  unfold wrap64
  omega
theorem owner_some (l : List Int) (t : Int) : slots_Owner.f l t = some (own l t) := by
  unfold slots_Owner.f own
  by_cases h0 : t < 0
  · simp [h0]
  · rw [if_neg h0]
    by_cases hl : l = []
    · simp [hl]
    · have hp : 0 < (l.length : Int) := by have := List.length_pos_iff.2 hl; omega
      have e : Int.tmod t l.length = t % l.length := Int.tmod_eq_emod_of_nonneg (by omega)
      rw [if_neg (by omega), e, if_pos (Int.emod_nonneg _ (by omega)), if_pos (Int.emod_lt_of_pos _ hp), if_neg (by simp [hl]; omega)]
theorem u64_eq (n : Int) : IntKind.u64.wrap n = n % 18446744073709551616 := by simp [IntKind.wrap, IntKind.bits, IntKind.signed]
theorem u64_range (n : Int) : 0 ≤ IntKind.u64.wrap n ∧ IntKind.u64.wrap n < 18446744073709551616 := by
  rw [u64_eq]
  omega
/-- How far from t on the next one is. -/
def Next (l : List Int) (t who j : Int) : Prop := 0 ≤ j ∧ j < l.length ∧ own l (t + j) = who ∧ ∀ i : Int, 0 ≤ i → i < j → own l (t + i) ≠ who
def NoNext (l : List Int) (t who : Int) : Prop := ∀ i : Int, 0 ≤ i → i < l.length → own l (t + i) ≠ who
def NextP (l : List Int) (t who : Int) (p : Int × Bool) : Prop := (p.2 = true ∧ Next l t who p.1) ∨ (p = (0, false) ∧ NoNext l t who)
theorem next_loop (l : List Int) (t who : Int) (ht : 0 ≤ t) (ht2 : t ≤ 4611686018427387904) (hn : l.length ≤ 65536) (d : Nat) : ∀ i : Int, 0 ≤ i → (l.length : Int) - i = d → (∀ j : Int, 0 ≤ j → j < i → own l (t + j) ≠ who) →
    ∃ p, Ev (fun k => slots_next.l0 k l t who l.length i) p ∧ NextP l t who p := by
  induction d with
  | zero =>
    intro i h0 hd hno
    refine ⟨(0, false), Ev.step (f := fun _ => some (0, false)) (fun k => ?_) (Ev.now _), .inr ⟨rfl, fun j hj hj2 => hno j hj (by omega)⟩⟩
    simp only [slots_next.l0]
    rw [if_neg (by omega)]
  | succ d ih =>
    intro i h0 hd hno
    have hl : l ≠ [] := by intro e; rw [e] at hd; simp at hd; omega
    have hp : 0 < (l.length : Int) := by have := List.length_pos_iff.2 hl; omega
    have e1 : Int.tmod t l.length = t % l.length := Int.tmod_eq_emod_of_nonneg ht
    have m0 := Int.emod_nonneg t (b := (l.length : Int)) (by omega)
    have m1 := Int.emod_lt_of_pos t hp
    by_cases ho : own l (t + i) = who
    · refine ⟨(i, true), Ev.step (f := fun _ => some (i, true)) (fun k => ?_) (Ev.now _), .inl ⟨rfl, h0, by simp only; omega, ho, hno⟩⟩
      simp only [slots_next.l0]
      rw [if_pos (by omega), if_neg (by omega), e1, wrap_in _ (by omega) (by omega), owner_some, Option.bind_some, own_mod hl ht h0, if_pos ho]
    · obtain ⟨p, hp1, hp2⟩ := ih (i + 1) (by omega) (by omega) (fun j hj hj2 => by
        by_cases e : j = i
        · rw [e]; exact ho
        · exact hno j hj (by omega))
      refine ⟨p, Ev.step (fun k => ?_) hp1, hp2⟩
      simp only [slots_next.l0]
      rw [if_pos (by omega), if_neg (by omega), e1, wrap_in (t % l.length + i) (by omega) (by omega), owner_some, Option.bind_some, own_mod hl ht h0, if_neg ho, wrap_in (i + 1) (by omega) (by omega)]
theorem next_some (l : List Int) (t who : Int) (ht : 0 ≤ t) (ht2 : t ≤ 4611686018427387904) (hn : l.length ≤ 65536) (hw : 0 ≤ who) : ∃ p, Ev (fun k => slots_next.f k l t who) p ∧ NextP l t who p := by
  obtain ⟨p, h1, h2⟩ := next_loop l t who ht ht2 hn l.length 0 (by omega) (by omega) (fun j hj hj2 => by omega)
  refine ⟨p, Ev.congr (f := fun k => slots_next.j0 k l t who false) (fun k => ?_) (Ev.step (fun k => ?_) h1), h2⟩
  · simp only [slots_next.f]
    rw [if_neg (by omega)]
    congr 1
    simp
    omega
  · simp [slots_next.j0]
theorem next_neg (l : List Int) (t who : Int) (hw : who < 0) : Ev (fun k => slots_next.f k l t who) (0, false) := by
  refine Ev.congr (f := fun k => slots_next.j0 k l t who true) (fun k => ?_) (Ev.step (f := fun _ => some (0, false)) (fun k => ?_) (Ev.now _))
  · simp only [slots_next.f]
    rw [if_pos hw]
  · simp [slots_next.j0]
theorem none_neg (l : List Int) (t who : Int) (hw : who < -1) : NoNext l t who := by
  intro i h0 h1
  unfold own
  split
  · omega
  · rw [mx_eq]; split <;> omega
theorem next_unique {l : List Int} {t who i j : Int} (hi : Next l t who i) (hj : Next l t who j) : i = j := by
  rcases Int.lt_trichotomy i j with h | h | h
  · exact absurd hi.2.2.1 (hj.2.2.2 i hi.1 h)
  · exact h
  · exact absurd hj.2.2.1 (hi.2.2.2 j hj.1 h)
theorem next_nonone {l : List Int} {t who i : Int} (hi : Next l t who i) (hn : NoNext l t who) : False := hn i hi.1 hi.2.1 hi.2.2.1
/-- Whoever has a tick has one from any tick on. -/
theorem some_next {l : List Int} {who : Int} {s t : Int} (hs : 0 ≤ s) (ht : 0 ≤ t) (h : own l s = who) (hl : l ≠ []) : ¬ NoNext l t who := by
  intro hn
  have hp : 0 < (l.length : Int) := by have := List.length_pos_iff.2 hl; omega
  have a0 := Int.emod_nonneg (s - t) (b := (l.length : Int)) (by omega)
  have a1 := Int.emod_lt_of_pos (s - t) hp
  refine hn ((s - t) % l.length) a0 a1 ?_
  rw [← h]
  have e1 := own_mod (l := l) (t := t + (s - t) % l.length) (i := 0) hl (by omega) (by omega)
  have e2 := own_mod (l := l) (t := s) (i := 0) hl hs (by omega)
  simp only [Int.add_zero] at e1 e2
  rw [← e1, ← e2]
  congr 1
  rw [Int.add_emod_emod]
  congr 1
  omega
theorem turn_some (l : List Int) (t who : Int) (ht : 0 ≤ t) (ht2 : t ≤ 4611686018427387903) (hn : l.length ≤ 65536) (hw : 0 ≤ who) : ∃ r, Ev (fun k => slots_Turn.f k l t who) r ∧ ((∃ j, Next l t who j ∧ r = t + j) ∨ (NoNext l t who ∧ r = -1)) := by
  obtain ⟨p, h1, h2⟩ := next_some l t who ht (by omega) hn hw
  have base : ∀ r, Ev (fun k => (slots_next.f k l t who).bind fun bt => (if bt.2 = true then (some (wrap64 (t + bt.1))) else (some (-1)))) r → Ev (fun k => slots_Turn.f k l t who) r := by
    intro r hr
    refine Ev.congr (f := fun k => slots_Turn.j0 k l t who false) (fun k => ?_) (Ev.step (fun k => ?_) hr)
    · simp only [slots_Turn.f]
      rw [if_neg (by omega)]
      congr 1
      simp
      omega
    · simp [slots_Turn.j0]
  rcases h2 with ⟨h2, h3⟩ | ⟨h2, h3⟩
  · refine ⟨t + p.1, base _ (Ev.bind h1 ?_), .inl ⟨p.1, h3, rfl⟩⟩
    have := h3.1
    have := h3.2.1
    simp only [h2, if_true]
    rw [wrap_in _ (by omega) (by omega)]
    exact Ev.now _
  · subst h2
    exact ⟨-1, base _ (Ev.bind h1 (Ev.now _)), .inr ⟨h3, rfl⟩⟩
theorem turn_bad (l : List Int) (t who : Int) (h : t < 0 ∨ 4611686018427387903 < t) : Ev (fun k => slots_Turn.f k l t who) (-1) := by
  refine Ev.congr (f := fun k => slots_Turn.j0 k l t who true) (fun k => ?_) (Ev.step (f := fun _ => some (-1)) (fun k => ?_) (Ev.now _))
  · simp only [slots_Turn.f]
    by_cases h0 : t < 0
    · rw [if_pos h0]
    · rw [if_neg h0]
      congr 1
      simp
      omega
  · simp [slots_Turn.j0]
theorem turn_neg (l : List Int) (t who : Int) (hw : who < 0) : Ev (fun k => slots_Turn.f k l t who) (-1) := by
  by_cases h : t < 0 ∨ 4611686018427387903 < t
  · exact turn_bad l t who h
  refine Ev.congr (f := fun k => slots_Turn.j0 k l t who false) (fun k => ?_) (Ev.step (f := fun k => (slots_next.f k l t who).bind fun bt => (if bt.2 = true then (some (wrap64 (t + bt.1))) else (some (-1)))) (fun k => ?_) (Ev.bind (next_neg l t who hw) (Ev.congr (f := fun _ => some (-1)) (fun _ => rfl) (Ev.now _))))
  · simp only [slots_Turn.f]
    rw [if_neg (by omega)]
    congr 1
    simp
    omega
  · simp [slots_Turn.j0]
/-- A gap: from one of someone's ticks to the next. -/
def Gap (l : List Int) (who t g : Int) : Prop := ∃ j, Next l (t + 1) who j ∧ g = j + 1
theorem round_loop (l : List Int) (who : Int) (hn : l.length ≤ 65536) (hw : 0 ≤ who) (d : Nat) : ∀ (i m : Int), 0 ≤ i → (l.length : Int) - i = d → 0 ≤ m → m ≤ 65536 →
    ∃ R, Ev (fun k => slots_Round.l0 k l who m l.length i) R ∧ m ≤ R ∧ (∀ t g : Int, i ≤ t → t < l.length → own l t = who → Gap l who t g → g ≤ R) ∧ (R = m ∨ ∃ t : Int, i ≤ t ∧ t < l.length ∧ own l t = who ∧ Gap l who t R) := by
  induction d with
  | zero =>
    intro i m h0 hd _ _
    refine ⟨m, Ev.step (f := fun _ => some m) (fun k => ?_) (Ev.now _), by omega, fun t g h1 h2 => by omega, .inl rfl⟩
    simp only [slots_Round.l0]
    rw [if_neg (by omega)]
  | succ d ih =>
    intro i m h0 hd hm0 hm1
    have hl : l ≠ [] := by intro e; rw [e] at hd; simp at hd; omega
    by_cases ho : own l i = who
    · obtain ⟨p, h1, h2⟩ := next_some l (i + 1) who (by omega) (by omega) hn hw
      have h3 : Next l (i + 1) who p.1 := by
        rcases h2 with ⟨_, h⟩ | ⟨_, h⟩
        · exact h
        · exact absurd h (some_next h0 (by omega) ho hl)
      have hp0 := h3.1
      have hp1 := h3.2.1
      have hmx : m ≤ mx m (p.1 + 1) ∧ p.1 + 1 ≤ mx m (p.1 + 1) ∧ (mx m (p.1 + 1) = m ∨ mx m (p.1 + 1) = p.1 + 1) := by
        rw [mx_eq]; split <;> omega
      obtain ⟨R, k1, k2, k3, k4⟩ := ih (i + 1) (mx m (p.1 + 1)) (by omega) (by omega) (by omega) (by omega)
      refine ⟨R, Ev.step (f := fun k => (slots_next.f k l (i + 1) who).bind fun bt => slots_Round.l0 k l who (mx m (wrap64 (bt.1 + 1))) l.length (i + 1)) (fun k => ?_) (Ev.bind h1 ?_), by omega, ?_, ?_⟩
      · simp only [slots_Round.l0]
        rw [if_pos (by omega), owner_some, Option.bind_some, if_pos ho, wrap_in (i + 1) (by omega) (by omega)]
      · simp only [wrap_in (p.1 + 1) (by omega) (by omega)]
        exact k1
      · intro t g h4 h5 h6 h7
        by_cases e : t = i
        · subst e
          obtain ⟨j, hj, rfl⟩ := h7
          rw [next_unique hj h3]
          omega
        · exact k3 t g (by omega) h5 h6 h7
      · rcases k4 with k4 | ⟨t, a, b, c⟩
        · rcases hmx.2.2 with e | e
          · exact .inl (by omega)
          · exact .inr ⟨i, by omega, by omega, ho, p.1, h3, by omega⟩
        · exact .inr ⟨t, by omega, b, c⟩
    · obtain ⟨R, k1, k2, k3, k4⟩ := ih (i + 1) m (by omega) (by omega) hm0 hm1
      refine ⟨R, Ev.step (fun k => ?_) k1, k2, ?_, ?_⟩
      · simp only [slots_Round.l0]
        rw [if_pos (by omega), owner_some, Option.bind_some, if_neg ho, wrap_in (i + 1) (by omega) (by omega)]
      · intro t g h4 h5 h6 h7
        by_cases e : t = i
        · subst e; exact absurd h6 ho
        · exact k3 t g (by omega) h5 h6 h7
      · rcases k4 with k4 | ⟨t, a, b, c⟩
        · exact .inl k4
        · exact .inr ⟨t, by omega, b, c⟩
theorem round_none (l : List Int) (who : Int) (hn : l.length ≤ 65536) (h : who < 0 ∨ NoNext l 0 who) : Ev (fun k => slots_Round.f k l who) 0 := by
  refine Ev.bind (g := fun k => slots_next.f k l 0 who) (f := fun k bt => (if bt.2 = true then (slots_Round.l0 k l who 0 (l.length : Int) 0) else (some 0))) (a := (0, false)) ?_ (Ev.now _)
  by_cases hw : who < 0
  · exact next_neg l 0 who hw
  · obtain ⟨p, h1, h2⟩ := next_some l 0 who (by omega) (by omega) hn (by omega)
    rcases h2 with ⟨_, h2⟩ | ⟨h2, _⟩
    · exact (next_nonone h2 (by rcases h with h | h; · omega
                                · exact h)).elim
    · rw [← h2]; exact h1
theorem round_some (l : List Int) (who : Int) (hn : l.length ≤ 65536) (hw : 0 ≤ who) (h : ¬ NoNext l 0 who) : ∃ R, Ev (fun k => slots_Round.f k l who) R ∧ (∀ t g : Int, 0 ≤ t → t < l.length → own l t = who → Gap l who t g → g ≤ R) ∧ (R = 0 ∨ ∃ t : Int, 0 ≤ t ∧ t < l.length ∧ own l t = who ∧ Gap l who t R) := by
  obtain ⟨R, k1, _, k3, k4⟩ := round_loop l who hn hw l.length 0 0 (by omega) (by omega) (by omega) (by omega)
  refine ⟨R, ?_, k3, k4⟩
  obtain ⟨p, h1, h2⟩ := next_some l 0 who (by omega) (by omega) hn hw
  have hp : p.2 = true := by
    rcases h2 with ⟨h2, _⟩ | ⟨_, h2⟩
    · exact h2
    · exact absurd h2 h
  refine Ev.bind (f := fun k bt => (if bt.2 = true then (slots_Round.l0 k l who 0 (l.length : Int) 0) else (some 0))) h1 ?_
  simp only [hp, if_true]
  exact k1
/-! ### The law -/
theorem works_ev : Ev (fun k => vizardlaw21_works.f k) true := Ev.of (fun k => vizardlaw21_works.mono k) (k := 40) (by decide +kernel)
theorem gap_le {l : List Int} {who t g : Int} (h : Gap l who t g) : 1 ≤ g ∧ g ≤ l.length := by
  obtain ⟨j, hj, rfl⟩ := h
  have := hj.1
  have := hj.2.1
  omega
/-- The last one's tick before t's round: from it the next one is behind t. -/
theorem before (l : List Int) (who t : Int) (ht : 0 ≤ t) (hl : l ≠ []) (h : ¬ NoNext l t who) : ∃ p : Int, 0 ≤ p ∧ p < l.length ∧ t ≤ t + p ∧ own l (t + p) = who ∧ ∀ i : Int, p < i → i < l.length → own l (t + i) ≠ who := by
  have key : ∀ d : Nat, (d : Int) ≤ l.length → (∀ i : Int, (l.length : Int) - d ≤ i → i < l.length → own l (t + i) ≠ who) ∨ ∃ p : Int, 0 ≤ p ∧ p < l.length ∧ t ≤ t + p ∧ own l (t + p) = who ∧ ∀ i : Int, p < i → i < l.length → own l (t + i) ≠ who := by
    intro d
    induction d with
    | zero => intro _; exact .inl (fun i h1 h2 => by omega)
    | succ d ih =>
      intro hd
      rcases ih (by omega) with h1 | h1
      · by_cases e : own l (t + ((l.length : Int) - (d + 1))) = who
        · exact .inr ⟨(l.length : Int) - (d + 1), by omega, by omega, by omega, e, fun i h2 h3 => h1 i (by omega) h3⟩
        · refine .inl (fun i h2 h3 => ?_)
          by_cases e2 : i = (l.length : Int) - (d + 1)
          · rw [e2]; exact e
          · exact h1 i (by omega) h3
      · exact .inr h1
  rcases key l.length (by omega) with h1 | h1
  · exact absurd (fun i a b => h1 i (by omega) b) h
  · exact h1
theorem wait_le (l : List Int) (who t j R : Int) (ht : 0 ≤ t) (hl : l ≠ []) (hj : Next l t who j) (hR : ∀ s g : Int, 0 ≤ s → s < l.length → own l s = who → Gap l who s g → g ≤ R) : j ≤ R := by
  have hp : 0 < (l.length : Int) := by have := List.length_pos_iff.2 hl; omega
  obtain ⟨p, h0, h1, _, h2, h3⟩ := before l who t ht hl (fun hn => next_nonone hj hn)
  have m0 := Int.emod_nonneg (t + p) (b := (l.length : Int)) (by omega)
  have m1 := Int.emod_lt_of_pos (t + p) hp
  have hj0 := hj.1
  have hj1 := hj.2.1
  have e : ∀ i, 0 ≤ i → own l ((t + p) % l.length + i) = own l (t + p + i) := fun i hi => own_mod hl (by omega) hi
  have hg : Gap l who ((t + p) % l.length) ((l.length : Int) + j - p) := by
    refine ⟨(l.length : Int) + j - p - 1, ⟨by omega, ?_, ?_, fun i hi hi2 => ?_⟩, by omega⟩
    · -- j ≤ p
      rcases Int.lt_or_le p j with h | h
      · exact absurd hj.2.2.1 (h3 j h hj1)
      · omega
    · rw [show (t + p) % l.length + 1 + ((l.length : Int) + j - p - 1) = (t + p) % l.length + (l.length + j - p) by omega, e _ (by omega), show t + p + ((l.length : Int) + j - p) = t + j + l.length by omega, own_add (by omega)]
      exact hj.2.2.1
    · rw [show (t + p) % l.length + 1 + i = (t + p) % l.length + (1 + i) by omega, e _ (by omega)]
      rcases Int.lt_or_le (p + 1 + i) l.length with h | h
      · rw [show t + p + (1 + i) = t + (p + 1 + i) by omega]
        exact h3 _ (by omega) h
      · rw [show t + p + (1 + i) = t + (p + 1 + i - l.length) + l.length by omega, own_add (by omega)]
        exact hj.2.2.2 _ (by omega) (by omega)
  have hw : own l ((t + p) % l.length) = who := by
    have := e 0 (by omega)
    simp only [Int.add_zero] at this
    rw [this, h2]
  have := hR _ _ m0 m1 hw hg
  rcases Int.lt_or_le p j with h | h
  · exact absurd hj.2.2.1 (h3 j h hj1)
  · omega
theorem tail_loop (l : List Int) (who s r : Int) (hs : 0 ≤ s) (hr : r ≤ 1152921504606847977) (hn : l.length ≤ 500) (ho : own l r = who) (d : Nat) : ∀ i : Int, s ≤ i → r - i = d → (∀ j, i ≤ j → j < r → own l j ≠ who) → Ev (fun k => vizardlaw21_SlotsWait.l0 k l who r i) true := by
  induction d with
  | zero =>
    intro i hi hd hno
    refine Ev.step (f := fun _ => some true) (fun k => ?_) (Ev.now _)
    simp only [vizardlaw21_SlotsWait.l0]
    rw [if_neg (by omega), wrap_in _ (by omega) (by omega), owner_some, Option.bind_some, own_add (by omega), ho]
    simp
  | succ d ih =>
    intro i hi hd hno
    refine Ev.step (fun k => ?_) (ih (i + 1) (by omega) (by omega) (fun j h1 h2 => hno j (by omega) h2))
    simp only [vizardlaw21_SlotsWait.l0]
    rw [if_pos (by omega), owner_some, Option.bind_some, if_neg (hno i (by omega) (by omega)), wrap_in _ (by omega) (by omega)]
theorem SlotsWait : Law.Pure := by
  intro l t who _ ht hw
  refine (Ev.bind works_ev ?_).rounds
  simp only [if_true]
  by_cases h1 : (l.length : Int) > 500
  · simp only [if_pos h1]
    exact Ev.step (f := fun _ => some true) (fun k => by simp [vizardlaw21_SlotsWait.j0]) (Ev.now _)
  simp only [if_neg h1]
  by_cases h2 : t < 0
  · simp only [if_pos h2]
    exact Ev.step (f := fun _ => some true) (fun k => by simp [vizardlaw21_SlotsWait.j0]) (Ev.now _)
  simp only [if_neg h2]
  by_cases h3 : t > 1152921504606846976
  · exact Ev.step (f := fun _ => some true) (fun k => by simp [vizardlaw21_SlotsWait.j0, h3]) (Ev.now _)
  have main : ∀ r R, Ev (fun k => slots_Turn.f k l t who) r → Ev (fun k => slots_Round.f k l who) R → (r < 0 ∧ R = 0 ∨ 0 ≤ r ∧ t ≤ r ∧ r - t ≤ R ∧ 1 ≤ R ∧ R ≤ l.length ∧ own l r = who ∧ ∀ j, t ≤ j → j < r → own l j ≠ who) →
      Ev (fun k => vizardlaw21_SlotsWait.j0 k l t who (decide (t > 1152921504606846976))) true := by
    intro r R e1 e2 hc
    refine Ev.step (f := fun k => (slots_Turn.f k l t who).bind fun t127 => ((slots_Round.f k l who).bind fun t128 => (if t127 < 0 then (some (t128 == 0)) else (if t127 < t then (vizardlaw21_SlotsWait.j1 k l t who t127 true) else (if (wrap64 (t127 - t)) > t128 then (vizardlaw21_SlotsWait.j1 k l t who t127 true) else (if t128 < 1 then (vizardlaw21_SlotsWait.j1 k l t who t127 true) else (if t128 > (l.length : Int) then (vizardlaw21_SlotsWait.j1 k l t who t127 true) else ((slots_Owner.f l t127).bind fun t129 => (vizardlaw21_SlotsWait.j1 k l t who t127 (t129 != who))))))))))
      (fun k => by simp [vizardlaw21_SlotsWait.j0, h3]) (Ev.bind e1 (Ev.bind e2 ?_))
    rcases hc with ⟨a, rfl⟩ | ⟨a, b, c, d, e, f, g⟩
    · simp only [if_pos a]
      exact Ev.now _
    · refine Ev.congr (f := fun k => vizardlaw21_SlotsWait.j1 k l t who r false) (fun k => ?_) ?_
      · rw [if_neg (by omega), if_neg (by omega), wrap_in _ (by omega) (by omega), if_neg (by omega), if_neg (by omega), if_neg (by omega), owner_some]
        simp [f]
      refine Ev.step (fun k => ?_) (tail_loop l who t r (by omega) (by omega) (by omega) f (r - t).toNat t (by omega) (by omega) g)
      simp [vizardlaw21_SlotsWait.j1]
  by_cases h4 : who < 0
  · exact main (-1) 0 (turn_neg l t who h4) (round_none l who (by omega) (.inl h4)) (.inl ⟨by omega, rfl⟩)
  obtain ⟨r, k1, k2⟩ := turn_some l t who (by omega) (by omega) (by omega) (by omega)
  rcases k2 with ⟨j, hj, rfl⟩ | ⟨hn, rfl⟩
  · have hl : l ≠ [] := by
      intro e
      have a := hj.1
      have b := hj.2.1
      rw [e] at b
      simp at b
      omega
    have hp : 0 < (l.length : Int) := by have := List.length_pos_iff.2 hl; omega
    have h0 : ¬ NoNext l 0 who := some_next (s := t + j) (by have := hj.1; omega) (by omega) hj.2.2.1 hl
    obtain ⟨R, m1, m2, m3⟩ := round_some l who (by omega) (by omega) h0
    have w := wait_le l who t j R (by omega) hl hj m2
    have hj0 := hj.1
    have hj1 := hj.2.1
    refine main (t + j) R k1 m1 (.inr ⟨by omega, by omega, by omega, ?_, ?_, hj.2.2.1, fun i h5 h6 => ?_⟩)
    · obtain ⟨p, q0, q1, _, q2, q3⟩ := before l who 0 (by omega) hl h0
      have hnn : ¬ NoNext l (p + 1) who := some_next (s := t + j) (by omega) (by omega) hj.2.2.1 hl
      obtain ⟨z, z1, z2⟩ := next_some l (p + 1) who (by omega) (by omega) (by omega) (by omega)
      rcases z2 with ⟨_, z2⟩ | ⟨_, z2⟩
      · have := m2 p (z.1 + 1) q0 q1 (by simpa using q2) ⟨z.1, z2, rfl⟩
        have := z2.1
        omega
      · exact absurd z2 hnn
    · rcases m3 with rfl | ⟨s, _, _, _, q⟩
      · omega
      · exact (gap_le q).2
    · have := hj.2.2.2 (i - t) (by omega) (by omega)
      rwa [show t + (i - t) = i by omega] at this
  · refine main (-1) 0 k1 (round_none l who (by omega) (.inr (fun i a b => ?_))) (.inl ⟨by omega, rfl⟩)
    by_cases hl : l = []
    · subst hl; simp at b; omega
    · intro e
      exact some_next (s := 0 + i) (t := t) (by omega) (by omega) e hl hn

end Go.Proofs.Ytkadeigcblmcaaa.Pure
