/- The pure law SlotsTells -/
import Derived.Test.YtkadeigcblmcaaaGoodSlotsTells
namespace Go.Proofs.Ytkadeigcblmcaaa.Pure
open Go.RowKit Go.Proofs.Ytkadeigcblmcaaa.PSlotsTells Go.Proofs.YtkadeigcblmcaaaW.PrintWords Go.Proofs.YtkadeigcblmcaaaW.PrintLast Go.Proofs.Ytkadeigcblmcaaa.Opening
set_option linter.unusedVariables false
set_option linter.unusedSimpArgs false
/-! ### Whose tick -/
def own (l : List Int) (t : Int) : Int := if t < 0 ∨ l = [] then -1 else mx (-1) (rd l (t % l.length))
theorem mx_eq (a b : Int) : mx a b = if a < b then b else a := rfl
theorem own_period {l : List Int} {t : Int} (ht : 0 ≤ t) (c : Nat) : own l (t + c * l.length) = own l t := by
  unfold own
  by_cases hl : l = []
  · simp [hl]
  · have h1 : ¬ (t < 0 ∨ l = []) := by simp [hl]; omega
    have h2 : ¬ (t + c * l.length < 0 ∨ l = []) := by
      simp [hl]
      have : 0 ≤ (c : Int) * l.length := Int.mul_nonneg (by omega) (by omega)
      omega
    rw [if_neg h1, if_neg h2, Int.add_mul_emod_self_right]
theorem own_add {l : List Int} {t : Int} (ht : 0 ≤ t) : own l (t + l.length) = own l t := by
  have := own_period (l := l) ht 1
  simpa using this
theorem own_mod {l : List Int} {t i : Int} (hl : l ≠ []) (ht : 0 ≤ t) (hi : 0 ≤ i) : own l (t % l.length + i) = own l (t + i) := by
  have hp : 0 < (l.length : Int) := by have := List.length_pos_iff.2 hl; omega
  have h0 := Int.emod_nonneg t (b := (l.length : Int)) (by omega)
  have h1 := Int.mul_ediv_add_emod t l.length
  have h2 : 0 ≤ t / l.length := Int.ediv_nonneg ht (by omega)
  obtain ⟨c, hc⟩ := Int.eq_ofNat_of_zero_le h2
  have := own_period (l := l) (t := t % l.length + i) (by omega) c
  rw [← this]
  congr 1
  rw [hc, Int.mul_comm] at h1
  omega
theorem wrap_in (x : Int) (h0 : -9223372036854775808 ≤ x) (h1 : x ≤ 9223372036854775807) : wrap64 x = x := by
  unfold wrap64
  omega
theorem owner_some (l : List Int) (t : Int) : slots_Owner.f l t = some (own l t) := by
  unfold slots_Owner.f own
  by_cases h0 : t < 0
  · simp [h0]
  · rw [if_neg h0]
    by_cases hl : l = []
    · simp [hl]
    · have hp : 0 < (l.length : Int) := by have := List.length_pos_iff.2 hl; omega
      have e : Int.tmod t l.length = t % l.length := Int.tmod_eq_emod_of_nonneg (by omega)
      rw [if_neg (by omega), e, if_pos (Int.emod_nonneg _ (by omega)), if_pos (Int.emod_lt_of_pos _ hp), if_neg (by simp [hl]; omega)]
theorem u64_eq (n : Int) : IntKind.u64.wrap n = n % 18446744073709551616 := by simp [IntKind.wrap, IntKind.bits, IntKind.signed]
theorem u64_range (n : Int) : 0 ≤ IntKind.u64.wrap n ∧ IntKind.u64.wrap n < 18446744073709551616 := by
  rw [u64_eq]
  omega
/-- How far from t on the next one is. -/
def Next (l : List Int) (t who j : Int) : Prop := 0 ≤ j ∧ j < l.length ∧ own l (t + j) = who ∧ ∀ i : Int, 0 ≤ i → i < j → own l (t + i) ≠ who
def NoNext (l : List Int) (t who : Int) : Prop := ∀ i : Int, 0 ≤ i → i < l.length → own l (t + i) ≠ who
def NextP (l : List Int) (t who : Int) (p : Int × Bool) : Prop := (p.2 = true ∧ Next l t who p.1) ∨ (p = (0, false) ∧ NoNext l t who)
theorem next_loop (l : List Int) (t who : Int) (ht : 0 ≤ t) (ht2 : t ≤ 4611686018427387904) (hn : l.length ≤ 65536) (d : Nat) : ∀ i : Int, 0 ≤ i → (l.length : Int) - i = d → (∀ j : Int, 0 ≤ j → j < i → own l (t + j) ≠ who) →
    ∃ p, Ev (fun k => slots_next.l0 k l t who l.length i) p ∧ NextP l t who p := by
  induction d with
  | zero =>
    intro i h0 hd hno
    refine ⟨(0, false), Ev.step (f := fun _ => some (0, false)) (fun k => ?_) (Ev.now _), .inr ⟨rfl, fun j hj hj2 => hno j hj (by omega)⟩⟩
    simp only [slots_next.l0]
    rw [if_neg (by omega)]
  | succ d ih =>
    intro i h0 hd hno
    have hl : l ≠ [] := by intro e; rw [e] at hd; simp at hd; omega
    have hp : 0 < (l.length : Int) := by have := List.length_pos_iff.2 hl; omega
    have e1 : Int.tmod t l.length = t % l.length := Int.tmod_eq_emod_of_nonneg ht
    have m0 := Int.emod_nonneg t (b := (l.length : Int)) (by omega)
    have m1 := Int.emod_lt_of_pos t hp
    by_cases ho : own l (t + i) = who
    · refine ⟨(i, true), Ev.step (f := fun _ => some (i, true)) (fun k => ?_) (Ev.now _), .inl ⟨rfl, h0, by simp only; omega, ho, hno⟩⟩
      simp only [slots_next.l0]
      rw [if_pos (by omega), if_neg (by omega), e1, wrap_in _ (by omega) (by omega), owner_some, Option.bind_some, own_mod hl ht h0, if_pos ho]
    · obtain ⟨p, hp1, hp2⟩ := ih (i + 1) (by omega) (by omega) (fun j hj hj2 => by
        by_cases e : j = i
        · rw [e]; exact ho
        · exact hno j hj (by omega))
      refine ⟨p, Ev.step (fun k => ?_) hp1, hp2⟩
      simp only [slots_next.l0]
      rw [if_pos (by omega), if_neg (by omega), e1, wrap_in (t % l.length + i) (by omega) (by omega), owner_some, Option.bind_some, own_mod hl ht h0, if_neg ho, wrap_in (i + 1) (by omega) (by omega)]
theorem next_some (l : List Int) (t who : Int) (ht : 0 ≤ t) (ht2 : t ≤ 4611686018427387904) (hn : l.length ≤ 65536) (hw : 0 ≤ who) : ∃ p, Ev (fun k => slots_next.f k l t who) p ∧ NextP l t who p := by
  obtain ⟨p, h1, h2⟩ := next_loop l t who ht ht2 hn l.length 0 (by omega) (by omega) (fun j hj hj2 => by omega)
  refine ⟨p, Ev.congr (f := fun k => slots_next.j0 k l t who false) (fun k => ?_) (Ev.step (fun k => ?_) h1), h2⟩
  · simp only [slots_next.f]
    rw [if_neg (by omega)]
    congr 1
    simp
    omega
  · simp [slots_next.j0]
theorem next_neg (l : List Int) (t who : Int) (hw : who < 0) : Ev (fun k => slots_next.f k l t who) (0, false) := by
  refine Ev.congr (f := fun k => slots_next.j0 k l t who true) (fun k => ?_) (Ev.step (f := fun _ => some (0, false)) (fun k => ?_) (Ev.now _))
  · simp only [slots_next.f]
    rw [if_pos hw]
  · simp [slots_next.j0]
theorem none_neg (l : List Int) (t who : Int) (hw : who < -1) : NoNext l t who := by
  intro i h0 h1
  unfold own
  split
  · omega
  · rw [mx_eq]; split <;> omega
theorem next_unique {l : List Int} {t who i j : Int} (hi : Next l t who i) (hj : Next l t who j) : i = j := by
  rcases Int.lt_trichotomy i j with h | h | h
  · exact absurd hi.2.2.1 (hj.2.2.2 i hi.1 h)
  · exact h
  · exact absurd hj.2.2.1 (hi.2.2.2 j hj.1 h)
theorem next_nonone {l : List Int} {t who i : Int} (hi : Next l t who i) (hn : NoNext l t who) : False := hn i hi.1 hi.2.1 hi.2.2.1
/-- Whoever has a tick has one from any tick on. -/
theorem some_next {l : List Int} {who : Int} {s t : Int} (hs : 0 ≤ s) (ht : 0 ≤ t) (h : own l s = who) (hl : l ≠ []) : ¬ NoNext l t who := by
  intro hn
  have hp : 0 < (l.length : Int) := by have := List.length_pos_iff.2 hl; omega
  have a0 := Int.emod_nonneg (s - t) (b := (l.length : Int)) (by omega)
  have a1 := Int.emod_lt_of_pos (s - t) hp
  refine hn ((s - t) % l.length) a0 a1 ?_
  rw [← h]
  have e1 := own_mod (l := l) (t := t + (s - t) % l.length) (i := 0) hl (by omega) (by omega)
  have e2 := own_mod (l := l) (t := s) (i := 0) hl hs (by omega)
  simp only [Int.add_zero] at e1 e2
  rw [← e1, ← e2]
  congr 1
  rw [Int.add_emod_emod]
  congr 1
  omega
theorem turn_some (l : List Int) (t who : Int) (ht : 0 ≤ t) (ht2 : t ≤ 4611686018427387903) (hn : l.length ≤ 65536) (hw : 0 ≤ who) : ∃ r, Ev (fun k => slots_Turn.f k l t who) r ∧ ((∃ j, Next l t who j ∧ r = t + j) ∨ (NoNext l t who ∧ r = -1)) := by
  obtain ⟨p, h1, h2⟩ := next_some l t who ht (by omega) hn hw
  have base : ∀ r, Ev (fun k => (slots_next.f k l t who).bind fun bt => (if bt.2 = true then (some (wrap64 (t + bt.1))) else (some (-1)))) r → Ev (fun k => slots_Turn.f k l t who) r := by
    intro r hr
    refine Ev.congr (f := fun k => slots_Turn.j0 k l t who false) (fun k => ?_) (Ev.step (fun k => ?_) hr)
    · simp only [slots_Turn.f]
      rw [if_neg (by omega)]
      congr 1
      simp
      omega
    · simp [slots_Turn.j0]
  rcases h2 with ⟨h2, h3⟩ | ⟨h2, h3⟩
  · refine ⟨t + p.1, base _ (Ev.bind h1 ?_), .inl ⟨p.1, h3, rfl⟩⟩
    have := h3.1
    have := h3.2.1
    simp only [h2, if_true]
    rw [wrap_in _ (by omega) (by omega)]
    exact Ev.now _
  · subst h2
    exact ⟨-1, base _ (Ev.bind h1 (Ev.now _)), .inr ⟨h3, rfl⟩⟩
theorem turn_bad (l : List Int) (t who : Int) (h : t < 0 ∨ 4611686018427387903 < t) : Ev (fun k => slots_Turn.f k l t who) (-1) := by
  refine Ev.congr (f := fun k => slots_Turn.j0 k l t who true) (fun k => ?_) (Ev.step (f := fun _ => some (-1)) (fun k => ?_) (Ev.now _))
  · simp only [slots_Turn.f]
    by_cases h0 : t < 0
    · rw [if_pos h0]
    · rw [if_neg h0]
      congr 1
      simp
      omega
  · simp [slots_Turn.j0]
theorem turn_neg (l : List Int) (t who : Int) (hw : who < 0) : Ev (fun k => slots_Turn.f k l t who) (-1) := by
  by_cases h : t < 0 ∨ 4611686018427387903 < t
  · exact turn_bad l t who h
  refine Ev.congr (f := fun k => slots_Turn.j0 k l t who false) (fun k => ?_) (Ev.step (f := fun k => (slots_next.f k l t who).bind fun bt => (if bt.2 = true then (some (wrap64 (t + bt.1))) else (some (-1)))) (fun k => ?_) (Ev.bind (next_neg l t who hw) (Ev.congr (f := fun _ => some (-1)) (fun _ => rfl) (Ev.now _))))
  · simp only [slots_Turn.f]
    rw [if_neg (by omega)]
    congr 1
    simp
    omega
  · simp [slots_Turn.j0]
/-- A gap: from one of someone's ticks to the next. -/
def Gap (l : List Int) (who t g : Int) : Prop := ∃ j, Next l (t + 1) who j ∧ g = j + 1
theorem round_loop (l : List Int) (who : Int) (hn : l.length ≤ 65536) (hw : 0 ≤ who) (d : Nat) : ∀ (i m : Int), 0 ≤ i → (l.length : Int) - i = d → 0 ≤ m → m ≤ 65536 →
    ∃ R, Ev (fun k => slots_Round.l0 k l who m l.length i) R ∧ m ≤ R ∧ (∀ t g : Int, i ≤ t → t < l.length → own l t = who → Gap l who t g → g ≤ R) ∧ (R = m ∨ ∃ t : Int, i ≤ t ∧ t < l.length ∧ own l t = who ∧ Gap l who t R) := by
  induction d with
  | zero =>
    intro i m h0 hd _ _
    refine ⟨m, Ev.step (f := fun _ => some m) (fun k => ?_) (Ev.now _), by omega, fun t g h1 h2 => by omega, .inl rfl⟩
    simp only [slots_Round.l0]
    rw [if_neg (by omega)]
  | succ d ih =>
    intro i m h0 hd hm0 hm1
    have hl : l ≠ [] := by intro e; rw [e] at hd; simp at hd; omega
    by_cases ho : own l i = who
    · obtain ⟨p, h1, h2⟩ := next_some l (i + 1) who (by omega) (by omega) hn hw
      have h3 : Next l (i + 1) who p.1 := by
        rcases h2 with ⟨_, h⟩ | ⟨_, h⟩
        · exact h
        · exact absurd h (some_next h0 (by omega) ho hl)
      have hp0 := h3.1
      have hp1 := h3.2.1
      have hmx : m ≤ mx m (p.1 + 1) ∧ p.1 + 1 ≤ mx m (p.1 + 1) ∧ (mx m (p.1 + 1) = m ∨ mx m (p.1 + 1) = p.1 + 1) := by
        rw [mx_eq]; split <;> omega
      obtain ⟨R, k1, k2, k3, k4⟩ := ih (i + 1) (mx m (p.1 + 1)) (by omega) (by omega) (by omega) (by omega)
      refine ⟨R, Ev.step (f := fun k => (slots_next.f k l (i + 1) who).bind fun bt => slots_Round.l0 k l who (mx m (wrap64 (bt.1 + 1))) l.length (i + 1)) (fun k => ?_) (Ev.bind h1 ?_), by omega, ?_, ?_⟩
      · simp only [slots_Round.l0]
        rw [if_pos (by omega), owner_some, Option.bind_some, if_pos ho, wrap_in (i + 1) (by omega) (by omega)]
      · simp only [wrap_in (p.1 + 1) (by omega) (by omega)]
        exact k1
      · intro t g h4 h5 h6 h7
        by_cases e : t = i
        · subst e
          obtain ⟨j, hj, rfl⟩ := h7
          rw [next_unique hj h3]
          omega
        · exact k3 t g (by omega) h5 h6 h7
      · rcases k4 with k4 | ⟨t, a, b, c⟩
        · rcases hmx.2.2 with e | e
          · exact .inl (by omega)
          · exact .inr ⟨i, by omega, by omega, ho, p.1, h3, by omega⟩
        · exact .inr ⟨t, by omega, b, c⟩
    · obtain ⟨R, k1, k2, k3, k4⟩ := ih (i + 1) m (by omega) (by omega) hm0 hm1
      refine ⟨R, Ev.step (fun k => ?_) k1, k2, ?_, ?_⟩
      · simp only [slots_Round.l0]
        rw [if_pos (by omega), owner_some, Option.bind_some, if_neg ho, wrap_in (i + 1) (by omega) (by omega)]
      · intro t g h4 h5 h6 h7
        by_cases e : t = i
        · subst e; exact absurd h6 ho
        · exact k3 t g (by omega) h5 h6 h7
      · rcases k4 with k4 | ⟨t, a, b, c⟩
        · exact .inl k4
        · exact .inr ⟨t, by omega, b, c⟩
theorem round_none (l : List Int) (who : Int) (hn : l.length ≤ 65536) (h : who < 0 ∨ NoNext l 0 who) : Ev (fun k => slots_Round.f k l who) 0 := by
  refine Ev.bind (g := fun k => slots_next.f k l 0 who) (f := fun k bt => (if bt.2 = true then (slots_Round.l0 k l who 0 (l.length : Int) 0) else (some 0))) (a := (0, false)) ?_ (Ev.now _)
  by_cases hw : who < 0
  · exact next_neg l 0 who hw
  · obtain ⟨p, h1, h2⟩ := next_some l 0 who (by omega) (by omega) hn (by omega)
    rcases h2 with ⟨_, h2⟩ | ⟨h2, _⟩
    · exact (next_nonone h2 (by rcases h with h | h; · omega
                                · exact h)).elim
    · rw [← h2]; exact h1
theorem round_some (l : List Int) (who : Int) (hn : l.length ≤ 65536) (hw : 0 ≤ who) (h : ¬ NoNext l 0 who) : ∃ R, Ev (fun k => slots_Round.f k l who) R ∧ (∀ t g : Int, 0 ≤ t → t < l.length → own l t = who → Gap l who t g → g ≤ R) ∧ (R = 0 ∨ ∃ t : Int, 0 ≤ t ∧ t < l.length ∧ own l t = who ∧ Gap l who t R) := by
  obtain ⟨R, k1, _, k3, k4⟩ := round_loop l who hn hw l.length 0 0 (by omega) (by omega) (by omega) (by omega)
  refine ⟨R, ?_, k3, k4⟩
  obtain ⟨p, h1, h2⟩ := next_some l 0 who (by omega) (by omega) hn hw
  have hp : p.2 = true := by
    rcases h2 with ⟨h2, _⟩ | ⟨_, h2⟩
    · exact h2
    · exact absurd h2 h
  refine Ev.bind (f := fun k bt => (if bt.2 = true then (slots_Round.l0 k l who 0 (l.length : Int) 0) else (some 0))) h1 ?_
  simp only [hp, if_true]
  exact k1
/-! ### The law -/
theorem rowner_some (l : List Int) (t : Int) : vizardref21_Owner.f l t = some (own l t) := owner_some l t
theorem rturn_loop (l : List Int) (t who : Int) (ht : 0 ≤ t) (ht2 : t ≤ 4611686018427387903) (hn : l.length ≤ 65536) (d : Nat) : ∀ i : Int, 0 ≤ i → (l.length : Int) - i = d → (∀ j : Int, 0 ≤ j → j < i → own l (t + j) ≠ who) →
    ∃ r, Ev (fun k => vizardref21_Turn.l0 k l t who i) r ∧ ((∃ j, Next l t who j ∧ r = t + j) ∨ (NoNext l t who ∧ r = -1)) := by
  induction d with
  | zero =>
    intro i h0 hd hno
    refine ⟨-1, Ev.step (f := fun _ => some (-1)) (fun k => ?_) (Ev.now _), .inr ⟨fun j hj hj2 => hno j hj (by omega), rfl⟩⟩
    simp only [vizardref21_Turn.l0]
    rw [if_neg (by omega)]
  | succ d ih =>
    intro i h0 hd hno
    by_cases ho : own l (t + i) = who
    · refine ⟨t + i, Ev.step (f := fun _ => some (t + i)) (fun k => ?_) (Ev.now _), .inl ⟨i, ⟨h0, by omega, ho, hno⟩, rfl⟩⟩
      simp only [vizardref21_Turn.l0]
      rw [if_pos (by omega), wrap_in _ (by omega) (by omega), rowner_some, Option.bind_some, if_pos ho]
    · obtain ⟨r, h1, h2⟩ := ih (i + 1) (by omega) (by omega) (fun j hj hj2 => by
        by_cases e : j = i
        · rw [e]; exact ho
        · exact hno j hj (by omega))
      refine ⟨r, Ev.step (fun k => ?_) h1, h2⟩
      simp only [vizardref21_Turn.l0]
      rw [if_pos (by omega), wrap_in _ (by omega) (by omega), rowner_some, Option.bind_some, if_neg ho, wrap_in (i + 1) (by omega) (by omega)]
theorem fine_eq (l : List Int) (who : Int) (hn : l.length ≤ 65536) : vizardref21_fine.f l who = some (decide (who ≥ 0)) := by
  unfold vizardref21_fine.f
  by_cases h : who ≥ 0
  · rw [if_pos h]
    simp [h]
    omega
  · rw [if_neg h]
    simp [h]
theorem rturn_bad (l : List Int) (t who : Int) (hn : l.length ≤ 65536) (h : t < 0 ∨ 4611686018427387903 < t ∨ who < 0) : Ev (fun k => vizardref21_Turn.f k l t who) (-1) := by
  refine Ev.congr (f := fun k => vizardref21_Turn.j0 k l t who true) (fun k => ?_) (Ev.step (f := fun _ => some (-1)) (fun k => by simp [vizardref21_Turn.j0]) (Ev.now _))
  simp only [vizardref21_Turn.f]
  rw [fine_eq l who hn, Option.bind_some]
  by_cases hw : who ≥ 0
  · rw [if_pos (by simpa using hw)]
    by_cases h0 : t < 0
    · rw [if_pos h0]
    · rw [if_neg h0]
      congr 1
      simp
      omega
  · rw [if_neg (by simpa using hw)]
theorem rturn_some (l : List Int) (t who : Int) (ht : 0 ≤ t) (ht2 : t ≤ 4611686018427387903) (hn : l.length ≤ 65536) (hw : 0 ≤ who) : ∃ r, Ev (fun k => vizardref21_Turn.f k l t who) r ∧ ((∃ j, Next l t who j ∧ r = t + j) ∨ (NoNext l t who ∧ r = -1)) := by
  obtain ⟨r, h1, h2⟩ := rturn_loop l t who ht ht2 hn l.length 0 (by omega) (by omega) (fun j hj hj2 => by omega)
  refine ⟨r, Ev.congr (f := fun k => vizardref21_Turn.j0 k l t who false) (fun k => ?_) (Ev.step (fun k => by simp [vizardref21_Turn.j0]) h1), h2⟩
  simp only [vizardref21_Turn.f]
  rw [fine_eq l who hn, Option.bind_some, if_pos (by simpa using hw), if_neg (by omega)]
  congr 1
  simp
  omega
theorem answers {l : List Int} {t who r s : Int} (h : (∃ j, Next l t who j ∧ r = t + j) ∨ (NoNext l t who ∧ r = -1)) (k : (∃ j, Next l t who j ∧ s = t + j) ∨ (NoNext l t who ∧ s = -1)) : r = s := by
  rcases h with ⟨i, hi, rfl⟩ | ⟨hi, rfl⟩ <;> rcases k with ⟨j, hj, rfl⟩ | ⟨hj, rfl⟩
  · rw [next_unique hi hj]
  · exact (next_nonone hi hj).elim
  · exact (next_nonone hj hi).elim
  · rfl
theorem turns (l : List Int) (t who : Int) (hn : l.length ≤ 2000) : ∃ r, Ev (fun k => slots_Turn.f k l t who) r ∧ Ev (fun k => vizardref21_Turn.f k l t who) r := by
  by_cases h : t < 0 ∨ 4611686018427387903 < t
  · exact ⟨-1, turn_bad l t who h, rturn_bad l t who (by omega) (by omega)⟩
  by_cases hw : who < 0
  · exact ⟨-1, turn_neg l t who hw, rturn_bad l t who (by omega) (by omega)⟩
  obtain ⟨r, h1, h2⟩ := turn_some l t who (by omega) (by omega) (by omega) (by omega)
  obtain ⟨s, k1, k2⟩ := rturn_some l t who (by omega) (by omega) (by omega) (by omega)
  exact ⟨r, h1, by rw [answers h2 k2]; exact k1⟩
/-- The two loops over a table's gaps come to the same. -/
theorem rround_loop (l : List Int) (who : Int) (hn : l.length ≤ 2000) (hw : 0 ≤ who) (hl : l ≠ []) (hs : ¬ NoNext l 0 who) (d : Nat) : ∀ (i m j : Int), 0 ≤ i → (l.length : Int) - i = d → 0 ≤ m → m ≤ 65536 → Next l i who j →
    ∃ R, Ev (fun k => slots_Round.l0 k l who m l.length i) R ∧ Ev (fun k => vizardref21_Round.l0 k l who (i + j) m) R := by
  induction d with
  | zero =>
    intro i m j h0 hd _ _ hj
    refine ⟨m, Ev.step (f := fun _ => some m) (fun k => ?_) (Ev.now _), Ev.step (f := fun _ => some m) (fun k => ?_) (Ev.now _)⟩
    · simp only [slots_Round.l0]
      rw [if_neg (by omega)]
    · have := hj.1
      simp only [vizardref21_Round.l0]
      rw [if_neg (by omega)]
  | succ d ih =>
    intro i m j h0 hd hm0 hm1 hj
    by_cases ho : own l i = who
    · have hj0 : j = 0 := next_unique hj ⟨by omega, by omega, by simpa using ho, fun i h1 h2 => by omega⟩
      subst hj0
      obtain ⟨p, h1, h2⟩ := next_some l (i + 1) who (by omega) (by omega) (by omega) hw
      have h3 : Next l (i + 1) who p.1 := by
        rcases h2 with ⟨_, h⟩ | ⟨_, h⟩
        · exact h
        · exact absurd h (some_next h0 (by omega) ho hl)
      have hp0 := h3.1
      have hp1 := h3.2.1
      obtain ⟨r, q1, q2⟩ := rturn_some l (i + 1) who (by omega) (by omega) (by omega) hw
      have hr : r = i + 1 + p.1 := answers q2 (.inl ⟨p.1, h3, rfl⟩)
      have hmx : m ≤ mx m (p.1 + 1) ∧ mx m (p.1 + 1) ≤ 65536 := by
        rw [mx_eq]; split <;> omega
      obtain ⟨R, k1, k2⟩ := ih (i + 1) (mx m (p.1 + 1)) p.1 (by omega) (by omega) (by omega) (by omega) h3
      refine ⟨R, Ev.step (f := fun k => (slots_next.f k l (i + 1) who).bind fun bt => slots_Round.l0 k l who (mx m (wrap64 (bt.1 + 1))) l.length (i + 1)) (fun k => ?_) (Ev.bind h1 ?_),
        Ev.step (f := fun k => (vizardref21_Turn.f k l (i + 1) who).bind fun t => vizardref21_Round.l0 k l who t (mx m (wrap64 (t - i)))) (fun k => ?_) (Ev.bind q1 ?_)⟩
      · simp only [slots_Round.l0]
        rw [if_pos (by omega), owner_some, Option.bind_some, if_pos ho, wrap_in (i + 1) (by omega) (by omega)]
      · simp only [wrap_in (p.1 + 1) (by omega) (by omega)]
        exact k1
      · simp only [vizardref21_Round.l0, Int.add_zero]
        rw [if_pos (by omega), wrap_in (i + 1) (by omega) (by omega)]
      · rw [wrap_in (r - i) (by omega) (by omega), show r - i = p.1 + 1 by omega, hr]
        exact k2
    · have hj1 : Next l (i + 1) who (j - 1) := by
        have a := hj.1
        have : j ≠ 0 := by intro e; subst e; exact ho (by simpa using hj.2.2.1)
        refine ⟨by omega, by have := hj.2.1; omega, by rw [show i + 1 + (j - 1) = i + j by omega]; exact hj.2.2.1, fun x h1 h2 => ?_⟩
        rw [show i + 1 + x = i + (x + 1) by omega]
        exact hj.2.2.2 _ (by omega) (by omega)
      obtain ⟨R, k1, k2⟩ := ih (i + 1) m (j - 1) (by omega) (by omega) hm0 hm1 hj1
      refine ⟨R, Ev.step (fun k => ?_) k1, by rw [show i + 1 + (j - 1) = i + j by omega] at k2; exact k2⟩
      simp only [slots_Round.l0]
      rw [if_pos (by omega), owner_some, Option.bind_some, if_neg ho, wrap_in (i + 1) (by omega) (by omega)]
theorem rround_zero (l : List Int) (who : Int) (hn : l.length ≤ 2000) (h : who < 0 ∨ NoNext l 0 who) : Ev (fun k => vizardref21_Round.f k l who) 0 := by
  by_cases hw : who < 0
  · refine Ev.congr (f := fun k => vizardref21_Round.j0 k l who true) (fun k => ?_) (Ev.step (f := fun _ => some 0) (fun k => by simp [vizardref21_Round.j0]) (Ev.now _))
    simp only [vizardref21_Round.f]
    rw [fine_eq l who (by omega), Option.bind_some, if_neg (by simp; omega)]
  · have hn0 : NoNext l 0 who := by
      rcases h with h | h
      · omega
      · exact h
    obtain ⟨r, q1, q2⟩ := rturn_some l 0 who (by omega) (by omega) (by omega) (by omega)
    have hr : r = -1 := answers q2 (.inr ⟨hn0, rfl⟩)
    subst hr
    refine Ev.congr (f := fun k => (vizardref21_Turn.f k l 0 who).bind fun t => vizardref21_Round.j0 k l who (decide (t < 0))) (fun k => ?_) (Ev.bind q1 (Ev.step (f := fun _ => some 0) (fun k => by simp [vizardref21_Round.j0]) (Ev.now _)))
    simp only [vizardref21_Round.f]
    rw [fine_eq l who (by omega), Option.bind_some, if_pos (by simp; omega)]
theorem rounds (l : List Int) (who : Int) (hn : l.length ≤ 2000) : ∃ R, Ev (fun k => slots_Round.f k l who) R ∧ Ev (fun k => vizardref21_Round.f k l who) R := by
  by_cases h : who < 0 ∨ NoNext l 0 who
  · exact ⟨0, round_none l who (by omega) h, rround_zero l who hn h⟩
  have hw : 0 ≤ who := by omega
  have hs : ¬ NoNext l 0 who := fun x => h (.inr x)
  have hl : l ≠ [] := by
    intro e
    subst e
    exact hs (fun i a b => by simp at b; omega)
  obtain ⟨p, h1, h2⟩ := next_some l 0 who (by omega) (by omega) (by omega) hw
  rcases h2 with ⟨hp, h3⟩ | ⟨_, h3⟩
  · obtain ⟨R, k1, k2⟩ := rround_loop l who hn hw hl hs l.length 0 0 p.1 (by omega) (by omega) (by omega) (by omega) h3
    obtain ⟨r, q1, q2⟩ := rturn_some l 0 who (by omega) (by omega) (by omega) hw
    have hr : r = 0 + p.1 := answers q2 (.inl ⟨p.1, h3, rfl⟩)
    refine ⟨R, ?_, ?_⟩
    · refine Ev.bind (f := fun k bt => (if bt.2 = true then (slots_Round.l0 k l who 0 (l.length : Int) 0) else (some 0))) h1 ?_
      simp only [hp, if_true]
      exact k1
    · refine Ev.congr (f := fun k => (vizardref21_Turn.f k l 0 who).bind fun t => vizardref21_Round.j0 k l who (decide (t < 0))) (fun k => ?_) (Ev.bind q1 (Ev.step (f := fun k => (vizardref21_Turn.f k l 0 who).bind fun t => vizardref21_Round.l0 k l who t 0) (fun k => ?_) (Ev.bind q1 ?_)))
      · simp only [vizardref21_Round.f]
        rw [fine_eq l who (by omega), Option.bind_some, if_pos (by simp; omega)]
      · have := h3.1
        simp [vizardref21_Round.j0, show ¬ r < 0 by omega]
      · rw [hr]
        exact k2
  · exact absurd h3 hs
theorem classes (n : Int) : ∃ c, Ev (fun k => slots_Class.f k n) c ∧ Ev (fun k => vizardref21_Class.f k n) c := by
  have a0 : wrap64 1 = 1 := by decide +kernel
  have a1 : wrap64 2 = 2 := by decide +kernel
  have a2 : wrap64 3 = 3 := by decide +kernel
  have a3 : wrap64 4 = 4 := by decide +kernel
  have r0 : rd [128, 256, 512, 1200] 0 = 128 := rfl
  have r1 : rd [128, 256, 512, 1200] 1 = 256 := rfl
  have r2 : rd [128, 256, 512, 1200] 2 = 512 := rfl
  have r3 : rd [128, 256, 512, 1200] 3 = 1200 := rfl
  have e1 : ∀ c, slots_Class.f 6 n = some c → Ev (fun k => slots_Class.f k n) c := fun c h => Ev.of (fun k => slots_Class.mono n k) h
  have e2 : ∀ c, vizardref21_Class.f 12 n = some c → Ev (fun k => vizardref21_Class.f k n) c := fun c h => Ev.of (fun k => vizardref21_Class.mono n k) h
  have g1 : slots_Class.f 6 n = if n < 0 then some 0 else slots_Class.l0 6 n [128, 256, 512, 1200] 4 0 := rfl
  have g2 : vizardref21_Class.f 12 n = vizardref21_Class.l0 12 n [128, 256, 512, 1200] 0 := rfl
  by_cases hn : n < 0
  · refine ⟨0, e1 _ (by rw [g1, if_pos hn]), e2 _ ?_⟩
    rw [g2]
    simp [vizardref21_Class.l0, vizardref21_Class.j1, hn, show ¬ 0 ≤ n by omega]
  · have hn' : 0 ≤ n := by omega
    rw [if_neg hn] at g1
    by_cases b0 : n ≤ 128
    · refine ⟨128, e1 _ ?_, e2 _ ?_⟩
      · rw [g1]; simp [slots_Class.l0, r0, b0]
      · rw [g2]; simp [vizardref21_Class.l0, vizardref21_Class.j1, r0, b0, hn']
    by_cases b1 : n ≤ 256
    · refine ⟨256, e1 _ ?_, e2 _ ?_⟩
      · rw [g1]; simp [slots_Class.l0, r0, r1, a0, b0, b1]
      · rw [g2]; simp [vizardref21_Class.l0, vizardref21_Class.j1, r0, r1, a0, b0, b1, hn']
    by_cases b2 : n ≤ 512
    · refine ⟨512, e1 _ ?_, e2 _ ?_⟩
      · rw [g1]; simp [slots_Class.l0, r0, r1, r2, a0, a1, b0, b1, b2]
      · rw [g2]; simp [vizardref21_Class.l0, vizardref21_Class.j1, r0, r1, r2, a0, a1, b0, b1, b2, hn']
    by_cases b3 : n ≤ 1200
    · refine ⟨1200, e1 _ ?_, e2 _ ?_⟩
      · rw [g1]; simp [slots_Class.l0, r0, r1, r2, r3, a0, a1, a2, b0, b1, b2, b3]
      · rw [g2]; simp [vizardref21_Class.l0, vizardref21_Class.j1, r0, r1, r2, r3, a0, a1, a2, b0, b1, b2, b3, hn']
    · refine ⟨0, e1 _ ?_, e2 _ ?_⟩
      · rw [g1]; simp [slots_Class.l0, r0, r1, r2, r3, a0, a1, a2, a3, b0, b1, b2, b3]
      · rw [g2]; simp [vizardref21_Class.l0, vizardref21_Class.j1, r0, r1, r2, r3, a0, a1, a2, a3, b0, b1, b2, b3, hn']
theorem last_ev (l : List Int) (t who n : Int) (hn : l.length ≤ 2000) : Ev (fun k => vizardlaw21_SlotsTells.l0 k l t who n [128, 256, 512, 1200] [128, 256, 512, 1200] 4) true := by
  obtain ⟨r, t1, t2⟩ := turns l t who hn
  obtain ⟨R, u1, u2⟩ := rounds l who hn
  obtain ⟨c, v1, v2⟩ := classes n
  refine Ev.step (f := fun k => (slots_Turn.f k l t who).bind fun t142 => ((vizardref21_Turn.f k l t who).bind fun t143 => (if t142 = t143 then ((slots_Round.f k l who).bind fun t144 => ((vizardref21_Round.f k l who).bind fun t145 => (if t144 = t145 then ((slots_Class.f k n).bind fun t146 => ((vizardref21_Class.f k n).bind fun t147 => (some (t146 == t147)))) else (some false)))) else (some false))))
    (fun k => ?_) (Ev.bind t1 (Ev.bind t2 ?_))
  · simp [vizardlaw21_SlotsTells.l0, owner_some, rowner_some]
  · simp only [if_true]
    refine Ev.bind u1 (Ev.bind u2 ?_)
    simp only [if_true]
    refine Ev.bind v1 (Ev.bind v2 ?_)
    simp only [beq_self_eq_true]
    exact Ev.now _
theorem SlotsTells : Law.Pure := by
  intro l t who n _ _ _ _
  by_cases h1 : (l.length : Int) > 2000
  · exact ⟨0, by simp only [vizardlaw21_SlotsTells.f]; rw [if_pos h1]⟩
  have a0 : wrap64 (0 + 1) = 1 := by decide +kernel
  have a1 : wrap64 (1 + 1) = 2 := by decide +kernel
  have a2 : wrap64 (2 + 1) = 3 := by decide +kernel
  have a3 : wrap64 (3 + 1) = 4 := by decide +kernel
  have step : ∀ i : Int, i = 0 ∨ i = 1 ∨ i = 2 ∨ i = 3 → Ev (fun k => vizardlaw21_SlotsTells.l0 k l t who n [128, 256, 512, 1200] [128, 256, 512, 1200] (i + 1)) true → Ev (fun k => vizardlaw21_SlotsTells.l0 k l t who n [128, 256, 512, 1200] [128, 256, 512, 1200] i) true := by
    intro i hi h
    refine Ev.step (fun k => ?_) h
    simp only [vizardlaw21_SlotsTells.l0, List.length_cons, List.length_nil]
    rw [if_pos (by omega), if_pos (by omega), if_pos (by omega), if_pos trivial, wrap_in _ (by omega) (by omega)]
  refine (Ev.congr (f := fun k => vizardlaw21_SlotsTells.l0 k l t who n [128, 256, 512, 1200] [128, 256, 512, 1200] 0) (fun k => ?_) (step 0 (by omega) (step 1 (by omega) (step 2 (by omega) (step 3 (by omega) (last_ev l t who n (by omega))))))).rounds
  simp only [vizardlaw21_SlotsTells.f]
  rw [if_neg h1]
  rfl

end Go.Proofs.Ytkadeigcblmcaaa.Pure
