/- AcksChecks, the plain law: of any ranges the program and the reference tell the same fault, and the ranges stay as they are. -/
import Derived.Test.YtanebifiafghnaaGoodAcksChecks
namespace Go.Proofs.Ytanebifiafghnaa.Pure
open Go.RowKit Go.Proofs.Ytanebifiafghnaa.PAcksChecks Go.Proofs.YtanebifiafghnaaW.PrintWords Go.Proofs.YtanebifiafghnaaW.PrintLast Go.Proofs.Ytanebifiafghnaa.Opening
set_option linter.unusedVariables false
set_option linter.unusedSimpArgs false
theorem wrap_in (x : Int) (h0 : -9223372036854775808 ≤ x) (h1 : x ≤ 9223372036854775807) : wrap64 x = x := by
  unfold wrap64
  omega
theorem mx_eq (a b : Int) : mx a b = if a < b then b else a := rfl
theorem mn_eq (a b : Int) : mn a b = if b < a then b else a := rfl
theorem u64_eq (n : Int) : IntKind.u64.wrap n = n % 18446744073709551616 := by simp [IntKind.wrap, IntKind.bits, IntKind.signed]
theorem u64_range (n : Int) : 0 ≤ IntKind.u64.wrap n ∧ IntKind.u64.wrap n < 18446744073709551616 := by
  rw [u64_eq]
  omega
theorem u32_eq (n : Int) : IntKind.u32.wrap n = n % 4294967296 := by simp [IntKind.wrap, IntKind.bits, IntKind.signed]
def Fine (a b : Int) : Prop := 0 ≤ a ∧ a ≤ b ∧ b ≤ 4611686018427387903
instance (a b : Int) : Decidable (Fine a b) := by unfold Fine; infer_instance
theorem fine_a (a b : Int) : acks_fine.f a b = some (decide (Fine a b)) := by
  unfold acks_fine.f Fine
  repeat' split
  all_goals first
    | exact congrArg some (decide_eq_decide.2 (by omega))
    | exact congrArg some (decide_eq_false (by omega)).symm
theorem fine_r (a b : Int) : vizardref08_fine.f a b = some (decide (Fine a b)) := by
  unfold vizardref08_fine.f Fine
  repeat' split
  all_goals first
    | exact congrArg some (decide_eq_decide.2 (by omega))
    | exact congrArg some (decide_eq_false (by omega)).symm
theorem check_loop (l : List S35) (hl : l.length ≤ 16) (hg : ∀ y ∈ l, good35 y) (d : Nat) : ∀ i : Nat, l.length - i = d → i ≤ l.length → (0 < i → Fine (rd_T35 l ((i : Int) - 1)).f0 (rd_T35 l ((i : Int) - 1)).f1) →
    ∃ c, Ev (fun k => acks_Check.l0 k l l (l.length : Int) i) c ∧ Ev (fun k => vizardref08_Check.l0 k l i) c := by
  induction d with
  | zero =>
    intro i hd hi hf
    refine ⟨0, Ev.step (f := fun _ => some 0) (fun k => ?_) (Ev.now _), Ev.step (f := fun _ => some 0) (fun k => ?_) (Ev.now _)⟩
    · simp only [acks_Check.l0]; rw [if_neg (by omega)]
    · simp only [vizardref08_Check.l0]; rw [if_neg (by omega)]
  | succ d ih =>
    intro i hd hi hf
    have hi2 : i < l.length := by omega
    by_cases hfi : Fine (rd_T35 l i).f0 (rd_T35 l i).f1
    · have go : (0 < i → (rd_T35 l i).f1 < (rd_T35 l ((i : Int) - 1)).f0 - 1) → ∃ c, Ev (fun k => acks_Check.l0 k l l (l.length : Int) i) c ∧ Ev (fun k => vizardref08_Check.l0 k l i) c := by
        intro hok
        obtain ⟨c, h1, h2⟩ := ih (i + 1) (by omega) (by omega) (fun _ => by rw [show ((i + 1 : Nat) : Int) - 1 = i by omega]; exact hfi)
        refine ⟨c, Ev.step (fun k => ?_) h1, Ev.step (fun k => ?_) h2⟩
        · simp only [acks_Check.l0]
          rw [if_pos (by omega), if_pos (by omega), if_pos (by omega), fine_a, Option.bind_some, if_pos (by simpa using hfi)]
          by_cases h0 : (i : Int) > 0
          · have hp := hf (by omega)
            have ho := hok (by omega)
            unfold Fine at hp hfi
            rw [if_pos h0, wrap_in _ (by omega) (by omega), if_pos (by omega), if_pos (by omega), wrap_in _ (by omega) (by omega), if_neg (by omega), wrap_in _ (by omega) (by omega)]
            rfl
          · rw [if_neg h0, wrap_in _ (by omega) (by omega)]
            rfl
        · simp only [vizardref08_Check.l0]
          rw [if_pos (by omega), if_pos (by omega), fine_r, Option.bind_some, if_pos (by simpa using hfi)]
          by_cases h0 : (i : Int) > 0
          · have hp := hf (by omega)
            have ho := hok (by omega)
            unfold Fine at hp hfi
            rw [if_pos h0, wrap_in ((i : Int) - 1) (by omega) (by omega), if_pos (by omega), if_pos (by omega), if_neg (by omega), wrap_in _ (by omega) (by omega), if_neg (by omega), wrap_in _ (by omega) (by omega)]
            rfl
          · rw [if_neg h0, wrap_in _ (by omega) (by omega)]
            rfl
      by_cases h0 : 0 < i
      · by_cases hlt : (rd_T35 l i).f1 < (rd_T35 l ((i : Int) - 1)).f0 - 1
        · exact go (fun _ => hlt)
        · refine ⟨2, Ev.step (f := fun _ => some 2) (fun k => ?_) (Ev.now _), Ev.step (f := fun _ => some 2) (fun k => ?_) (Ev.now _)⟩
          · simp only [acks_Check.l0]
            have hp := hf h0
            unfold Fine at hp
            rw [if_pos (by omega), if_pos (by omega), if_pos (by omega), fine_a, Option.bind_some, if_pos (by simpa using hfi)]
            unfold Fine at hfi
            rw [if_pos (by omega), wrap_in _ (by omega) (by omega), if_pos (by omega), if_pos (by omega), wrap_in _ (by omega) (by omega), if_pos (by omega)]
          · simp only [vizardref08_Check.l0]
            have hp := hf h0
            unfold Fine at hp
            rw [if_pos (by omega), if_pos (by omega), fine_r, Option.bind_some, if_pos (by simpa using hfi)]
            unfold Fine at hfi
            rw [if_pos (by omega), wrap_in ((i : Int) - 1) (by omega) (by omega), if_pos (by omega), if_pos (by omega)]
            by_cases hge : (rd_T35 l i).f1 ≥ (rd_T35 l ((i : Int) - 1)).f0
            · rw [if_pos hge]
            · rw [if_neg hge, wrap_in _ (by omega) (by omega), if_pos (by omega)]
      · exact go (fun h => absurd h h0)
    · refine ⟨2, Ev.step (f := fun _ => some 2) (fun k => ?_) (Ev.now _), Ev.step (f := fun _ => some 2) (fun k => ?_) (Ev.now _)⟩
      · simp only [acks_Check.l0]
        rw [if_pos (by omega), if_pos (by omega), if_pos (by omega), fine_a, Option.bind_some, if_neg (by simpa using hfi)]
      · simp only [vizardref08_Check.l0]
        rw [if_pos (by omega), if_pos (by omega), fine_r, Option.bind_some, if_neg (by simpa using hfi)]
theorem same_loop (l : List S35) (hl : l.length * 16 ≤ 140737488351232) (d : Nat) : ∀ i : Nat, l.length - i = d → i ≤ l.length → Ev (fun k => vizardref08_Same.l0 k l l i) true := by
  induction d with
  | zero =>
    intro i hd hi
    refine Ev.step (f := fun _ => some true) (fun k => ?_) (Ev.now _)
    simp only [vizardref08_Same.l0]; rw [if_neg (by omega)]
  | succ d ih =>
    intro i hd hi
    refine Ev.step (fun k => ?_) (ih (i + 1) (by omega) (by omega))
    simp only [vizardref08_Same.l0]
    rw [if_pos (by omega), if_pos (by omega), if_pos (by omega), if_neg (by simp), wrap_in _ (by omega) (by omega)]
    rfl
theorem check_both (l : List S35) (hg : ∀ y ∈ l, good35 y) : ∃ c, Ev (fun k => acks_Check.f k l) c ∧ Ev (fun k => vizardref08_Check.f k l) c := by
  by_cases h : (l.length : Int) > 16
  · refine ⟨8, Ev.congr (f := fun _ => some 8) (fun k => ?_) (Ev.now _), Ev.congr (f := fun _ => some 8) (fun k => ?_) (Ev.now _)⟩
    · simp only [acks_Check.f]; rw [if_pos h]
    · simp only [vizardref08_Check.f]; rw [if_pos h]
  · obtain ⟨c, h1, h2⟩ := check_loop l (by omega) hg l.length 0 (by omega) (by omega) (fun h => by omega)
    refine ⟨c, Ev.congr (fun k => ?_) h1, Ev.congr (fun k => ?_) h2⟩
    · simp only [acks_Check.f]; rw [if_neg h]; rfl
    · simp only [vizardref08_Check.f]; rw [if_neg h]; rfl
theorem same_self (l : List S35) (hl : l.length * 16 ≤ 140737488351232) : Ev (fun k => vizardref08_Same.f k l l) true := by
  refine Ev.congr (fun k => ?_) (same_loop l hl l.length 0 (by omega) (by omega))
  simp only [vizardref08_Same.f]
  rw [if_pos trivial]
  rfl
theorem AcksChecks : Law.Pure := by
  intro l hl
  obtain ⟨c, h1, h2⟩ := check_both l hl.2
  refine (Ev.congr (f := fun k => (acks_Check.f k l).bind fun t120 => ((vizardref08_Check.f k l).bind fun t121 => (if t120 = t121 then ((vizardref08_Same.f k l l).bind fun t122 => (some t122)) else (some false)))) (fun k => ?_) (Ev.bind h1 (Ev.bind h2 ?_))).rounds
  · have := hl.1
    simp only [vizardlaw08_AcksChecks.f, Option.bind_some]
    rw [if_pos (by simp; omega)]
    rfl
  · simp only [if_true]
    exact Ev.bind (same_self l hl.1) (Ev.now _)

end Go.Proofs.Ytanebifiafghnaa.Pure
