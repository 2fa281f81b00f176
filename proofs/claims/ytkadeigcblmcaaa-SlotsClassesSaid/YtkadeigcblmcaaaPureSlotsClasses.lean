/- SlotsClasses, the plain law: each number of bytes up to 1200 has the least size that holds it; for every two numbers. -/
import Derived.Test.YtkadeigcblmcaaaGoodSlotsClasses
namespace Go.Proofs.Ytkadeigcblmcaaa.Pure
open Go.RowKit Go.Proofs.Ytkadeigcblmcaaa.PSlotsClasses Go.Proofs.YtkadeigcblmcaaaW.PrintWords Go.Proofs.YtkadeigcblmcaaaW.PrintLast Go.Proofs.Ytkadeigcblmcaaa.Opening
set_option linter.unusedVariables false
set_option linter.unusedSimpArgs false
/-! ### The law -/
theorem wrap_in (x : Int) (h0 : -9223372036854775808 ≤ x) (h1 : x ≤ 9223372036854775807) : wrap64 x = x := by
  unfold wrap64
  omega
theorem u64_range (n : Int) : 0 ≤ IntKind.u64.wrap n ∧ IntKind.u64.wrap n < 18446744073709551616 := by
  rw [show IntKind.u64.wrap n = n % 18446744073709551616 by simp [IntKind.wrap, IntKind.bits, IntKind.signed]]
  omega
theorem works_ev : Ev (fun k => vizardlaw21_works.f k) true := Ev.of (fun k => vizardlaw21_works.mono k) (k := 40) (by decide +kernel)
def cls (n : Int) : Int := if n ≤ 128 then 128 else if n ≤ 256 then 256 else if n ≤ 512 then 512 else 1200
theorem class_ev (n : Int) (h0 : 0 ≤ n) (h1 : n ≤ 1200) : Ev (fun k => slots_Class.f k n) (cls n) := by
  refine Ev.of (fun k => slots_Class.mono n k) (k := 10) ?_
  have a0 : wrap64 (0 + 1) = 1 := by decide +kernel
  have a1 : wrap64 (1 + 1) = 2 := by decide +kernel
  have a2 : wrap64 (2 + 1) = 3 := by decide +kernel
  have r0 : rd [128, 256, 512, 1200] 0 = 128 := rfl
  have r1 : rd [128, 256, 512, 1200] 1 = 256 := rfl
  have r2 : rd [128, 256, 512, 1200] 2 = 512 := rfl
  have r3 : rd [128, 256, 512, 1200] 3 = 1200 := rfl
  simp only [slots_Class.f, slots_Classes.f, slots_Class.l0, Option.bind_some, List.length_cons, List.length_nil]
  rw [if_neg (by omega)]
  simp only [a0, a1, a2, r0, r1, r2, r3]
  unfold cls
  by_cases b0 : n ≤ 128
  · simp [b0]
  by_cases b1 : n ≤ 256
  · simp [b0, b1]
  by_cases b2 : n ≤ 512
  · simp [b0, b1, b2]
  simp [b0, b1, b2, h1]
theorem loop_ev (n m a b : Int) (ha : a = cls n) (h0 : 0 ≤ n) (h1 : n ≤ 1200) (hab : n ≤ m → a ≤ b) : Ev (fun k => vizardlaw21_SlotsClasses.l0 k n m a b [128, 256, 512, 1200] false 0) true := by
  refine Ev.of (fun k => (vizardlaw21_SlotsClasses.mono_l k) _ _ _ _ _ _ _) (k := 10) ?_
  have a0 : wrap64 (0 + 1) = 1 := by decide +kernel
  have a1 : wrap64 (1 + 1) = 2 := by decide +kernel
  have a2 : wrap64 (2 + 1) = 3 := by decide +kernel
  have a3 : wrap64 (3 + 1) = 4 := by decide +kernel
  have r0 : rd [128, 256, 512, 1200] 0 = 128 := rfl
  have r1 : rd [128, 256, 512, 1200] 1 = 256 := rfl
  have r2 : rd [128, 256, 512, 1200] 2 = 512 := rfl
  have r3 : rd [128, 256, 512, 1200] 3 = 1200 := rfl
  have hc : (a = 128 ∧ n ≤ 128) ∨ (a = 256 ∧ 128 < n ∧ n ≤ 256) ∨ (a = 512 ∧ 256 < n ∧ n ≤ 512) ∨ (a = 1200 ∧ 512 < n) := by
    subst ha
    unfold cls
    repeat' split
    all_goals omega
  simp only [vizardlaw21_SlotsClasses.l0, List.length_cons, List.length_nil, a0, a1, a2, a3, r0, r1, r2, r3]
  rcases hc with ⟨rfl, hc⟩ | ⟨rfl, hc, hc2⟩ | ⟨rfl, hc, hc2⟩ | ⟨rfl, hc⟩
  all_goals
    simp
    repeat' split
    all_goals first | rfl | omega | (simp at *; omega)
theorem SlotsClasses : Law.Pure := by
  intro a b _ _
  have hu := u64_range a
  have hv := u64_range b
  have e0 : Int.tmod (IntKind.u64.wrap a) 1201 = IntKind.u64.wrap a % 1201 := Int.tmod_eq_emod_of_nonneg (by omega)
  have e1 : Int.tmod (IntKind.u64.wrap b) 1201 = IntKind.u64.wrap b % 1201 := Int.tmod_eq_emod_of_nonneg (by omega)
  refine (Ev.bind works_ev ?_).rounds
  simp only [if_true]
  rw [e0, e1, wrap_in _ (by omega) (by omega), wrap_in _ (by omega) (by omega)]
  generalize hn : IntKind.u64.wrap a % 1201 = n
  generalize hm : IntKind.u64.wrap b % 1201 = m
  refine Ev.bind (class_ev n (by omega) (by omega)) (Ev.bind (class_ev m (by omega) (by omega)) ?_)
  simp only [slots_Classes.f, Option.bind_some]
  refine loop_ev n m _ _ rfl (by omega) (by omega) (fun h => ?_)
  unfold cls
  repeat' split
  all_goals omega

end Go.Proofs.Ytkadeigcblmcaaa.Pure
