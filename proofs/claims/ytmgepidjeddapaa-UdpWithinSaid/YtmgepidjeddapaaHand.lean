/- check throws, caught lays what was thrown: their contracts. -/
import Derived.Test.YtmgepidjeddapaaProg
import Derived.Test.YtmgepidjeddapaaWMore
import Derived.WalkKit
import Derived.Defers
import Derived.Recover
namespace Go.Proofs.Ytmgepidjeddapaa.Hand
open Go.RowKit Go.Proofs.YtmgepidjeddapaaW.PrintWords
set_option linter.unusedVariables false
set_option linter.unusedSimpArgs false
theorem check_ok (e : Int) (w : World) : Calls Try.prog 25 #[.bool true, .int .i64 e] w fun r w' => r = .returned (.tuple #[]) ∧ w' = w := by
  go_enter Try.func25, Try.ntmps25
  go_wp2
  go_end0
  exact ⟨rfl, rfl⟩
theorem check_throw (e : Int) (w : World) : Calls Try.prog 25 #[.bool false, .int .i64 e] w fun r w' => r = .panicked [{ v := .iface 25 (.int .i64 e), recovered := false }] ∧ w' = w := by
  have hp : ∀ w : World, (Instr.panic (.iface 25 (.int .i64 e))).run Try.prog w = .halt (.panic (.iface 25 (.int .i64 e))) w := fun _ => rfl
  go_enter Try.func25, Try.ntmps25
  go_wp2
  first | exact ⟨rfl, rfl⟩ | simp [bodyPost]
theorem check_any (b : Bool) (e : Int) (w : World) : Calls Try.prog 25 #[.bool b, .int .i64 e] w fun r w' =>
    (b = false ∧ r = .panicked [{ v := .iface 25 (.int .i64 e), recovered := false }] ∧ w = w') ∨ (b = true ∧ r = .returned (.tuple #[]) ∧ w = w') := by
  cases b
  · exact (check_throw e w).mono fun r w' ⟨h1, h2⟩ => Or.inl ⟨rfl, h1, h2.symm⟩
  · exact (check_ok e w).mono fun r w' ⟨h1, h2⟩ => Or.inr ⟨rfl, h1, h2.symm⟩
set_option maxHeartbeats 2000000 in
theorem caught_panicking (p : Addr) (x e : Int) (older : List PanicEntry) (w : World) (hc : w.cell? p = some (.int .i64 x)) (hz : w.frozen? p = false) :
    CallsD Try.prog 24 #[.pointer (some p)] (.panicking ({ v := .iface 25 (.int .i64 e), recovered := false } :: older)) w fun r u' w' =>
      r = .returned (.tuple #[]) ∧ u' = .panicking ({ v := .iface 25 (.int .i64 e), recovered := true } :: older) ∧ w' = w.setCell p (.int .i64 e) := by
  have hta : ∀ w : World, (Instr.typeAssert (.iface 25 (.int .i64 e)) 20 25 true).run Try.prog w = .ok (.tuple #[.int .i64 e, .bool true]) w := fun _ => rfl
  refine callsD_of_wpS Try.func24 rfl fun c₀ cs hu => ?_
  apply wpS_seq
  apply wpS_region
  simp [wpOpsS, go_sem, recoverD, hu, Try.ntmps24, Exit.thenS]
  refine wpS_of_wp ?_
  go_wp2
  simp [bodyPostS, results, Try.results24]
theorem caught_idle (p : Addr) (w : World) :
    CallsD Try.prog 24 #[.pointer (some p)] .returning w fun r u' w' => r = .returned (.tuple #[]) ∧ u' = .returning ∧ w' = w := by
  refine callsD_of_wpS Try.func24 rfl fun c₀ cs hu => ?_
  apply wpS_seq
  apply wpS_region
  simp [wpOpsS, go_sem, recoverD, hu, Try.ntmps24, Exit.thenS]
  refine wpS_of_wp ?_
  go_wp2
  cases c₀
  simp_all [bodyPostS, results, Try.results24]
end Go.Proofs.Ytmgepidjeddapaa.Hand
