/- Layer 20: the contracts, their results named. gen/mk_full20.py writes this text. -/
import Derived.Test.YtcieopcihbgfdaaAl20
namespace Go.Proofs.Ytcieopcihbgfdaa.Fq
open Go.RowKit Go.Proofs.YtcieopcihbgfdaaW.PrintWords Go.Proofs.YtcieopcihbgfdaaW.PrintLast Go.Proofs.YtcieopcihbgfdaaW.PrintMore Go.Proofs.Ytcieopcihbgfdaa.PFairDoes Go.Proofs.Ytcieopcihbgfdaa Go.Proofs.Ytcieopcihbgfdaa.Fair
set_option linter.unusedVariables false
set_option linter.unusedSimpArgs false
theorem push_b {g : Nat} {s s' : FS} {w0 W : World} {e : Int} (id : Int) (t : ByteArray) (h : FA w0 W g s) (hi : FI s) (hk : (Lit.int .i64 id).wf = true) (hl : s.st.length ≤ 100000) (he : pushE s id t = e) (hs : pushS s id t = s') :
    Calls Try.prog 10 #[.pointer (some ⟨g, 0, none⟩), .int .i64 id, .string t] W fun e' w' => e' = .returned (.int .i64 e) ∧ FA w0 w' g s' := by
  subst he; subst hs
  exact push_a id t h hi hk hl
theorem drop_b {g : Nat} {s s' : FS} {w0 W : World} {e : Int} (id : Int) (h : FA w0 W g s) (hi : FI s) (hk : (Lit.int .i64 id).wf = true) (hl : s.st.length ≤ 100000) (he : dropE s id = e) (hs : dropS s id = s') :
    Calls Try.prog 16 #[.pointer (some ⟨g, 0, none⟩), .int .i64 id] W fun e' w' => e' = .returned (.int .i64 e) ∧ FA w0 w' g s' := by
  subst he; subst hs
  exact drop_a id h hi hk hl
theorem count_b {g : Nat} {s : FS} {w0 W : World} {n : Nat} (h : FA w0 W g s) (hi : FI s) (hl : s.st.length ≤ 100000) (hn : countL s.st = n) :
    Calls Try.prog 12 #[.pointer (some ⟨g, 0, none⟩)] W fun e w' => e = .returned (.int .i64 (n : Int)) ∧ FA w0 w' g s := by
  subst hn
  exact count_a h hi hl
end Go.Proofs.Ytcieopcihbgfdaa.Fq
