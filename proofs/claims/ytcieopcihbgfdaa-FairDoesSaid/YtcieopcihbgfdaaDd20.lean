/- Layer 20: queues and the reference's beside one another. gen/mk_does20.py writes this text. -/
import Derived.Test.YtcieopcihbgfdaaRd20
namespace Go.Proofs.Ytcieopcihbgfdaa.Rf
open Go.RowKit Go.Proofs.YtcieopcihbgfdaaW.PrintWords Go.Proofs.YtcieopcihbgfdaaW.PrintLast Go.Proofs.YtcieopcihbgfdaaW.PrintMore Go.Proofs.Ytcieopcihbgfdaa.PFairDoes Go.Proofs.Ytcieopcihbgfdaa Go.Proofs.Ytcieopcihbgfdaa.Fair Go.Proofs.Ytcieopcihbgfdaa.Fq
set_option linter.unusedVariables false
set_option linter.unusedSimpArgs false
/-- tg: whose a block is: 0 the queues', 1 the reference's, 2 the law's own. -/
structure DD (w0 wr : World) (tg : Nat → Nat) (g gr : Nat) (s1 s2 : FS) : Prop where
  fo : FO w0 wr wr (fun b => w0.heap.size ≤ b ∧ tg b = 0) g s1
  ro : RO w0 wr wr (fun b => w0.heap.size ≤ b ∧ tg b = 1) gr s2
/-- The law's own blocks lie as they lay. -/
def Own (W w : World) (tg tg' : Nat → Nat) : Prop := ∀ b, b < W.heap.size → tg b = 2 → tg' b = 2 ∧ w.heap[b]? = W.heap[b]?
section
variable {w0 W w' : World} {tg : Nat → Nat} {g gr : Nat} {s1 s2 s' : FS}
theorem DD.bel (h : DD w0 W tg g gr s1 s2) : Below w0.heap.size w0 W := h.fo.bel
theorem DD.callq (h : DD w0 W tg g gr s1 s2) (h1 : FO w0 W w' (fun b => w0.heap.size ≤ b ∧ tg b = 0) g s') : ∃ tg', DD w0 w' tg' g gr s' s2 ∧ Own W w' tg tg' := by
  have hs := h.bel.size
  have hk := h1.keep
  refine ⟨fun b => if W.heap.size ≤ b then 0 else tg b, ⟨?_, ?_⟩, fun b hb ht => ⟨by show (if W.heap.size ≤ b then 0 else tg b) = 2; rw [if_neg (by omega)]; exact ht, hk.2 b hb (fun e => by omega)⟩⟩
  · exact FO.again2 h1 (fun k hk _ => ⟨hk.1, by split; rfl; exact hk.2⟩) (fun k hk _ => ⟨by omega, if_pos hk⟩)
  · have h2 : RO w0 W W (fun b => (w0.heap.size ≤ b ∧ tg b = 1) ∧ b < W.heap.size) gr s2 := RO.again2 h.ro (fun k hk hlt => ⟨hk, hlt⟩) (fun k hk hlt => by omega)
    have h3 := RO.other h2 h1.bel (fun k hk' hlt => hk.2 k hlt (fun e => by have := e.2; have := hk'.1.2; omega))
    exact RO.again2 h3 (fun k hk _ => ⟨hk.1.1, by rw [if_neg (by have := hk.2; omega)]; exact hk.1.2⟩) (fun k hk hlt => by omega)
theorem DD.callr (h : DD w0 W tg g gr s1 s2) (h1 : RO w0 W w' (fun b => w0.heap.size ≤ b ∧ tg b = 1) gr s') : ∃ tg', DD w0 w' tg' g gr s1 s' ∧ Own W w' tg tg' := by
  have hs := h.bel.size
  have hk := h1.keep
  refine ⟨fun b => if W.heap.size ≤ b then 1 else tg b, ⟨?_, ?_⟩, fun b hb ht => ⟨by show (if W.heap.size ≤ b then 1 else tg b) = 2; rw [if_neg (by omega)]; exact ht, hk.2 b hb (fun e => by omega)⟩⟩
  · have h2 : FO w0 W W (fun b => (w0.heap.size ≤ b ∧ tg b = 0) ∧ b < W.heap.size) g s1 := FO.again2 h.fo (fun k hk hlt => ⟨hk, hlt⟩) (fun k hk hlt => by omega)
    have h3 := FO.other h2 h1.bel (fun k hk' hlt => hk.2 k hlt (fun e => by have := e.2; have := hk'.1.2; omega))
    exact FO.again2 h3 (fun k hk _ => ⟨hk.1.1, by rw [if_neg (by have := hk.2; omega)]; exact hk.1.2⟩) (fun k hk hlt => by omega)
  · exact RO.again2 h1 (fun k hk _ => ⟨hk.1, by split; rfl; exact hk.2⟩) (fun k hk _ => ⟨by omega, if_pos hk⟩)
theorem DD.same (h : DD w0 W tg g gr s1 s2) (hb : Below W.heap.size W w') : DD w0 w' tg g gr s1 s2 :=
  ⟨FO.other h.fo (below_step h.bel hb) (fun k _ hlt => hb.block k hlt), RO.other h.ro (below_step h.bel hb) (fun k _ hlt => hb.block k hlt)⟩
theorem DD.alloc (h : DD w0 W tg g gr s1 s2) (o : Obj) : ∃ tg', DD w0 (W.alloc o) tg' g gr s1 s2 ∧ tg' W.heap.size = 2 := by
  have hb : Below W.heap.size W (W.alloc o) := below_alloc (Below.refl _ _) _
  have hB := below_step h.bel hb
  refine ⟨fun b => if W.heap.size ≤ b then 2 else tg b, ⟨?_, ?_⟩, if_pos (Nat.le_refl _)⟩
  · have h2 : FO w0 W W (fun b => (w0.heap.size ≤ b ∧ tg b = 0) ∧ b < W.heap.size) g s1 := FO.again2 h.fo (fun k hk hlt => ⟨hk, hlt⟩) (fun k hk hlt => by omega)
    exact FO.again2 (FO.other h2 hB (fun k _ hlt => hb.block k hlt)) (fun k hk _ => ⟨hk.1.1, by rw [if_neg (by have := hk.2; omega)]; exact hk.1.2⟩) (fun k hk hlt => by omega)
  · have h2 : RO w0 W W (fun b => (w0.heap.size ≤ b ∧ tg b = 1) ∧ b < W.heap.size) gr s2 := RO.again2 h.ro (fun k hk hlt => ⟨hk, hlt⟩) (fun k hk hlt => by omega)
    exact RO.again2 (RO.other h2 hB (fun k _ hlt => hb.block k hlt)) (fun k hk _ => ⟨hk.1.1, by rw [if_neg (by have := hk.2; omega)]; exact hk.1.2⟩) (fun k hk hlt => by omega)
end
theorem dd_start {w w1 w2 : World} {g gr : Nat} {s : FS} (h : FA w w1 g s) (h2 : RO w w1 w2 (fun _ => False) gr s) : ∃ tg, DD w w2 tg g gr s s := by
  have hs := h.bel.size
  refine ⟨fun b => if w1.heap.size ≤ b then 1 else 0, ?_, ?_⟩
  · have h3 : FO w w1 w1 (fun b => w.heap.size ≤ b ∧ b < w1.heap.size) g s := FO.again2 h (fun k hk hlt => ⟨hk, hlt⟩) (fun k hk hlt => by omega)
    exact FO.again2 (FO.other h3 h2.bel (fun k _ hlt => h2.keep.2 k hlt (fun e => e))) (fun k hk _ => ⟨hk.1, by rw [if_neg (by have := hk.2; omega)]⟩) (fun k hk hlt => by omega)
  · exact RO.again2 h2 (fun k hk _ => hk.elim) (fun k hk _ => ⟨by omega, if_pos hk⟩)
section
variable {w0 W : World} {tg : Nat → Nat} {g gr : Nat} {s1 s2 : FS}
theorem push_d {id : Int} {t : ByteArray} (h : DD w0 W tg g gr s1 s2) (hi : FI s1) (hk : (Lit.int .i64 id).wf = true) (hl : s1.st.length ≤ 100000) :
    Calls Try.prog 10 #[.pointer (some ⟨g, 0, none⟩), .int .i64 id, .string t] W fun e w' => e = .returned (.int .i64 (pushE s1 id t)) ∧ ∃ tg', DD w0 w' tg' g gr (pushS s1 id t) s2 ∧ Own W w' tg tg' := by
  refine (push_c g id t s1 _ w0 W h.fo hi hk hl).mono ?_
  rintro e w1 ⟨rfl, h1⟩
  exact ⟨rfl, h.callq h1⟩
theorem next_d (h : DD w0 W tg g gr s1 s2) (hi : FI s1) (hl : s1.st.length ≤ 100000) {i : Int} {t : ByteArray} {b : Bool} {s' : FS} (hn : nextV s1 = ((i, t, b), s')) :
    Calls Try.prog 11 #[.pointer (some ⟨g, 0, none⟩)] W fun e w' => e = .returned (.tuple #[.int .i64 i, .string t, .bool b]) ∧ ∃ tg', DD w0 w' tg' g gr s' s2 ∧ Own W w' tg tg' := by
  refine (next_c g s1 _ w0 W h.fo hi hl).mono ?_
  rintro e w1 ⟨rfl, h1⟩
  rw [hn] at h1 ⊢
  exact ⟨rfl, h.callq h1⟩
theorem drop_d {id : Int} (h : DD w0 W tg g gr s1 s2) (hi : FI s1) (hk : (Lit.int .i64 id).wf = true) (hl : s1.st.length ≤ 100000) :
    Calls Try.prog 16 #[.pointer (some ⟨g, 0, none⟩), .int .i64 id] W fun e w' => e = .returned (.int .i64 (dropE s1 id)) ∧ ∃ tg', DD w0 w' tg' g gr (dropS s1 id) s2 ∧ Own W w' tg tg' := by
  refine (drop_c g id s1 _ w0 W h.fo hi hk hl).mono ?_
  rintro e w1 ⟨rfl, h1⟩
  exact ⟨rfl, h.callq h1⟩
theorem count_d (h : DD w0 W tg g gr s1 s2) (hi : FI s1) (hl : s1.st.length ≤ 100000) :
    Calls Try.prog 12 #[.pointer (some ⟨g, 0, none⟩)] W fun e w' => e = .returned (.int .i64 (countL s1.st : Int)) ∧ ∃ tg', DD w0 w' tg' g gr s1 s2 ∧ Own W w' tg tg' := by
  refine (count_c g s1 _ w0 W h.fo hi hl).mono ?_
  rintro e w1 ⟨rfl, h1, _⟩
  exact ⟨rfl, h.callq h1⟩
theorem rpush_d {id : Int} {t : ByteArray} (h : DD w0 W tg g gr s1 s2) (hi : FI s2) (hk : (Lit.int .i64 id).wf = true) (hl : s2.st.length ≤ 100000) :
    Calls Try.prog 14 #[.pointer (some ⟨gr, 0, none⟩), .int .i64 id, .string t] W fun e w' => e = .returned (.int .i64 (pushE s2 id t)) ∧ ∃ tg', DD w0 w' tg' g gr s1 (pushS s2 id t) ∧ Own W w' tg tg' := by
  refine (rpush_c gr id t s2 _ w0 W h.ro hi hk hl).mono ?_
  rintro e w1 ⟨rfl, h1⟩
  exact ⟨rfl, h.callr h1⟩
theorem rnext_d (h : DD w0 W tg g gr s1 s2) (hi : FI s2) (hl : s2.st.length ≤ 100000) {i : Int} {t : ByteArray} {b : Bool} {s' : FS} (hn : nextV s2 = ((i, t, b), s')) :
    Calls Try.prog 15 #[.pointer (some ⟨gr, 0, none⟩)] W fun e w' => e = .returned (.tuple #[.int .i64 i, .string t, .bool b]) ∧ ∃ tg', DD w0 w' tg' g gr s1 s' ∧ Own W w' tg tg' := by
  refine (rnext_c gr s2 _ w0 W h.ro hi hl).mono ?_
  rintro e w1 ⟨rfl, h1⟩
  rw [hn] at h1 ⊢
  exact ⟨rfl, h.callr h1⟩
theorem rdrop_d {id : Int} (h : DD w0 W tg g gr s1 s2) (hi : FI s2) (hl : s2.st.length ≤ 100000) :
    Calls Try.prog 17 #[.pointer (some ⟨gr, 0, none⟩), .int .i64 id] W fun e w' => e = .returned (.int .i64 (dropE s2 id)) ∧ ∃ tg', DD w0 w' tg' g gr s1 (dropS s2 id) ∧ Own W w' tg tg' := by
  refine (rdrop_c gr id s2 _ w0 W h.ro hi hl).mono ?_
  rintro e w1 ⟨rfl, h1⟩
  exact ⟨rfl, h.callr h1⟩
theorem rcount_d (h : DD w0 W tg g gr s1 s2) (hi : FI s2) (hl : s2.st.length ≤ 100000) :
    Calls Try.prog 18 #[.pointer (some ⟨gr, 0, none⟩)] W fun e w' => e = .returned (.int .i64 (countL s2.st : Int)) ∧ ∃ tg', DD w0 w' tg' g gr s1 s2 ∧ Own W w' tg tg' := by
  refine (rcount_c gr s2 _ w0 W h.ro hi hl).mono ?_
  rintro e w1 ⟨rfl, h1⟩
  exact ⟨rfl, h.callr h1⟩
end
theorem push_len (s : FS) (id : Int) (t : ByteArray) (hi : FI s) : (pushS s id t).st.length ≤ s.st.length + 1 := by
  by_cases h : pushE s id t = 0
  · exact (pushL h hi).2.2
  · rw [push_no h]; omega
theorem next_len (s : FS) (hi : FI s) : (nextV s).2.st.length ≤ s.st.length := by
  have h := nextL (got hi) hi
  by_cases hs : s.st = []
  · rw [h.none hs]; exact Nat.le_refl _
  · exact (h.some hs).2.2.2.2.2
end Go.Proofs.Ytcieopcihbgfdaa.Rf
