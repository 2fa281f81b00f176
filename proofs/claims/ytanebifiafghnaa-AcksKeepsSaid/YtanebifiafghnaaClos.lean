/- Layer 8: the function values of acks.Set.Add. -/
import Derived.Test.YtanebifiafghnaaRows08
import Derived.BigRegion
namespace Go.Proofs.Ytanebifiafghnaa.Ack
open Go.RowKit Go.Deep Go.Proofs.YtanebifiafghnaaW.PrintWords Go.Proofs.YtanebifiafghnaaW.PrintLast Go.Proofs.YtanebifiafghnaaW.PrintMore Go.Proofs.Ytanebifiafghnaa.PAcksRight Go.Proofs.Ytanebifiafghnaa
set_option linter.unusedVariables false
set_option linter.unusedSimpArgs false
theorem at35 {w : World} {A : Option Addr} {xs : List S35} (h : Kd.C k35 w A xs.length xs) (i : Nat) (h1 : i < xs.length) : ∃ ad, A = some ad ∧ w.cell? (ad.add (i * 2)) = some (.int .i64 (xs.getD i z35).f0) ∧ w.cell? ⟨(ad.add (i * 2)).block, (ad.add (i * 2)).off + 1, none⟩ = some (.int .i64 (xs.getD i z35).f1) := by
  obtain ⟨ad, e, c0, c1⟩ := at_T35 h (i : Int) (by omega) (by omega)
  unfold rd_T35 at c0 c1
  rw [Int.toNat_natCast] at c0 c1
  exact ⟨ad, e, c0, c1⟩
/-- What the function values of Add see. -/
structure See (W : World) (bS bN g c : Nat) (A : Option Addr) (l : List S35) (n : Int) : Prop where
  s : W.heap[bS]? = some (.cells #[.pointer (some ⟨g, 0, none⟩)] 29 (0, 0))
  n : W.heap[bN]? = some (.cells #[.int .i64 n] 2 (0, 0))
  g : W.heap[g]? = some (.cells #[.slice A l.length c] 51 (0, 0))
  row : Kd.C k35 W A l.length l
theorem See.below {W W2 : World} {bS bN g c : Nat} {A : Option Addr} {l : List S35} {n : Int} (h : See W bS bN g c A l n) (hb : Below W.heap.size W W2) : See W2 bS bN g c A l n := ⟨blk_below h.s hb, blk_below h.n hb, blk_below h.g hb, Kd.C_below h.row hb⟩
structure CloF (n i : Nat) (x y : Int) : Prop where
  q1 : ((0 : Int) ≤ (i : Int)) = True
  q2 : ((i : Int) < (n : Int)) = True
  q3 : (i < n) = True
  w1 : wrap64 (x - y) = x - y ∧ IntKind.i64.wrap (x - y) = x - y
theorem cloF {n i : Nat} {x y : Int} (h : i < n) (h0 : 0 ≤ x) (h1 : x ≤ 4611686018427387903) (h2 : 0 ≤ y) (h3 : y ≤ 4611686018427387903) : CloF n i x y := by
  have hw : wrap64 (x - y) = x - y := by unfold wrap64; omega
  exact ⟨eq_true (by omega), eq_true (by omega), eq_true h, hw, (i64_w _).trans hw⟩
set_option maxHeartbeats 8000000 in
set_option maxRecDepth 100000 in
theorem add1_c (W : World) (bS bN g c i : Nat) (A : Option Addr) (l : List S35) (hi : Int) (h : See W bS bN g c A l hi) (hl : i < l.length) (h0 : 0 ≤ (l.getD i z35).f0) (h1 : (l.getD i z35).f0 ≤ 4611686018427387903) (h2 : 0 ≤ hi) (h3 : hi ≤ 4611686018427387903) :
    Calls Try.prog 23 #[.int .i64 i, .pointer (some ⟨bS, 0, none⟩), .pointer (some ⟨bN, 0, none⟩)] W fun e w' => e = .returned (.bool (decide ((l.getD i z35).f0 ≤ hi + 1))) ∧ ∃ q, w' = W.drewN q := by
  obtain ⟨ad, hA, x0, x1⟩ := at35 h.row i hl
  have cS := (show _ = some (Value.pointer (some ⟨g, 0, none⟩)) from (blk_cell h.s 0).trans rfl)
  have cN := (show _ = some (Value.int .i64 hi) from (blk_cell h.n 0).trans rfl)
  have cG := (show _ = some (Value.slice A l.length c) from (blk_cell h.g 0).trans rfl)
  obtain ⟨q1, q2, q3, hw1, hw2⟩ := cloF hl h0 h1 h2 h3
  generalize (l.getD i z35).f0 = x at x0 h0 h1 hw1 hw2 ⊢
  have hcase : (decide (x ≤ hi) = true ∧ decide (x ≤ hi + 1) = true) ∨ (decide (x ≤ hi) = false ∧ decide (x ≤ hi + 1) = true ∧ (x - hi == 1) = true) ∨ (decide (x ≤ hi) = false ∧ decide (x ≤ hi + 1) = false ∧ (x - hi == 1) = false) := by
    clear hw1 hw2 q1 q2 q3
    by_cases a : x ≤ hi
    · exact .inl ⟨decide_eq_true a, decide_eq_true (by omega)⟩
    · by_cases b : x ≤ hi + 1
      · exact .inr (.inl ⟨decide_eq_false a, decide_eq_true b, beq_iff_eq.2 (by omega)⟩)
      · exact .inr (.inr ⟨decide_eq_false a, decide_eq_false b, beq_eq_false_iff_ne.2 (by omega)⟩)
  subst hA
  clear h hl h0 h1 h2 h3
  rcases hcase with ⟨d1, d2⟩ | ⟨d1, d2, d3⟩ | ⟨d1, d2, d3⟩
  all_goals
    rw [d2]
    go_enter Try.func23, Try.ntmps23
    go_wp2_with (fail)
    go_region
    simp only [Exit.then]
    go_wp2_with (fail)
    go_ret
    exact ⟨rfl, 1, rfl⟩
set_option maxHeartbeats 8000000 in
set_option maxRecDepth 100000 in
theorem add2_c (W : World) (bS bN g c i : Nat) (A : Option Addr) (l : List S35) (lo : Int) (h : See W bS bN g c A l lo) (hl : i < l.length) (h0 : 0 ≤ (l.getD i z35).f1) (h1 : (l.getD i z35).f1 ≤ 4611686018427387903) (h2 : 0 ≤ lo) (h3 : lo ≤ 4611686018427387903) :
    Calls Try.prog 24 #[.int .i64 i, .pointer (some ⟨bS, 0, none⟩), .pointer (some ⟨bN, 0, none⟩)] W fun e w' => e = .returned (.bool (decide ((l.getD i z35).f1 + 1 < lo))) ∧ ∃ q, w' = W.drewN q := by
  obtain ⟨ad, hA, x0, x1⟩ := at35 h.row i hl
  have cS := (show _ = some (Value.pointer (some ⟨g, 0, none⟩)) from (blk_cell h.s 0).trans rfl)
  have cN := (show _ = some (Value.int .i64 lo) from (blk_cell h.n 0).trans rfl)
  have cG := (show _ = some (Value.slice A l.length c) from (blk_cell h.g 0).trans rfl)
  obtain ⟨q1, q2, q3, hw1, hw2⟩ := cloF hl h2 h3 h0 h1
  generalize (l.getD i z35).f1 = x at x1 h0 h1 hw1 hw2 ⊢
  have hcase : (decide (x < lo) = false ∧ decide (x + 1 < lo) = false) ∨ (decide (x < lo) = true ∧ decide (x + 1 < lo) = true ∧ decide (lo - x > 1) = true ∧ decide (1 < lo - x) = true) ∨ (decide (x < lo) = true ∧ decide (x + 1 < lo) = false ∧ decide (lo - x > 1) = false ∧ decide (1 < lo - x) = false) := by
    clear hw1 hw2 q1 q2 q3
    by_cases a : x < lo
    · by_cases b : x + 1 < lo
      · exact .inr (.inl ⟨decide_eq_true a, decide_eq_true b, decide_eq_true (by omega), decide_eq_true (by omega)⟩)
      · exact .inr (.inr ⟨decide_eq_true a, decide_eq_false b, decide_eq_false (by omega), decide_eq_false (by omega)⟩)
    · exact .inl ⟨decide_eq_false a, decide_eq_false (by omega)⟩
  subst hA
  clear h hl h0 h1 h2 h3
  rcases hcase with ⟨d1, d2⟩ | ⟨d1, d2, d3, d4⟩ | ⟨d1, d2, d3, d4⟩
  all_goals
    rw [d2]
    go_enter Try.func24, Try.ntmps24
    go_wp2_with (fail)
    go_region
    simp only [Exit.then]
    go_wp2_with (fail)
    go_ret
    exact ⟨rfl, 1, rfl⟩
end Go.Proofs.Ytanebifiafghnaa.Ack
