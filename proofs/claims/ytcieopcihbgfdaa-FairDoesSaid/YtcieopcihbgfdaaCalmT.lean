/- A region that draws its order, gated (CalmG), whose tail comes in more than one order: a tree of orders. -/
import Derived.Test.YtcieopcihbgfdaaCalmG
namespace Go.Proofs.Ytcieopcihbgfdaa.Calm
open Go
set_option linter.unusedVariables false
inductive Tr where
  | done : Tr
  | lin : List Nat → Tr → Tr
  | two : Nat → Tr → Nat → Tr → Tr
section
variable {P : Program} {ops : Array Oper} {Q : Exit → Act → World → Prop}
def wpTr (P : Program) (ops : Array Oper) (Q : Exit → Act → World → Prop) (S : Nat → World → Prop) (IS : List Nat) (Kt : Act → World → Prop) : Tr → Act → World → Prop
  | .done, a, w => Kt a w
  | .lin js t, a, w => wpTailG P ops Q S IS (wpTr P ops Q S IS Kt t) js a w
  | .two j t k u, a, w => wpTailG P ops Q S IS (wpTr P ops Q S IS Kt t) [j] a w ∧ wpTailG P ops Q S IS (wpTr P ops Q S IS Kt u) [k] a w
def trN : Tr → Nat
  | .done => 0
  | .lin js t => js.length + trN t
  | .two j t k u => trN t + 1
def trI (IS : List Nat) : Tr → Bool
  | .done => true
  | .lin js t => js.all (fun j => !IS.contains j) && trI IS t
  | .two j t k u => !IS.contains j && !IS.contains k && trI IS t && trI IS u
def trB (ops : Array Oper) : Tr → Array Bool → Bool
  | .done, listed => (Region.ready .any ops listed).isEmpty
  | .lin js t, listed => seqT ops js listed && trB ops t (setAll js listed)
  | .two j t k u, listed => decide (Region.ready .any ops listed = [j, k]) && decide (trN t = trN u) && trB ops t (listed.setIfInBounds j true) && trB ops u (listed.setIfInBounds k true)
theorem one_any {IS : List Nat} {S : Nat → World → Prop} {Kt : Act → World → Prop} {n : Nat} {j : Nat} {listed : Array Bool} {a : Act} {w : World} (hn : IS.contains j = false) (hk : ∀ a w, Kt a w → wpAnyG P .any ops Q (Tst IS (desc .any ops) S) n (listed.setIfInBounds j true) a w) (h : wpTailG P ops Q S IS Kt [j] a w) :
    wpOp P ops Q j (fun a' w' => Tst IS (desc .any ops) S j w w' ∧ wpAnyG P .any ops Q (Tst IS (desc .any ops) S) n (listed.setIfInBounds j true) a' w') a w := by
  refine wpOp_mono (fun a' w' h' => ⟨?_, hk a' w' h'.2⟩) h
  unfold Tst
  rw [if_neg (by rw [hn]; simp)]
  intro k hk hc
  refine allS_mem h'.1 k ?_
  unfold pend
  rw [List.mem_filter]
  exact ⟨hk, by rw [hc]; rfl⟩
theorem tr_any {IS : List Nat} {S : Nat → World → Prop} : ∀ (t : Tr) (listed : Array Bool) (a : Act) (w : World), trI IS t = true → trB ops t listed = true → wpTr P ops Q S IS (Q .normal) t a w → wpAnyG P .any ops Q (Tst IS (desc .any ops) S) (trN t) listed a w
  | .done, listed, a, w, _, hB, h => ⟨by simpa [trB] using hB, h⟩
  | .lin js t, listed, a, w, hI, hB, h => by
    simp only [trB, Bool.and_eq_true] at hB
    simp only [trI, Bool.and_eq_true] at hI
    exact tailG_any js listed a w (fun j hj => by have := List.all_eq_true.1 hI.1 j hj; simpa using this) hB.1 (fun a w hk => tr_any t _ a w hI.2 hB.2 hk) h
  | .two j t k u, listed, a, w, hI, hB, h => by
    simp only [trB, Bool.and_eq_true, decide_eq_true_eq] at hB
    simp only [trI, Bool.and_eq_true] at hI
    obtain ⟨⟨⟨hr, hN⟩, hBt⟩, hBu⟩ := hB
    obtain ⟨⟨⟨hj, hk⟩, hIt⟩, hIu⟩ := hI
    have hj' : IS.contains j = false := by simpa using hj
    have hk' : IS.contains k = false := by simpa using hk
    refine ⟨fun h1 => (by rw [hr] at h1; cases h1), fun i hi => ?_⟩
    rw [hr] at hi
    rcases List.mem_cons.1 hi with rfl | hi
    · exact one_any hj' (fun a w hh => tr_any t _ a w hIt hBt hh) h.1
    · obtain rfl := List.mem_singleton.1 hi
      refine one_any hk' (fun a w hh => ?_) h.2
      show wpAnyG P .any ops Q _ (trN t) _ a w
      rw [hN]
      exact tr_any u _ a w hIu hBu hh
def trGB (ops : Array Oper) (is : List Nat) (t : Tr) : Bool := Region.noSelect ops && decide (is.length + trN t = ops.size) && trI is t && lexT ops is (Array.replicate ops.size false) && trB ops t (setAll is (Array.replicate ops.size false))
theorem wp_region_trC {id : Nat} {a : Act} {w : World} (C : List (Nat × (World → Prop))) (is : List Nat) (t : Tr) (hm : P.follows .mixedOrders = true) (hB : trGB ops is t = true) (hS : allC w.drew C)
    (h : wpCalmG P ops (SC C) (fun a' => wpTr P ops (Tame (Q .normal)) (SC C) is (Q .normal) t a' w.drew) is a) : (Code.region id ops true).wp P Q a w := by
  simp only [trGB, Bool.and_eq_true, decide_eq_true_eq] at hB
  obtain ⟨⟨⟨⟨hsel, hn⟩, hI⟩, hl⟩, hT⟩ := hB
  refine Code.wp_mono (Q := Tame (Q .normal)) (fun e a w he => ?_) ?_
  · cases e <;> first | exact he | exact absurd he (by simp [Tame])
  have H := calmG_any (P := P) (Q := Tame (Q .normal)) (IS := is) hsel (fun c a w hh => hh) (n := trN t) is (Array.replicate ops.size false) a (fun i hi => hi) (allS_mem (allS_of hS is)) hl (fun a' hh => tr_any t _ a' w.drew hI hT hh) h
  rw [hn] at H
  exact wp_region_any hm (wpAny_of_G _ _ _ _ H)
theorem tr_done {S : Nat → World → Prop} {IS : List Nat} {Kt : Act → World → Prop} {a : Act} {w : World} (h : Kt a w) : wpTr P ops Q S IS Kt .done a w := h
theorem tr_lin {S : Nat → World → Prop} {IS : List Nat} {Kt : Act → World → Prop} {js : List Nat} {t : Tr} {a : Act} {w : World} (h : wpTailG P ops Q S IS (wpTr P ops Q S IS Kt t) js a w) : wpTr P ops Q S IS Kt (.lin js t) a w := h
theorem tr_two {S : Nat → World → Prop} {IS : List Nat} {Kt : Act → World → Prop} {j k : Nat} {t u : Tr} {a : Act} {w : World} (h : wpTailG P ops Q S IS (wpTr P ops Q S IS Kt t) [j] a w) (h2 : wpTailG P ops Q S IS (wpTr P ops Q S IS Kt u) [k] a w) : wpTr P ops Q S IS Kt (.two j t k u) a w := ⟨h, h2⟩
end
end Go.Proofs.Ytcieopcihbgfdaa.Calm
