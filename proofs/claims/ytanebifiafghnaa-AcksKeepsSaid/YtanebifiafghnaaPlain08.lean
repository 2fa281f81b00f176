/- Layer 8: what Add leaves is right again; plain Lean. -/
import Derived.Test.YtanebifiafghnaaHas08
namespace Go.Proofs.Ytanebifiafghnaa.Ack
open Go.RowKit Go.Deep Go.Proofs.YtanebifiafghnaaW.PrintWords Go.Proofs.YtanebifiafghnaaW.PrintLast Go.Proofs.YtanebifiafghnaaW.PrintMore Go.Proofs.Ytanebifiafghnaa.PAcksRight Go.Proofs.Ytanebifiafghnaa
set_option linter.unusedVariables false
set_option linter.unusedSimpArgs false
theorem mem_take {l : List S35} {k : Nat} {a : S35} (h : a ∈ l.take k) : ∃ i, i < k ∧ i < l.length ∧ a = l.getD i z35 := by
  obtain ⟨i, hi, he⟩ := List.mem_take_iff_getElem.1 h
  exact ⟨i, by omega, by omega, by rw [getD_eq (by omega)]; exact he.symm⟩
theorem mem_drop {l : List S35} {k : Nat} {a : S35} (h : a ∈ l.drop k) : ∃ i, k ≤ i ∧ i < l.length ∧ a = l.getD i z35 := by
  obtain ⟨i, hi, he⟩ := List.mem_iff_getElem.1 h
  rw [List.length_drop] at hi
  exact ⟨k + i, by omega, by omega, by rw [getD_eq (by omega)]; rw [List.getElem_drop] at he; exact he.symm⟩
theorem NF.nil : NF [] := ⟨fun x hx => (by cases hx), List.Pairwise.nil⟩
theorem newR_facts {l : List S35} (h : NF l) {lo hi : Int} (hf : fineB ⟨lo, hi⟩ = true) {fr up : Nat} (h1 : Turn l.length fr (fun t => decide ((l.getD t z35).f0 ≤ hi + 1))) (h2 : Turn l.length up (fun t => decide ((l.getD t z35).f1 + 1 < lo))) :
    (0 ≤ (newR l lo hi fr up).f0 ∧ (newR l lo hi fr up).f0 ≤ (newR l lo hi fr up).f1 ∧ (newR l lo hi fr up).f1 ≤ 4611686018427387903) ∧ (∀ i, i < fr → (newR l lo hi fr up).f1 + 1 < (l.getD i z35).f0) ∧ (∀ j, max fr up ≤ j → j < l.length → (l.getD j z35).f1 + 1 < (newR l lo hi fr up).f0) := by
  obtain ⟨g0, g1, g2⟩ := (fineB_iff _).1 hf
  dsimp only at g0 g1 g2
  have hle1 := h1.le
  have hle2 := h2.le
  unfold newR
  by_cases hd : fr < up
  · rw [if_pos hd]
    dsimp only
    have a1 := h.fine _ (getD_mem (show up - 1 < l.length by omega))
    have a2 := h.fine _ (getD_mem (show fr < l.length by omega))
    refine ⟨by omega, fun i hi_ => ?_, fun j hj hjl => ?_⟩
    · have b1 := h1.lt i hi_
      have b2 := of_decide_eq_false b1
      have b3 := h.lt hi_ (show fr < l.length by omega)
      omega
    · have b1 := of_decide_eq_true (h2.ge j (by omega) hjl)
      have b3 := h.lt (show up - 1 < j by omega) hjl
      omega
  · rw [if_neg hd]
    dsimp only
    refine ⟨⟨g0, g1, g2⟩, fun i hi_ => ?_, fun j hj hjl => ?_⟩
    · have b2 := of_decide_eq_false (h1.lt i hi_)
      omega
    · exact of_decide_eq_true (h2.ge j (by omega) hjl)
theorem AddR.nf {l l' : List S35} {lo hi : Int} (h : AddR l l' lo hi) (hn : NF l) (hf : fineB ⟨lo, hi⟩ = true) : NF l' ∧ l'.length ≤ 16 := by
  obtain ⟨fr, up, h1, h2, rfl⟩ := h.out
  obtain ⟨f1, f2, f3⟩ := newR_facts hn hf h1 h2
  refine ⟨⟨fun x hx => ?_, List.Pairwise.sublist (List.take_sublist _ _) ?_⟩, by rw [List.length_take]; omega⟩
  · have hx := List.mem_of_mem_take hx
    rcases List.mem_append.1 hx with hx | hx
    · exact hn.fine x (List.mem_of_mem_take hx)
    · rcases List.mem_cons.1 hx with rfl | hx
      · exact f1
      · exact hn.fine x (List.mem_of_mem_drop hx)
  · rw [List.pairwise_append, List.pairwise_cons]
    refine ⟨hn.apart.sublist (List.take_sublist _ _), ⟨fun b hb => ?_, hn.apart.sublist (List.drop_sublist _ _)⟩, fun a ha b hb => ?_⟩
    · obtain ⟨j, hj, hjl, rfl⟩ := mem_drop hb
      exact f3 j hj hjl
    · obtain ⟨i, hi, hil, rfl⟩ := mem_take ha
      rcases List.mem_cons.1 hb with rfl | hb
      · exact f2 i hi
      · obtain ⟨j, hj, hjl, rfl⟩ := mem_drop hb
        exact hn.lt (by omega) hjl
/-- Where the turn is, from what is said left and right of it. -/
theorem Turn.eq {n r q : Nat} {p : Nat → Bool} (h : Turn n r p) (hq : q ≤ n) (h0 : ∀ t, t < q → p t = false) (h1 : q < n → p q = true) : r = q := by
  rcases Nat.lt_trichotomy r q with hl | he | hg
  · have := h.ge r (Nat.le_refl _) (by omega)
    rw [h0 r hl] at this
    cases this
  · exact he
  · have := h.lt q hg
    rw [h1 (by have := h.le; omega)] at this
    cases this
/-- All ranges lie from a to b. -/
def Within (a b : Int) (l : List S35) : Prop := ∀ x ∈ l, a ≤ x.f0 ∧ x.f1 ≤ b
theorem AddR.within {l l' : List S35} {lo hi a b : Int} (h : AddR l l' lo hi) (hn : NF l) (hw : Within a b l) (h0 : a ≤ lo) (h1 : hi ≤ b) (hlh : lo ≤ hi) : Within a b l' := by
  obtain ⟨fr, up, t1, t2, rfl⟩ := h.out
  intro x hx
  have hx := List.mem_of_mem_take hx
  rcases List.mem_append.1 hx with hx | hx
  · exact hw x (List.mem_of_mem_take hx)
  · rcases List.mem_cons.1 hx with rfl | hx
    · unfold newR
      split
      · have a1 := hw _ (getD_mem (show up - 1 < l.length by have := t2.le; omega))
        have a2 := hw _ (getD_mem (show fr < l.length by have := t2.le; omega))
        dsimp only
        omega
      · exact ⟨h0, h1⟩
    · exact hw x (List.mem_of_mem_drop hx)
/-- What covers all is one range. -/
theorem AddR.whole {l l' : List S35} {a b : Int} (h : AddR l l' a b) (hn : NF l) (hw : Within a b l) : l' = [⟨a, b⟩] := by
  obtain ⟨fr, up, t1, t2, rfl⟩ := h.out
  obtain rfl : fr = 0 := t1.eq (Nat.zero_le _) (fun t ht => absurd ht (Nat.not_lt_zero _)) (fun h0 => decide_eq_true (by have := hw _ (getD_mem h0); have := hn.fine _ (getD_mem h0); omega))
  obtain rfl : up = l.length := t2.eq (Nat.le_refl _) (fun t ht => decide_eq_false (by have := hw _ (getD_mem ht); have := hn.fine _ (getD_mem ht); omega)) (fun h0 => absurd h0 (Nat.lt_irrefl _))
  have e : newR l a b 0 l.length = ⟨a, b⟩ := by
    unfold newR
    split
    · have a1 := hw _ (getD_mem (show l.length - 1 < l.length by omega))
      have a2 := hw _ (getD_mem (show 0 < l.length by omega))
      rw [Int.min_eq_left a1.1, Int.max_eq_left a2.2]
    · rfl
  rw [e, Nat.zero_max, List.drop_length]
  rfl
theorem works_a {l' : List S35} (h : AddR [] l' 5 6) : l' = [⟨5, 6⟩] := h.whole NF.nil (fun x hx => by cases hx)
theorem works_b {l' : List S35} (h : AddR [⟨5, 6⟩] l' 8 8) : l' = [⟨8, 8⟩, ⟨5, 6⟩] := by
  obtain ⟨fr, up, t1, t2, rfl⟩ := h.out
  obtain rfl : fr = 0 := t1.eq (Nat.zero_le _) (fun t ht => absurd ht (Nat.not_lt_zero _)) (fun h0 => by decide)
  obtain rfl : up = 0 := t2.eq (Nat.zero_le _) (fun t ht => absurd ht (Nat.not_lt_zero _)) (fun h0 => by decide)
  rfl
theorem works_d {l' : List S35} (h : AddR [⟨8, 8⟩, ⟨5, 6⟩] l' 7 7) : l' = [⟨5, 8⟩] := by
  obtain ⟨fr, up, t1, t2, rfl⟩ := h.out
  obtain rfl : fr = 0 := t1.eq (Nat.zero_le _) (fun t ht => absurd ht (Nat.not_lt_zero _)) (fun h0 => by decide)
  obtain rfl : up = 2 := t2.eq (by decide) (fun t ht => by
    rcases (show t = 0 ∨ t = 1 by omega) with rfl | rfl <;> decide) (fun h0 => absurd h0 (by decide))
  rfl
end Go.Proofs.Ytanebifiafghnaa.Ack
