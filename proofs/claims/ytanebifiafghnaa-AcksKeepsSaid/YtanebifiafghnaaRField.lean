/- A cell of an element of a row of the call's own is stored. -/
import Derived.Test.YtanebifiafghnaaConv
import Derived.Test.YtanebifiafghnaaWMore
namespace Go.Proofs.Ytanebifiafghnaa.RF
open Go Go.RowKit Go.Proofs.YtanebifiafghnaaW.PrintWords Go.Proofs.YtanebifiafghnaaW.PrintLast Go.Proofs.YtanebifiafghnaaW.PrintMore
set_option linter.unusedVariables false
theorem R_field {α : Type} {d : Kd α} {e base g n cap : Nat} {ok : Nat → Prop} {W : World} {xs : List α} (h : d.R e W base ok (.slice (some ⟨g, 0, none⟩) n cap) xs) (i : Nat) (hi : i < xs.length) (j : Nat) (hj : j < d.sz) (u : Value) (x : α)
    (hflat : ∀ (w1 w2 : World) (okk : Nat → Prop) (y : α) (cs : List Value), d.M w1 base okk y cs → d.M w2 base okk y cs)
    (hx : ∀ (okk : Nat → Prop) (cs : List Value), d.M W base okk xs[i] cs → d.M W base okk x (cs.set j u)) :
    d.R e (W.setCell ⟨g, i * d.sz + j, none⟩ u) base ok (.slice (some ⟨g, 0, none⟩) n cap) (xs.set i x) ∧ W.grownBy (W.setCell ⟨g, i * d.sz + j, none⟩ u) (some g) := by
  obtain ⟨rfl, _⟩ := Kd.R_reads' h
  obtain ⟨h0, inner, hown, hlen, hrep⟩ := h
  obtain ⟨hs, hg⟩ := hown.stored (i * d.sz + j) u
  have hm : i * d.sz + d.sz ≤ xs.length * d.sz := by rw [← Nat.succ_mul]; exact Nat.mul_le_mul_right _ hi
  refine ⟨⟨h0, inner.set (i * d.sz + j) u, by rw [List.length_set]; exact hs, by rw [List.length_set, List.length_set]; exact hlen, fun k p hp => ?_⟩, hg⟩
  by_cases hk : k = i
  · subst hk
    have hpx : p = x := by
      rw [List.getElem?_set_self hi] at hp
      exact (Option.some.inj hp).symm
    subst hpx
    have e1 : ((inner.set (k * d.sz + j) u).drop (k * d.sz)).take d.sz = ((inner.drop (k * d.sz)).take d.sz).set j u := by
      rw [List.drop_set, if_neg (by omega), List.take_set, show k * d.sz + j - k * d.sz = j by omega]
    rw [e1]
    exact hflat W _ _ _ _ (hx _ _ (hrep k _ (List.getElem?_eq_getElem hi)))
  · rw [List.getElem?_set_ne (Ne.symm hk)] at hp
    have e1 : ((inner.set (i * d.sz + j) u).drop (k * d.sz)).take d.sz = (inner.drop (k * d.sz)).take d.sz := by
      rw [List.drop_set]
      rcases Nat.lt_or_ge i k with hlt | hge
      · have h1 : i * d.sz + d.sz ≤ k * d.sz := by rw [← Nat.succ_mul]; exact Nat.mul_le_mul_right _ hlt
        rw [if_pos (by omega)]
      · have hlt : k < i := by omega
        have h1 : k * d.sz + d.sz ≤ i * d.sz := by rw [← Nat.succ_mul]; exact Nat.mul_le_mul_right _ hlt
        rw [if_neg (by omega), List.take_set, List.set_eq_of_length_le]
        rw [List.length_take]
        omega
    rw [e1]
    exact hflat W _ _ _ _ (hrep k _ hp)
end Go.Proofs.Ytanebifiafghnaa.RF
