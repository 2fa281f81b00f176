/- Layer 8: the ref's Add and Drop leave what acks leaves. -/
import Derived.Test.YtanebifiafghnaaCanon08
import Derived.Test.YtanebifiafghnaaRDrop08
namespace Go.Proofs.Ytanebifiafghnaa.Ack
open Go.RowKit Go.Deep Go.Proofs.YtanebifiafghnaaW.PrintWords Go.Proofs.YtanebifiafghnaaW.PrintLast Go.Proofs.YtanebifiafghnaaW.PrintMore Go.Proofs.Ytanebifiafghnaa.PAcksRight Go.Proofs.Ytanebifiafghnaa
set_option linter.unusedVariables false
set_option linter.unusedSimpArgs false
theorem rfold_at {l : List S35} (hn : NF l) {lo hi : Int} (hf : fineB ⟨lo, hi⟩ = true) {fr up : Nat} (h1 : Turn l.length fr (fun t => decide ((l.getD t z35).f0 ≤ hi + 1))) (h2 : Turn l.length up (fun t => decide ((l.getD t z35).f1 + 1 < lo))) (hfu : fr ≤ up) : ∀ i, i ≤ l.length → rfold (l.take i) lo hi = ⟨l.take (min i fr), if fr < min i up then min lo (l.getD (min i up - 1) z35).f0 else lo, if fr < min i up then max hi (l.getD fr z35).f1 else hi, (l.take i).drop up⟩ := by
  intro i
  induction i with
  | zero =>
    intro _
    rw [if_neg (by omega), if_neg (by omega), Nat.zero_min]
    simp [rfold]
  | succ i ih =>
    intro hi1
    have hil : i < l.length := by omega
    rw [rfold_step hil, ih (by omega), take_step35 hil]
    have fx := hn.fine _ (getD_mem hil)
    unfold rstep
    dsimp only
    rcases Nat.lt_or_ge i fr with c1 | c1
    · have q := of_decide_eq_false (h1.lt i c1)
      rw [if_neg (show ¬ fr < min i up by omega), if_neg (show ¬ fr < min i up by omega), if_neg (show ¬ fr < min (i + 1) up by omega), if_neg (show ¬ fr < min (i + 1) up by omega), if_pos (by omega)]
      rw [Nat.min_eq_left (show i ≤ fr by omega), Nat.min_eq_left (show i + 1 ≤ fr by omega), ← take_step35 hil]
      rw [List.drop_eq_nil_of_le (by rw [List.length_take]; omega), List.drop_eq_nil_of_le (by rw [List.length_take]; omega)]
    · have q := of_decide_eq_true (h1.ge i c1 hil)
      rw [Nat.min_eq_right (show fr ≤ i by omega), Nat.min_eq_right (show fr ≤ i + 1 by omega)]
      rcases Nat.lt_or_ge i up with c2 | c2
      · have q2 := of_decide_eq_false (h2.lt i c2)
        rw [Nat.min_eq_left (show i ≤ up by omega), Nat.min_eq_left (show i + 1 ≤ up by omega), ← take_step35 hil]
        rw [List.drop_eq_nil_of_le (by rw [List.length_take]; omega), List.drop_eq_nil_of_le (by rw [List.length_take]; omega)]
        rw [if_pos (show fr < i + 1 by omega), if_pos (show fr < i + 1 by omega), Nat.add_sub_cancel]
        rcases Nat.eq_or_lt_of_le c1 with rfl | c3
        · rw [if_neg (Nat.lt_irrefl _), if_neg (Nat.lt_irrefl _), if_neg (by omega), if_neg (by omega)]
        · have d := hn.down (show i - 1 ≤ i by omega) hil
          have d2 := hn.down c1 hil
          rw [if_pos c3, if_pos c3, if_neg (by omega), if_neg (by omega)]
          congr 1 <;> omega
      · have q2 := of_decide_eq_true (h2.ge i c2 hil)
        rw [Nat.min_eq_right c2, Nat.min_eq_right (show up ≤ i + 1 by omega)]
        have hlow : (l.getD i z35).f1 + 1 < (if fr < up then min lo (l.getD (up - 1) z35).f0 else lo) := by
          split
          · have := hn.lt (show up - 1 < i by omega) hil
            omega
          · exact q2
        have hhi : ¬ (if fr < up then max hi (l.getD fr z35).f1 else hi) + 1 < (l.getD i z35).f0 := by
          split <;> omega
        rw [if_neg hhi, if_pos hlow]
        rw [List.drop_append_of_le_length (by rw [List.length_take]; omega)]
theorem fr_up {l : List S35} (hn : NF l) {lo hi : Int} (hf : fineB ⟨lo, hi⟩ = true) {fr up : Nat} (h1 : Turn l.length fr (fun t => decide ((l.getD t z35).f0 ≤ hi + 1))) (h2 : Turn l.length up (fun t => decide ((l.getD t z35).f1 + 1 < lo))) : fr ≤ up := by
  rcases Nat.lt_or_ge up fr with c | c
  · have hle := h1.le
    have a := of_decide_eq_false (h1.lt up c)
    have b := of_decide_eq_true (h2.ge up (Nat.le_refl _) (by omega))
    have f := hn.fine _ (getD_mem (show up < l.length by omega))
    have g := (fineB_iff _).1 hf
    dsimp only at g
    omega
  · exact c
theorem radd_eq {l l' : List S35} {lo hi : Int} (hn : NF l) (hf : fineB ⟨lo, hi⟩ = true) (ha : AddR l l' lo hi) : raddL l lo hi = l' := by
  obtain ⟨fr, up, h1, h2, rfl⟩ := ha.out
  have hfu := fr_up hn hf h1 h2
  have h := rfold_at hn hf h1 h2 hfu l.length (Nat.le_refl _)
  rw [List.take_length] at h
  have hl1 := h1.le
  have hl2 := h2.le
  rw [Nat.min_eq_right hl1, Nat.min_eq_right hl2] at h
  unfold raddL
  rw [h, Nat.max_eq_right hfu]
  dsimp only
  unfold newR
  split <;> rfl
theorem rdrop_eq {l : List S35} {n : Int} {r : Nat} (ht : Turn l.length r (fun t => decide ((l.getD t z35).f1 < n))) : rdropL n l = dropL n r l := by
  have hle := ht.le
  have e : l.filter (fun x => decide (n ≤ x.f1)) = l.take r := by
    conv => lhs; rw [← List.take_append_drop r l]
    rw [List.filter_append]
    have a : (l.take r).filter (fun x => decide (n ≤ x.f1)) = l.take r := List.filter_eq_self.2 (fun x hx => by
      obtain ⟨i, hi, rfl⟩ := List.mem_take_iff_getElem.1 hx
      have := of_decide_eq_false (ht.lt i (by omega))
      rw [getD_eq (by omega)] at this
      exact decide_eq_true (by omega))
    have b : (l.drop r).filter (fun x => decide (n ≤ x.f1)) = [] := List.filter_eq_nil_iff.2 (fun x hx => by
      obtain ⟨i, hi, rfl⟩ := List.mem_iff_getElem.1 hx
      rw [List.length_drop] at hi
      have := of_decide_eq_true (ht.ge (r + i) (by omega) (by omega))
      rw [getD_eq (by omega)] at this
      rw [List.getElem_drop, decide_eq_true_eq]
      omega)
    rw [a, b, List.append_nil]
  unfold rdropL dropL
  rw [e]
/-- acks' Set and the ref's, side by side. -/
structure Duo (w W : World) (g q : Nat) (v u : Value) (l : List S35) : Prop where
  a : SG w.heap.size W g l v
  b : RG w.heap.size W q l u
  dj : ∀ k, v.ownBlock = some k → u.ownBlock ≠ some k
  bel : Below w.heap.size w W
theorem Duo.below {w W W2 : World} {g q : Nat} {v u : Value} {l : List S35} (h : Duo w W g q v u l) (hb : Below W.heap.size W W2) : Duo w W2 g q v u l := ⟨h.a.below hb, h.b.below hb, h.dj, below_step h.bel hb⟩
theorem ne_blk {W : World} {g q : Nat} {v u : Value} (h : W.heap[g]? = some (.cells #[v] 51 (0, 0))) (k : W.heap[q]? = some (.cells #[u] 43 (0, 0))) : g ≠ q := fun e => by
  subst e
  rw [h] at k
  injection k with k
  injection k with _ k _
  exact absurd k (by decide)
/-- Behind an act of acks: the ref's Set stands as it was. -/
structure Half (w W : World) (g q : Nat) (v2 u : Value) (l2 l : List S35) : Prop where
  a : SG w.heap.size W g l2 v2
  b : RG w.heap.size W q l u
  dj : ∀ k, v2.ownBlock = some k → u.ownBlock ≠ some k
  bel : Below w.heap.size w W
theorem Half.below {w W W2 : World} {g q : Nat} {v u : Value} {l l2 : List S35} (h : Half w W g q v u l2 l) (hb : Below W.heap.size W W2) : Half w W2 g q v u l2 l := ⟨h.a.below hb, h.b.below hb, h.dj, below_step h.bel hb⟩
theorem Duo.act {w W W2 : World} {g q : Nat} {v u v2 : Value} {l l2 : List S35} (h : Duo w W g q v u l) (s : SP w W W2 g v v2 l2) : Half w W2 g q v2 u l2 l := by
  have hbb : ∀ k, u.ownBlock = some k → some k ≠ v.ownBlock := fun k h1 h2 => h.dj k h2.symm h1
  refine ⟨s.lg, ⟨s.keep.blk h.b.blk (ne_blk h.a.blk h.b.blk).symm (blk_apart h.a.row h.b.blk (by decide)), row_keep rfl h.b.row s.keep (blk_apart h.b.row h.a.blk (by decide)) hbb⟩, fun k h1 h2 => ?_, s.bel⟩
  rcases s.own with ho | ho | ⟨b, ho, hb⟩
  · exact h.dj k (ho.symm.trans h1) h2
  · rw [ho] at h1; cases h1
  · rw [ho] at h1
    injection h1 with h1
    obtain ⟨c, hc⟩ := Kd.R_typed h.b.row k h2
    have := blk_lt hc
    omega
theorem Half.act {w W W2 : World} {g q : Nat} {v u u2 : Value} {l l2 : List S35} (h : Half w W g q v u l2 l) (s : RQ w W W2 q u u2 l2) : Duo w W2 g q v u2 l2 := by
  refine ⟨⟨s.keep.blk h.a.blk (ne_blk h.a.blk h.b.blk) (by simp), row_keep rfl h.a.row s.keep (blk_apart h.a.row h.b.blk (by decide)) (fun k _ he => by cases he)⟩, s.lg, fun k h1 h2 => ?_, s.bel⟩
  rcases s.own with ho | ho | ⟨b, ho, hb⟩
  · exact h.dj k h1 (ho.symm.trans h2)
  · rw [ho] at h2; cases h2
  · rw [ho] at h2
    injection h2 with h2
    obtain ⟨c, hc⟩ := Kd.R_typed h.a.row k h1
    have := blk_lt hc
    omega
end Go.Proofs.Ytanebifiafghnaa.Ack
