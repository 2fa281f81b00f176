/- Layer 20: two that always wait get the same. -/
import Derived.Test.YtcieopcihbgfdaaOt20
namespace Go.Proofs.Ytcieopcihbgfdaa.Fair
set_option linter.unusedVariables false
set_option linter.unusedSimpArgs false
def upd {α : Type} (g : Int → α) (i : Int) (v : α) : Int → α := fun j => if j = i then v else g j
theorem upd_same {α : Type} (g : Int → α) (i : Int) (v : α) : upd g i v i = v := if_pos rfl
theorem upd_other {α : Type} (g : Int → α) {i j : Int} (v : α) (h : j ≠ i) : upd g i v j = g j := if_neg h
structure Sh (M q : Int) (g : Int → Int) (c : Int → Int) (s : FS) : Prop where
  two : ∃ h o : Qu, s.st = [h, o] ∧ ((h.id = 1 ∧ o.id = 2) ∨ (h.id = 2 ∧ o.id = 1)) ∧ s.qu = q ∧ (∀ t ∈ h.l, (t.size : Int) ≤ M) ∧ (∀ t ∈ o.l, (t.size : Int) ≤ M) ∧ 0 ≤ o.d ∧ o.d ≤ M ∧ 0 ≤ h.d ∧ h.d ≤ (if s.sv = true then M + q else M) ∧
    (g h.id + h.d) - (g o.id + o.d) = (if s.sv = true then q else 0) - (if h.id = 2 then q else 0) ∧ 1 ≤ h.l.length ∧ 1 ≤ o.l.length ∧ (h.l.length : Int) + c h.id = 300 ∧ (o.l.length : Int) + c o.id = 300
theorem Sh.bound {M q : Int} {g c : Int → Int} {s : FS} (h : Sh M q g c s) (hM : 0 ≤ M) (hq : 1 ≤ q) : g 1 - g 2 ≤ 2 * (q + M) ∧ -(g 1 - g 2) ≤ 2 * (q + M) := by
  obtain ⟨x, y, hs, hid, rfl, h1, h2, h3, h4, h5, h6, h7, h8, h9, h10, h11⟩ := h.two
  rcases hid with ⟨i1, i2⟩ | ⟨i1, i2⟩
  · rw [i1, i2] at h7
    rw [if_neg (by decide : ¬ (1 : Int) = 2)] at h7
    split at h6 <;> split at h7 <;> first | omega | contradiction
  · rw [i1, i2] at h7
    rw [if_pos rfl] at h7
    split at h6 <;> split at h7 <;> first | omega | contradiction
theorem shares {s : FS} {y : NR × FS} (hy : Got s y) : ∀ (M q : Int) (g c : Int → Int), Sh M q g c s → FI s → y.1.2.2 = true ∧ (y.1.1 = 1 ∨ y.1.1 = 2) ∧ (y.1.2.1.size : Int) ≤ M ∧ (c y.1.1 + 1 = 300 ∨ Sh M q (upd g y.1.1 (g y.1.1 + (y.1.2.1.size : Int))) (upd c y.1.1 (c y.1.1 + 1)) y.2) := by
  induction hy with
  | none h => intro M q g c hs hi; obtain ⟨x, y, hs, _⟩ := hs.two; rw [h] at hs; cases hs
  | @wait s x r y hs hw _ ih =>
    intro M q g c hS hi
    obtain ⟨h, o, e, hid, rfl, h1, h2, h3, h4, h5, h6, h7, h8, h9, h10, h11⟩ := hS.two
    rw [hs] at e
    injection e with e1 e2
    subst e1; subst e2
    refine ih M s.qu g c ⟨o, ⟨x.id, x.l, due s x⟩, rfl, ?_, rfl, h2, h1, ?_, ?_, h3, ?_, ?_, h9, h8, h11, h10⟩ (hi.wait hs hw)
    · exact hid.elim (fun h => .inr ⟨h.2, h.1⟩) (fun h => .inl ⟨h.2, h.1⟩)
    · exact (due_le hs hi).1
    · have hh := h1 (Fair.hd x.l) (hd_mem h8)
      show due s x ≤ M
      omega
    · show o.d ≤ (if false = true then M + s.qu else M)
      rw [if_neg (by decide)]; exact h4
    · show g o.id + o.d - (g x.id + due s x) = (if false = true then s.qu else 0) - (if o.id = 2 then s.qu else 0)
      rw [if_neg (by decide)]
      unfold due
      rcases hid with ⟨i1, i2⟩ | ⟨i1, i2⟩
      · rw [i1, i2] at h7 ⊢
        rw [if_neg (by decide : ¬ (1 : Int) = 2)] at h7
        rw [if_pos rfl]
        cases hv : s.sv <;> rw [hv] at h7 <;> simp only [if_true, Bool.false_eq_true, if_false] at h7 ⊢ <;> omega
      · rw [i1, i2] at h7 ⊢
        rw [if_pos rfl] at h7
        rw [if_neg (by decide : ¬ (1 : Int) = 2)]
        cases hv : s.sv <;> rw [hv] at h7 <;> simp only [if_true, Bool.false_eq_true, if_false] at h7 ⊢ <;> omega
  | @take s x r hs hw =>
    intro M q g c hS hi
    obtain ⟨h, o, e, hid, rfl, h1, h2, h3, h4, h5, h6, h7, h8, h9, h10, h11⟩ := hS.two
    rw [hs] at e
    injection e with e1 e2
    subst e1; subst e2
    have hh := h1 (Fair.hd x.l) (hd_mem h8)
    have hne : o.id ≠ x.id := by rcases hid with ⟨i1, i2⟩ | ⟨i1, i2⟩ <;> rw [i1, i2] <;> decide
    refine ⟨rfl, hid.elim (fun h => .inl h.1) (fun h => .inr h.1), hh, ?_⟩
    by_cases hl : x.l.length ≤ 1
    · exact .inl (by show c x.id + 1 = 300; omega)
    · have ht : takeS s x [o] = ⟨s.lim, s.qu, [⟨x.id, x.l.tail, due s x - ((Fair.hd x.l).size : Int)⟩, o], true⟩ := if_neg hl
      have hdl := (due_le hs hi).1
      have htl : x.l.tail.length = x.l.length - 1 := List.length_tail
      refine .inr ⟨⟨x.id, x.l.tail, due s x - ((Fair.hd x.l).size : Int)⟩, o, by rw [ht], hid, by rw [ht], fun t h => h1 t (List.mem_of_mem_tail h), h2, h3, h4, ?_, ?_, ?_, ?_, h9, ?_, ?_⟩
      · show 0 ≤ due s x - ((Fair.hd x.l).size : Int)
        omega
      · rw [ht]
        show due s x - ((Fair.hd x.l).size : Int) ≤ (if true = true then M + s.qu else M)
        rw [if_pos rfl]
        unfold due
        have := hi.q0
        cases hv : s.sv <;> rw [hv] at h6 <;> simp only [if_true, Bool.false_eq_true, if_false] at h6 ⊢ <;> omega
      · rw [ht]
        show upd g x.id (g x.id + ((Fair.hd x.l).size : Int)) x.id + (due s x - ((Fair.hd x.l).size : Int)) - (upd g x.id (g x.id + ((Fair.hd x.l).size : Int)) o.id + o.d) = (if true = true then s.qu else 0) - (if x.id = 2 then s.qu else 0)
        rw [upd_same, upd_other _ _ hne, if_pos rfl]
        unfold due
        generalize (if x.id = 2 then s.qu else 0) = z at h7 ⊢
        cases hv : s.sv <;> rw [hv] at h7 <;> simp only [if_true, Bool.false_eq_true, if_false] at h7 ⊢ <;> omega
      · show 1 ≤ x.l.tail.length
        omega
      · show (x.l.tail.length : Int) + upd c x.id (c x.id + 1) x.id = 300
        rw [upd_same]
        omega
      · show (o.l.length : Int) + upd c x.id (c x.id + 1) o.id = 300
        rw [upd_other _ _ hne]
        exact h11
/-- The two while they are filled. -/
def fl (q : Int) (l1 l2 : List ByteArray) : FS := ⟨1000, q, if l1.length = 0 then [] else [⟨1, l1, 0⟩, ⟨2, l2, 0⟩], false⟩
def fm1 (q : Int) (l1 l2 : List ByteArray) : FS := ⟨1000, q, if l2.length = 0 then [⟨1, l1, 0⟩] else [⟨1, l1, 0⟩, ⟨2, l2, 0⟩], false⟩
theorem fl_one {q : Int} {l1 l2 : List ByteArray} {t : ByteArray} (he : l1.length = l2.length) (hn : l1.length < 300) (ht : t.size ≤ 65535) : pushE (fl q l1 l2) 1 t = 0 ∧ pushS (fl q l1 l2) 1 t = fm1 q (l1 ++ [t]) l2 := by
  have h0 : ¬ 65535 < t.size := by omega
  by_cases hz : l1.length = 0
  · have e1 : l1 = [] := List.length_eq_zero_iff.1 hz
    have e2 : l2 = [] := List.length_eq_zero_iff.1 (by omega)
    subst e1; subst e2
    have h1 : ¬ (((listOf (fl q [] []).st 1).length : Int) = (fl q [] []).lim) := by show ¬ ((0 : Int) = 1000); decide
    exact ⟨(if_neg h0).trans (if_neg h1), (if_neg h0).trans ((if_neg h1).trans rfl)⟩
  · have e : (fl q l1 l2).st = [⟨1, l1, 0⟩, ⟨2, l2, 0⟩] := if_neg hz
    have h1 : ¬ (((listOf (fl q l1 l2).st 1).length : Int) = (fl q l1 l2).lim) := by
      rw [e]; show ¬ ((l1.length : Int) = 1000); omega
    refine ⟨(if_neg h0).trans (if_neg h1), (if_neg h0).trans ((if_neg h1).trans ?_)⟩
    rw [e]
    unfold fm1
    rw [if_neg (by omega)]
    rfl
theorem fl_two {q : Int} {l1 l2 : List ByteArray} {u t : ByteArray} (he : l1.length = l2.length) (hn : l1.length < 300) (ht : t.size ≤ 65535) : pushE (fm1 q (l1 ++ [u]) l2) 2 t = 0 ∧ pushS (fm1 q (l1 ++ [u]) l2) 2 t = fl q (l1 ++ [u]) (l2 ++ [t]) := by
  have h0 : ¬ 65535 < t.size := by omega
  have e3 : fl q (l1 ++ [u]) (l2 ++ [t]) = ⟨1000, q, [⟨1, l1 ++ [u], 0⟩, ⟨2, l2 ++ [t], 0⟩], false⟩ := by unfold fl; rw [if_neg (by simp)]
  by_cases hz : l2.length = 0
  · have e2 : l2 = [] := List.length_eq_zero_iff.1 hz
    subst e2
    have h1 : ¬ (((listOf (fm1 q (l1 ++ [u]) []).st 2).length : Int) = (fm1 q (l1 ++ [u]) []).lim) := by show ¬ ((0 : Int) = 1000); decide
    exact ⟨(if_neg h0).trans (if_neg h1), (if_neg h0).trans ((if_neg h1).trans (e3.symm ▸ rfl))⟩
  · have e : (fm1 q (l1 ++ [u]) l2).st = [⟨1, l1 ++ [u], 0⟩, ⟨2, l2, 0⟩] := if_neg hz
    have h1 : ¬ (((listOf (fm1 q (l1 ++ [u]) l2).st 2).length : Int) = (fm1 q (l1 ++ [u]) l2).lim) := by
      rw [e]; show ¬ ((l2.length : Int) = 1000); omega
    refine ⟨(if_neg h0).trans (if_neg h1), (if_neg h0).trans ((if_neg h1).trans ?_)⟩
    rw [e, e3]
    rfl
theorem fl_len (q : Int) (l1 l2 : List ByteArray) : (fl q l1 l2).st.length ≤ 100000 := by
  unfold fl
  dsimp only
  split
  · decide
  · exact (by decide : 2 ≤ 100000)
theorem fm1_len (q : Int) (l1 l2 : List ByteArray) : (fm1 q l1 l2).st.length ≤ 100000 := by
  unfold fm1
  dsimp only
  split
  · exact (by decide : 1 ≤ 100000)
  · exact (by decide : 2 ≤ 100000)
theorem fl_sh {q M : Int} {l1 l2 : List ByteArray} (h1 : l1.length = 300) (h2 : l2.length = 300) (s1 : ∀ t ∈ l1, (t.size : Int) ≤ M) (s2 : ∀ t ∈ l2, (t.size : Int) ≤ M) (hM : 0 ≤ M) : Sh M q (fun _ => 0) (fun _ => 0) (fl q l1 l2) := by
  have e : (fl q l1 l2).st = [⟨1, l1, 0⟩, ⟨2, l2, 0⟩] := if_neg (by omega)
  refine ⟨⟨1, l1, 0⟩, ⟨2, l2, 0⟩, e, .inl ⟨rfl, rfl⟩, rfl, s1, s2, Int.le_refl _, hM, Int.le_refl _, ?_, ?_, ?_, ?_, ?_, ?_⟩
  · show (0 : Int) ≤ (if false = true then M + q else M)
    rw [if_neg (by decide)]; exact hM
  · show (0 : Int) + 0 - (0 + 0) = (if false = true then q else 0) - (if (1 : Int) = 2 then q else 0)
    rw [if_neg (by decide), if_neg (by decide)]; rfl
  · show 1 ≤ l1.length; omega
  · show 1 ≤ l2.length; omega
  · show (l1.length : Int) + 0 = 300; omega
  · show (l2.length : Int) + 0 = 300; omega
theorem Sh.len {M q : Int} {g c : Int → Int} {s : FS} (h : Sh M q g c s) : s.st.length ≤ 100000 := by
  obtain ⟨x, y, hs, _⟩ := h.two
  rw [hs]
  exact (by decide : 2 ≤ 100000)
end Go.Proofs.Ytcieopcihbgfdaa.Fair
