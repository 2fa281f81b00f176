/- Layer 20: what waits, as a function from ids to packets. -/
import Derived.Test.YtcieopcihbgfdaaSh20
namespace Go.Proofs.Ytcieopcihbgfdaa.Fair
set_option linter.unusedVariables false
set_option linter.unusedSimpArgs false
theorem listOf_rot {x : Qu} {d : Int} {k : Int} : ∀ {r : List Qu}, (∀ y ∈ r, y.id ≠ x.id) → listOf (r ++ [⟨x.id, x.l, d⟩]) k = listOf (x :: r) k
  | [], _ => rfl
  | y :: r, h => by
    have ih := listOf_rot (x := x) (d := d) (k := k) (r := r) (fun z hz => h z (List.mem_cons_of_mem _ hz))
    have hne := h y List.mem_cons_self
    show (if y.id = k then y.l else listOf (r ++ [⟨x.id, x.l, d⟩]) k) = (if x.id = k then x.l else if y.id = k then y.l else listOf r k)
    rw [ih]
    show (if y.id = k then y.l else if x.id = k then x.l else listOf r k) = _
    by_cases h1 : y.id = k
    · rw [if_pos h1, if_neg (fun e => hne (h1.trans e.symm)), if_pos h1]
    · rw [if_neg h1, if_neg h1]
theorem countL_app (a b : List Qu) : countL (a ++ b) = countL a + countL b := by
  induction a with
  | nil => simp [countL]
  | cons x a ih => simp only [List.cons_append, countL, ih]; omega
theorem countL_rot {x : Qu} {d : Int} {r : List Qu} : countL (r ++ [⟨x.id, x.l, d⟩]) = countL (x :: r) := by
  rw [countL_app]
  show countL r + (x.l.length + 0) = x.l.length + countL r
  omega
theorem listOf_not {k : Int} : ∀ {r : List Qu}, (∀ y ∈ r, y.id ≠ k) → listOf r k = []
  | [], _ => rfl
  | y :: r, h => by
    unfold listOf
    rw [if_neg (h y List.mem_cons_self)]
    exact listOf_not (fun z hz => h z (List.mem_cons_of_mem _ hz))
theorem tail_ne {s : FS} {x : Qu} {r : List Qu} (h : s.st = x :: r) (hi : FI s) : ∀ y ∈ r, y.id ≠ x.id := by
  have hnd := hi.nd
  unfold ids at hnd
  rw [h, List.map_cons, List.nodup_cons] at hnd
  exact fun y hy e => hnd.1 (List.mem_map.2 ⟨y, hy, e⟩)
/-- What Next says of the lists. -/
structure NextL (s : FS) (y : NR × FS) : Prop where
  some : s.st ≠ [] → y.1.2.2 = true ∧ listOf s.st y.1.1 = y.1.2.1 :: listOf y.2.st y.1.1 ∧ (∀ k, k ≠ y.1.1 → listOf y.2.st k = listOf s.st k) ∧ countL s.st = countL y.2.st + 1 ∧ y.1.1 ∈ ids s ∧ y.2.st.length ≤ s.st.length
  none : s.st = [] → y = (noneR, s)
theorem nextL {s : FS} {y : NR × FS} (hy : Got s y) : FI s → NextL s y := by
  induction hy with
  | none h => exact fun hi => ⟨fun hn => absurd h hn, fun _ => rfl⟩
  | @wait s x r y hs hw _ ih =>
    intro hi
    have hne := tail_ne hs hi
    have h := ih (hi.wait hs hw)
    have hl : ∀ k, listOf (waitS s x r).st k = listOf s.st k := fun k => by rw [hs]; exact listOf_rot hne
    have hc : countL (waitS s x r).st = countL s.st := by rw [hs]; exact countL_rot
    have hw0 : (waitS s x r).st ≠ [] := by
      show r ++ [_] ≠ []
      simp
    obtain ⟨h1, h2, h3, h4, h5, h6⟩ := h.some hw0
    refine ⟨fun _ => ⟨h1, by rw [← hl]; exact h2, fun k hk => by rw [← hl]; exact h3 k hk, by rw [← hc]; exact h4, ?_, ?_⟩, fun e => by rw [hs] at e; cases e⟩
    · rw [ids_wait] at h5
      unfold ids
      rw [hs, List.map_cons]
      rcases List.mem_append.1 h5 with h | h
      · exact List.mem_cons_of_mem _ h
      · rw [List.mem_singleton.1 h]; exact List.mem_cons_self
    · refine Nat.le_trans h6 ?_
      rw [hs]
      show (r ++ [_]).length ≤ _
      simp
  | @take s x r hs hw =>
    intro hi
    have hne := tail_ne hs hi
    have hpos := (hi.q x (by rw [hs]; exact List.mem_cons_self)).pos
    have hdt : Fair.hd x.l :: x.l.tail = x.l := by
      generalize x.l = l at hpos
      cases l with
      | nil => simp at hpos
      | cons a l => rfl
    refine ⟨fun _ => ?_, fun e => by rw [hs] at e; cases e⟩
    have e1 : listOf s.st x.id = x.l := by rw [hs]; unfold listOf; rw [if_pos rfl]
    have e2 : ∀ k, k ≠ x.id → listOf s.st k = listOf r k := fun k hk => by rw [hs]; show (if x.id = k then x.l else listOf r k) = _; rw [if_neg (fun e => hk e.symm)]
    have e3 : countL s.st = x.l.length + countL r := by rw [hs]; rfl
    have e4 : x.id ∈ ids s := by unfold ids; rw [hs]; exact List.mem_cons_self
    refine ⟨rfl, ?_, ?_, ?_, e4, ?_⟩
    · rw [e1]
      unfold takeS
      by_cases hl : x.l.length ≤ 1
      · rw [if_pos hl]
        show x.l = Fair.hd x.l :: listOf r x.id
        rw [listOf_not hne]
        have : x.l.tail = [] := List.length_eq_zero_iff.1 (by rw [List.length_tail]; omega)
        rw [this] at hdt
        exact hdt.symm
      · rw [if_neg hl]
        show x.l = Fair.hd x.l :: (if x.id = x.id then x.l.tail else listOf r x.id)
        rw [if_pos rfl]
        exact hdt.symm
    · intro k hk
      have hk : k ≠ x.id := hk
      rw [e2 k hk]
      unfold takeS
      by_cases hl : x.l.length ≤ 1
      · rw [if_pos hl]
      · rw [if_neg hl]
        show (if x.id = k then x.l.tail else listOf r k) = _
        rw [if_neg (fun e => hk e.symm)]
    · rw [e3]
      have : x.l.tail.length = x.l.length - 1 := List.length_tail
      unfold takeS
      by_cases hl : x.l.length ≤ 1
      · rw [if_pos hl]
        show x.l.length + countL r = countL r + 1
        omega
      · rw [if_neg hl]
        show x.l.length + countL r = x.l.tail.length + countL r + 1
        omega
    · rw [hs]
      unfold takeS
      by_cases hl : x.l.length ≤ 1
      · rw [if_pos hl]
        exact Nat.le_succ _
      · rw [if_neg hl]
        exact Nat.le_refl _
/-- What Push says of the lists. -/
theorem pushL {s : FS} {id : Int} {t : ByteArray} (h : pushE s id t = 0) (hi : FI s) : (∀ k, listOf (pushS s id t).st k = if k = id then listOf s.st id ++ [t] else listOf s.st k) ∧ countL (pushS s id t).st = countL s.st + 1 ∧ (pushS s id t).st.length ≤ s.st.length + 1 := by
  unfold pushE at h
  unfold pushS
  by_cases h0 : 65535 < t.size
  · rw [if_pos h0] at h; cases h
  rw [if_neg h0] at h ⊢
  by_cases h1 : ((listOf s.st id).length : Int) = s.lim
  · rw [if_pos h1] at h; cases h
  rw [if_neg h1]
  clear h h0 h1
  have gen : ∀ (st : List Qu), (∀ k, listOf (addQ st id t) k = if k = id then listOf st id ++ [t] else listOf st k) ∧ countL (addQ st id t) = countL st + 1 ∧ (addQ st id t).length ≤ st.length + 1 := by
    intro st
    induction st with
    | nil =>
      refine ⟨fun k => ?_, rfl, Nat.le_refl _⟩
      show (if id = k then [t] else []) = if k = id then [] ++ [t] else []
      by_cases hk : k = id
      · rw [if_pos hk, if_pos hk.symm]; rfl
      · rw [if_neg hk, if_neg (fun e => hk e.symm)]
    | cons x r ih =>
      obtain ⟨i1, i2, i3⟩ := ih
      by_cases hx : x.id = id
      · have e : addQ (x :: r) id t = ⟨x.id, x.l ++ [t], x.d⟩ :: r := by rw [addQ, if_pos hx]
        rw [e]
        refine ⟨fun k => ?_, ?_, Nat.le_succ _⟩
        · show (if x.id = k then x.l ++ [t] else listOf r k) = if k = id then (if x.id = id then x.l else listOf r id) ++ [t] else (if x.id = k then x.l else listOf r k)
          by_cases hk : k = id
          · rw [if_pos hk, if_pos (hx.trans hk.symm), if_pos hx]
          · rw [if_neg hk, if_neg (fun e => hk (e.symm.trans hx)), if_neg (fun e => hk (e.symm.trans hx))]
        · show (x.l ++ [t]).length + countL r = x.l.length + countL r + 1
          rw [List.length_append]
          simp only [List.length_singleton]
          omega
      · have e : addQ (x :: r) id t = x :: addQ r id t := by rw [addQ, if_neg hx]
        rw [e]
        refine ⟨fun k => ?_, ?_, ?_⟩
        · show (if x.id = k then x.l else listOf (addQ r id t) k) = if k = id then (if x.id = id then x.l else listOf r id) ++ [t] else (if x.id = k then x.l else listOf r k)
          rw [i1 k]
          by_cases hk : k = id
          · subst hk
            rw [if_neg hx, if_pos rfl, if_pos rfl, if_neg hx]
          · rw [if_neg hk, if_neg hk]
        · show x.l.length + countL (addQ r id t) = x.l.length + countL r + 1
          omega
        · simp only [List.length_cons]
          omega
  exact gen s.st
theorem push_no {s : FS} {id : Int} {t : ByteArray} (h : pushE s id t ≠ 0) : pushS s id t = s := by
  unfold pushE at h
  unfold pushS
  by_cases h0 : 65535 < t.size
  · rw [if_pos h0]
  rw [if_neg h0] at h ⊢
  by_cases h1 : ((listOf s.st id).length : Int) = s.lim
  · rw [if_pos h1]
  · rw [if_neg h1] at h; exact absurd rfl h
/-- What Drop says of the lists. -/
theorem dropL {s : FS} {id : Int} (hi : FI s) : (∀ k, listOf (dropS s id).st k = if k = id then [] else listOf s.st k) ∧ countL (dropS s id).st + (listOf s.st id).length = countL s.st ∧ (dropS s id).st.length ≤ s.st.length := by
  have gen : ∀ (st : List Qu), (st.map (·.id)).Nodup → (∀ k, listOf (delQ st id) k = if k = id then [] else listOf st k) ∧ countL (delQ st id) + (listOf st id).length = countL st ∧ (delQ st id).length ≤ st.length := by
    intro st
    induction st with
    | nil =>
      intro _
      refine ⟨fun k => ?_, rfl, Nat.le_refl _⟩
      show ([] : List ByteArray) = _
      split <;> rfl
    | cons x r ih =>
      intro hnd
      rw [List.map_cons, List.nodup_cons] at hnd
      obtain ⟨i1, i2, i3⟩ := ih hnd.2
      by_cases hx : x.id = id
      · have e : delQ (x :: r) id = r := by rw [delQ, if_pos hx]
        have hne : ∀ y ∈ r, y.id ≠ id := fun y hy e => hnd.1 (by rw [hx]; exact List.mem_map.2 ⟨y, hy, e⟩)
        rw [e]
        refine ⟨fun k => ?_, ?_, Nat.le_succ _⟩
        · show listOf r k = if k = id then [] else (if x.id = k then x.l else listOf r k)
          by_cases hk : k = id
          · rw [if_pos hk, hk]; exact listOf_not hne
          · rw [if_neg hk, if_neg (fun e => hk (e.symm.trans hx))]
        · show countL r + (if x.id = id then x.l else listOf r id).length = x.l.length + countL r
          rw [if_pos hx]
          omega
      · have e : delQ (x :: r) id = x :: delQ r id := by rw [delQ, if_neg hx]
        rw [e]
        refine ⟨fun k => ?_, ?_, ?_⟩
        · show (if x.id = k then x.l else listOf (delQ r id) k) = if k = id then [] else (if x.id = k then x.l else listOf r k)
          rw [i1 k]
          by_cases hk : k = id
          · subst hk
            rw [if_neg hx, if_pos rfl, if_pos rfl]
          · rw [if_neg hk, if_neg hk]
        · show x.l.length + countL (delQ r id) + (if x.id = id then x.l else listOf r id).length = x.l.length + countL r
          rw [if_neg hx]
          omega
        · simp only [List.length_cons]
          omega
  obtain ⟨g1, g2, g3⟩ := gen s.st hi.nd
  unfold dropS
  by_cases hm : id ∈ ids s
  · rw [if_pos hm]
    exact ⟨g1, g2, g3⟩
  · rw [if_neg hm]
    have hne : ∀ y ∈ s.st, y.id ≠ id := fun y hy e => hm (List.mem_map.2 ⟨y, hy, e⟩)
    have e0 := listOf_not hne
    refine ⟨fun k => ?_, by rw [e0]; rfl, Nat.le_refl _⟩
    by_cases hk : k = id
    · rw [if_pos hk, hk]; exact e0
    · rw [if_neg hk]
theorem count_zero {s : FS} (hi : FI s) : countL s.st = 0 ↔ s.st = [] := by
  constructor
  · intro h
    cases hs : s.st with
    | nil => rfl
    | cons x r =>
      have hp := (hi.q x (by rw [hs]; exact List.mem_cons_self)).pos
      rw [hs] at h
      have : x.l.length + countL r = 0 := h
      omega
  · intro h; rw [h]; rfl
end Go.Proofs.Ytcieopcihbgfdaa.Fair
