/- Layer 20: queues in lists. -/
import Derived.Test.YtcieopcihbgfdaaFq20
import Derived.Test.YtcieopcihbgfdaaShelf
namespace Go.Proofs.Ytcieopcihbgfdaa.Fair
open Go.RowKit Go.Proofs.YtcieopcihbgfdaaW.PrintWords Go.Proofs.YtcieopcihbgfdaaW.PrintLast Go.Proofs.YtcieopcihbgfdaaW.PrintMore
set_option linter.unusedVariables false
set_option linter.unusedSimpArgs false
theorem mem_ids {st : List Qu} {id : Int} (h : id ∈ st.map (·.id)) : ∃ x ∈ st, x.id = id := List.mem_map.1 h
theorem uniq {st : List Qu} (hnd : (st.map (·.id)).Nodup) {x y : Qu} (hx : x ∈ st) (hy : y ∈ st) (e : y.id = x.id) : y = x := by
  induction st with
  | nil => cases hx
  | cons z r ih =>
    rw [List.map_cons, List.nodup_cons] at hnd
    rcases List.mem_cons.1 hx with rfl | hx1 <;> rcases List.mem_cons.1 hy with rfl | hy1
    · rfl
    · exact absurd (List.mem_map.2 ⟨y, hy1, e⟩) hnd.1
    · exact absurd (List.mem_map.2 ⟨x, hx1, e.symm⟩) hnd.1
    · exact ih hnd.2 hx1 hy1
theorem listOf_mem {st : List Qu} (hnd : (st.map (·.id)).Nodup) {x : Qu} (hx : x ∈ st) : listOf st x.id = x.l := by
  induction st with
  | nil => cases hx
  | cons z r ih =>
    rw [List.map_cons, List.nodup_cons] at hnd
    unfold listOf
    rcases List.mem_cons.1 hx with rfl | hx1
    · rw [if_pos rfl]
    · rw [if_neg (fun e => hnd.1 (List.mem_map.2 ⟨x, hx1, e.symm⟩))]
      exact ih hnd.2 hx1
theorem listOf_none {st : List Qu} {id : Int} (h : ∀ y ∈ st, y.id ≠ id) : listOf st id = [] := by
  induction st with
  | nil => rfl
  | cons z r ih =>
    unfold listOf
    rw [if_neg (h z List.mem_cons_self)]
    exact ih (fun y hy => h y (List.mem_cons_of_mem _ hy))
theorem not_ids {st : List Qu} {id : Int} (h : id ∉ st.map (·.id)) : ∀ y ∈ st, y.id ≠ id := fun y hy e => h (List.mem_map.2 ⟨y, hy, e⟩)
theorem addQ_new {st : List Qu} {id : Int} {t : ByteArray} (h : ∀ y ∈ st, y.id ≠ id) : addQ st id t = st ++ [⟨id, [t], 0⟩] := by
  induction st with
  | nil => rfl
  | cons z r ih =>
    unfold addQ
    rw [if_neg (h z List.mem_cons_self), ih (fun y hy => h y (List.mem_cons_of_mem _ hy))]
    rfl
theorem addQ_mem {st : List Qu} (hnd : (st.map (·.id)).Nodup) {x : Qu} (hx : x ∈ st) {t : ByteArray} : ∀ y ∈ addQ st x.id t, y = ⟨x.id, x.l ++ [t], x.d⟩ ∨ (y ∈ st ∧ y.id ≠ x.id) := by
  induction st with
  | nil => cases hx
  | cons z r ih =>
    rw [List.map_cons, List.nodup_cons] at hnd
    intro y hy
    unfold addQ at hy
    by_cases e : z.id = x.id
    · rw [if_pos e] at hy
      have hzx : x = z := by
        rcases List.mem_cons.1 hx with h | h
        · exact h
        · exact absurd (List.mem_map.2 ⟨x, h, e.symm⟩) hnd.1
      subst hzx
      rcases List.mem_cons.1 hy with rfl | hy
      · exact .inl rfl
      · exact .inr ⟨List.mem_cons_of_mem _ hy, fun e => hnd.1 (List.mem_map.2 ⟨y, hy, e⟩)⟩
    · rw [if_neg e] at hy
      have hx1 : x ∈ r := by
        rcases List.mem_cons.1 hx with rfl | h
        · exact absurd rfl e
        · exact h
      rcases List.mem_cons.1 hy with rfl | hy
      · exact .inr ⟨List.mem_cons_self, e⟩
      · rcases ih hnd.2 hx1 y hy with h | ⟨h1, h2⟩
        · exact .inl h
        · exact .inr ⟨List.mem_cons_of_mem _ h1, h2⟩
theorem addQ_ids {st : List Qu} {id : Int} {t : ByteArray} (h : id ∈ st.map (·.id)) : (addQ st id t).map (·.id) = st.map (·.id) := by
  induction st with
  | nil => cases h
  | cons z r ih =>
    unfold addQ
    by_cases e : z.id = id
    · rw [if_pos e]; rfl
    · rw [if_neg e]
      rw [List.map_cons] at h
      rcases List.mem_cons.1 h with h | h
      · exact absurd h.symm e
      · rw [List.map_cons, List.map_cons, ih h]
theorem addQ_len {st : List Qu} {id : Int} {t : ByteArray} (h : id ∈ st.map (·.id)) : (addQ st id t).length = st.length := by
  have := congrArg List.length (addQ_ids (t := t) h)
  simpa using this
theorem delQ_split {st : List Qu} {id : Int} {a b : List Int} (h : st.map (·.id) = a ++ id :: b) (ha : id ∉ a) : (delQ st id).map (·.id) = a ++ b ∧ (∀ y ∈ delQ st id, y ∈ st) ∧ (delQ st id).length + 1 = st.length := by
  induction st generalizing a with
  | nil => cases a <;> cases h
  | cons z r ih =>
    unfold delQ
    cases a with
    | nil =>
      rw [List.map_cons, List.nil_append] at h
      injection h with h1 h2
      rw [if_pos h1]
      exact ⟨by simpa using h2, fun y hy => List.mem_cons_of_mem _ hy, rfl⟩
    | cons c a =>
      rw [List.map_cons, List.cons_append] at h
      injection h with h1 h2
      have hne : z.id ≠ id := fun e => ha (by rw [← e, h1]; exact List.mem_cons_self)
      rw [if_neg hne]
      obtain ⟨i1, i2, i3⟩ := ih h2 (fun hm => ha (List.mem_cons_of_mem _ hm))
      refine ⟨by rw [List.map_cons, i1, h1]; rfl, fun y hy => ?_, by simp only [List.length_cons]; omega⟩
      rcases List.mem_cons.1 hy with rfl | hy
      · exact List.mem_cons_self
      · exact List.mem_cons_of_mem _ (i2 y hy)
theorem headIs_split {st : List Qu} {id : Int} {a b : List Int} (h : st.map (·.id) = a ++ id :: b) (ha : id ∉ a) : headIs st id = decide (a.length = 0) := by
  cases st with
  | nil => cases a <;> cases h
  | cons z r =>
    cases a with
    | nil =>
      rw [List.map_cons, List.nil_append] at h
      injection h with h1 h2
      show decide (z.id = id) = _
      rw [decide_eq_true h1]; rfl
    | cons c a =>
      rw [List.map_cons, List.cons_append] at h
      injection h with h1 h2
      have hne : z.id ≠ id := fun e => ha (by rw [← e, h1]; exact List.mem_cons_self)
      show decide (z.id = id) = _
      rw [decide_eq_false hne]; rfl
theorem split_of {l : List Int} {id : Int} (h : id ∈ l) : ∃ a b, l = a ++ id :: b ∧ id ∉ a := by
  induction l with
  | nil => cases h
  | cons z r ih =>
    by_cases e : z = id
    · subst e
      exact ⟨[], r, rfl, by simp⟩
    · rcases List.mem_cons.1 h with h | h
      · exact absurd h.symm e
      · obtain ⟨a, b, h1, h2⟩ := ih h
        exact ⟨z :: a, b, by rw [h1]; rfl, fun hm => by
          rcases List.mem_cons.1 hm with hm | hm
          · exact e hm.symm
          · exact h2 hm⟩
theorem addQ_all {st : List Qu} {id : Int} {t : ByteArray} (h : ∀ y ∈ st, y.d ≤ 65535) : ∀ y ∈ addQ st id t, y.d ≤ 65535 := by
  induction st with
  | nil =>
    intro y hy
    rw [addQ] at hy
    rw [List.mem_singleton.1 hy]
    exact (by decide : (0 : Int) ≤ 65535)
  | cons z r ih =>
    intro y hy
    rw [addQ] at hy
    by_cases e : z.id = id
    · rw [if_pos e] at hy
      rcases List.mem_cons.1 hy with rfl | hy
      · exact h z List.mem_cons_self
      · exact h y (List.mem_cons_of_mem _ hy)
    · rw [if_neg e] at hy
      rcases List.mem_cons.1 hy with rfl | hy
      · exact h y List.mem_cons_self
      · exact ih (fun u hu => h u (List.mem_cons_of_mem _ hu)) y hy
theorem addQ_low {st : List Qu} {id : Int} {t : ByteArray} (h : ∀ y ∈ st.tail, y.d ≤ 65535) : ∀ y ∈ (addQ st id t).tail, y.d ≤ 65535 := by
  cases st with
  | nil => intro y hy; cases hy
  | cons z r =>
    intro y hy
    rw [addQ] at hy
    by_cases e : z.id = id
    · rw [if_pos e] at hy; exact h y hy
    · rw [if_neg e] at hy; exact addQ_all (st := r) h y hy
theorem FI.push {s : FS} (hi : FI s) {id : Int} {t : ByteArray} (hk : (Lit.int .i64 id).wf = true) : FI (pushS s id t) := by
  unfold pushS
  by_cases h0 : 65535 < t.size
  · rw [if_pos h0]; exact hi
  rw [if_neg h0]
  by_cases h1 : ((listOf s.st id).length : Int) = s.lim
  · rw [if_pos h1]; exact hi
  rw [if_neg h1]
  by_cases hm : id ∈ s.st.map (·.id)
  · obtain ⟨x, hx, rfl⟩ := mem_ids hm
    have hids := addQ_ids (t := t) hm
    have hmem := addQ_mem hi.nd hx (t := t)
    have hX := hi.q x hx
    rw [listOf_mem hi.nd hx] at h1
    refine ⟨hi.l0, hi.l1, hi.q0, hi.q1, ?_, fun y hy => ?_, addQ_low hi.low, fun e => addQ_all (hi.sv e)⟩
    · show ((addQ s.st x.id t).map (·.id)).Nodup
      rw [hids]; exact hi.nd
    · rcases hmem y hy with rfl | ⟨h, _⟩
      · have := hX.le
        refine ⟨?_, ?_, fun u hu => ?_, hX.d0, hX.d1, hX.k⟩
        · rw [List.length_append]; simp
        · rw [List.length_append]
          show ((x.l.length + 1 : Nat) : Int) ≤ s.lim
          omega
        · rcases List.mem_append.1 hu with hu | hu
          · exact hX.big u hu
          · rw [List.mem_singleton.1 hu]; omega
      · exact hi.q y h
  · have hn := not_ids hm
    have hlo := addQ_low (id := id) (t := t) hi.low
    have hal := fun h => addQ_all (st := s.st) (id := id) (t := t) h
    rw [addQ_new hn] at hlo hal ⊢
    have hall : ∀ y ∈ s.st ++ [(⟨id, [t], 0⟩ : Qu)], y ∈ s.st ∨ y = ⟨id, [t], 0⟩ := fun y hy => by
      rcases List.mem_append.1 hy with h | h
      · exact .inl h
      · exact .inr (List.mem_singleton.1 h)
    refine ⟨hi.l0, hi.l1, hi.q0, hi.q1, ?_, fun y hy => ?_, hlo, fun e => hal (hi.sv e)⟩
    · show ((s.st ++ [(⟨id, [t], 0⟩ : Qu)]).map (·.id)).Nodup
      rw [List.map_append, List.nodup_append]
      exact ⟨hi.nd, List.nodup_cons.2 ⟨by simp, List.nodup_nil⟩, fun a ha b hb e => by
        have hb2 : b = id := by simpa using hb
        rw [e, hb2] at ha
        exact hm ha⟩
    · rcases hall y hy with h | rfl
      · exact hi.q y h
      · have := hi.l0
        exact ⟨by simp, by simpa using this, fun u hu => by rw [List.mem_singleton.1 hu]; omega, (by decide : (0 : Int) ≤ 0), (by decide : (0 : Int) ≤ 1114111), hk⟩
theorem tail_del {st : List Qu} {id : Int} : ∀ y ∈ (delQ st id).tail, y ∈ st.tail := by
  cases st with
  | nil => intro y hy; cases hy
  | cons z r =>
    intro y hy
    by_cases e : z.id = id
    · have : delQ (z :: r) id = r := by rw [delQ, if_pos e]
      rw [this] at hy
      exact List.mem_of_mem_tail hy
    · have : delQ (z :: r) id = z :: delQ r id := by rw [delQ, if_neg e]
      rw [this, List.tail_cons] at hy
      have hsub : ∀ (l : List Qu), ∀ y ∈ delQ l id, y ∈ l := by
        intro l
        induction l with
        | nil => intro y hy; cases hy
        | cons c l ih =>
          intro y hy
          rw [delQ] at hy
          by_cases e : c.id = id
          · rw [if_pos e] at hy; exact List.mem_cons_of_mem _ hy
          · rw [if_neg e] at hy
            rcases List.mem_cons.1 hy with rfl | hy
            · exact List.mem_cons_self
            · exact List.mem_cons_of_mem _ (ih y hy)
      exact hsub r y hy
theorem FI.leave {s : FS} (hi : FI s) {id : Int} (hm : id ∈ ids s) : FI (leaveS s id) := by
  obtain ⟨a, b, hab, ha⟩ := split_of hm
  obtain ⟨d1, d2, d3⟩ := delQ_split (st := s.st) hab ha
  have hnd := hi.nd
  rw [hab] at hnd
  have hnd2 : (a ++ b).Nodup := by
    rw [List.nodup_append] at hnd ⊢
    obtain ⟨h1, h2, h3⟩ := hnd
    exact ⟨h1, (List.nodup_cons.1 h2).2, fun x hx y hy => h3 x hx y (List.mem_cons_of_mem _ hy)⟩
  refine ⟨hi.l0, hi.l1, hi.q0, hi.q1, by show ((delQ s.st id).map (·.id)).Nodup; rw [d1]; exact hnd2, fun y hy => hi.q y (d2 y hy), fun y hy => hi.low y (tail_del y hy), fun e y hy => ?_⟩
  have hh := headIs_split (st := s.st) hab ha
  by_cases hz : headIs s.st id = true
  · -- the head went: all that is left was behind it
    have hst := hi.low
    have hy2 : y ∈ delQ s.st id := hy
    generalize s.st = st at hst hz hy2
    cases st with
    | nil => cases hy2
    | cons z r =>
      have e2 : z.id = id := by simpa [headIs] using hz
      rw [delQ, if_pos e2] at hy2
      exact hst y hy2
  · have e3 : (leaveS s id).sv = s.sv := by unfold leaveS; dsimp only; rw [if_neg hz]
    exact hi.sv (e3.symm.trans e) y (d2 y hy)
theorem FI.drop {s : FS} (hi : FI s) (id : Int) : FI (dropS s id) := by
  unfold dropS
  by_cases h : id ∈ ids s
  · rw [if_pos h]; exact hi.leave h
  · rw [if_neg h]; exact hi
theorem got_FI {s : FS} {y : NR × FS} (h : Got s y) : FI s → FI y.2 := by
  induction h with
  | none h => exact fun hi => hi
  | wait h hw _ ih => exact fun hi => ih (hi.wait h hw)
  | take h hw => exact fun hi => hi.take h hw
theorem FI.next {s : FS} (hi : FI s) : FI (nextV s).2 := got_FI (got hi) hi
end Go.Proofs.Ytcieopcihbgfdaa.Fair
