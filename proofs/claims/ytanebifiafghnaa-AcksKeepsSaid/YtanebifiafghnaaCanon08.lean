/- Layer 8: right ranges with the same numbers are the same; what Add leaves holds the numbers; two sets side by side. -/
import Derived.Test.YtanebifiafghnaaRight08
namespace Go.Proofs.Ytanebifiafghnaa.Ack
open Go.RowKit Go.Deep Go.Proofs.YtanebifiafghnaaW.PrintWords Go.Proofs.YtanebifiafghnaaW.PrintLast Go.Proofs.YtanebifiafghnaaW.PrintMore Go.Proofs.Ytanebifiafghnaa.PAcksRight Go.Proofs.Ytanebifiafghnaa
set_option linter.unusedVariables false
set_option linter.unusedSimpArgs false
theorem any_iff (q : Int) (l : List S35) : anyR q l = true ↔ ∃ x ∈ l, x.f0 ≤ q ∧ q ≤ x.f1 := by
  unfold anyR inR
  simp only [List.any_eq_true, Bool.and_eq_true, decide_eq_true_eq, ge_iff_le]
theorem NF.tail {x : S35} {l : List S35} (h : NF (x :: l)) : NF l := ⟨fun y hy => h.fine y (List.mem_cons_of_mem _ hy), (List.pairwise_cons.1 h.apart).2⟩
theorem NF.top {x : S35} {l : List S35} (h : NF (x :: l)) : ∀ y ∈ l, y.f1 + 1 < x.f0 := (List.pairwise_cons.1 h.apart).1
theorem canon (a : List S35) : ∀ b : List S35, NF a → NF b → (∀ q, anyR q a = true ↔ anyR q b = true) → a = b := by
  induction a with
  | nil =>
    intro b ha hb h
    cases b with
    | nil => rfl
    | cons y t =>
      have f := hb.fine y (List.mem_cons_self ..)
      have := (h y.f0).2 ((any_iff _ _).2 ⟨y, List.mem_cons_self .., by omega, by omega⟩)
      obtain ⟨z, hz, _⟩ := (any_iff _ _).1 this
      cases hz
  | cons x s ih =>
    intro b ha hb h
    have fx := ha.fine x (List.mem_cons_self ..)
    cases b with
    | nil =>
      have := (h x.f0).1 ((any_iff _ _).2 ⟨x, List.mem_cons_self .., by omega, by omega⟩)
      obtain ⟨z, hz, _⟩ := (any_iff _ _).1 this
      cases hz
    | cons y t =>
      have fy := hb.fine y (List.mem_cons_self ..)
      have inx : ∀ q, anyR q (x :: s) = true → q ≤ x.f1 ∧ (q < x.f0 → q + 1 < x.f0) := by
        intro q hq
        obtain ⟨z, hz, h1, h2⟩ := (any_iff _ _).1 hq
        rcases List.mem_cons.1 hz with rfl | hz
        · exact ⟨h2, fun h => by omega⟩
        · have := ha.top z hz
          exact ⟨by omega, fun h => by omega⟩
      have iny : ∀ q, anyR q (y :: t) = true → q ≤ y.f1 ∧ (q < y.f0 → q + 1 < y.f0) := by
        intro q hq
        obtain ⟨z, hz, h1, h2⟩ := (any_iff _ _).1 hq
        rcases List.mem_cons.1 hz with rfl | hz
        · exact ⟨h2, fun h => by omega⟩
        · have := hb.top z hz
          exact ⟨by omega, fun h => by omega⟩
      have hx : ∀ q, x.f0 ≤ q → q ≤ x.f1 → anyR q (y :: t) = true := fun q h0 h1 => (h q).1 ((any_iff _ _).2 ⟨x, List.mem_cons_self .., h0, h1⟩)
      have hy : ∀ q, y.f0 ≤ q → q ≤ y.f1 → anyR q (x :: s) = true := fun q h0 h1 => (h q).2 ((any_iff _ _).2 ⟨y, List.mem_cons_self .., h0, h1⟩)
      have e1 : x.f1 = y.f1 := by
        have a1 := (iny x.f1 (hx _ (by omega) (by omega))).1
        have a2 := (inx y.f1 (hy _ (by omega) (by omega))).1
        omega
      have e0 : x.f0 = y.f0 := by
        rcases Int.lt_trichotomy x.f0 y.f0 with hl | he | hg
        · have := (iny (y.f0 - 1) (hx _ (by omega) (by omega))).2 (by omega)
          omega
        · exact he
        · have := (inx (x.f0 - 1) (hy _ (by omega) (by omega))).2 (by omega)
          omega
      have exy : x = y := by
        cases x; cases y
        dsimp only at e0 e1
        subst e0 e1
        rfl
      subst exy
      rw [ih t ha.tail hb.tail (fun q => ?_)]
      constructor
      · intro hq
        obtain ⟨z, hz, h1, h2⟩ := (any_iff _ _).1 hq
        have := ha.top z hz
        obtain ⟨z2, hz2, g1, g2⟩ := (any_iff _ _).1 ((h q).1 ((any_iff _ _).2 ⟨z, List.mem_cons_of_mem _ hz, h1, h2⟩))
        rcases List.mem_cons.1 hz2 with rfl | hz2
        · omega
        · exact (any_iff _ _).2 ⟨z2, hz2, g1, g2⟩
      · intro hq
        obtain ⟨z, hz, h1, h2⟩ := (any_iff _ _).1 hq
        have := hb.top z hz
        obtain ⟨z2, hz2, g1, g2⟩ := (any_iff _ _).1 ((h q).2 ((any_iff _ _).2 ⟨z, List.mem_cons_of_mem _ hz, h1, h2⟩))
        rcases List.mem_cons.1 hz2 with rfl | hz2
        · omega
        · exact (any_iff _ _).2 ⟨z2, hz2, g1, g2⟩
theorem any_at (q : Int) (l : List S35) : anyR q l = true ↔ ∃ i, i < l.length ∧ (l.getD i z35).f0 ≤ q ∧ q ≤ (l.getD i z35).f1 := by
  rw [any_iff]
  constructor
  · rintro ⟨x, hx, h⟩
    obtain ⟨i, hi, rfl⟩ := List.mem_iff_getElem.1 hx
    exact ⟨i, hi, by rw [getD_eq hi]; exact h⟩
  · rintro ⟨i, hi, h⟩
    exact ⟨_, getD_mem hi, h⟩
theorem NF.down {l : List S35} (h : NF l) {a b : Nat} (hab : a ≤ b) (hb : b < l.length) : (l.getD b z35).f0 ≤ (l.getD a z35).f0 ∧ (l.getD b z35).f1 ≤ (l.getD a z35).f1 := by
  rcases Nat.eq_or_lt_of_le hab with rfl | hlt
  · exact ⟨Int.le_refl _, Int.le_refl _⟩
  · have := h.lt hlt hb
    have := h.fine _ (getD_mem hb)
    have := h.fine _ (getD_mem (show a < l.length by omega))
    omega
theorem newR_any {l : List S35} (h : NF l) {lo hi : Int} (hf : fineB ⟨lo, hi⟩ = true) {fr up : Nat} (h1 : Turn l.length fr (fun t => decide ((l.getD t z35).f0 ≤ hi + 1))) (h2 : Turn l.length up (fun t => decide ((l.getD t z35).f1 + 1 < lo))) (q : Int) :
    ((newR l lo hi fr up).f0 ≤ q ∧ q ≤ (newR l lo hi fr up).f1) ↔ ((lo ≤ q ∧ q ≤ hi) ∨ ∃ t, fr ≤ t ∧ t < up ∧ (l.getD t z35).f0 ≤ q ∧ q ≤ (l.getD t z35).f1) := by
  obtain ⟨g0, g1, g2⟩ := (fineB_iff _).1 hf
  dsimp only at g0 g1 g2
  have hle1 := h1.le
  have hle2 := h2.le
  unfold newR
  by_cases hd : fr < up
  · rw [if_pos hd]
    dsimp only
    have b1 := of_decide_eq_true (h1.ge fr (Nat.le_refl _) (by omega))
    have b2 := of_decide_eq_false (h2.lt (up - 1) (by omega))
    constructor
    · rintro ⟨c1, c2⟩
      by_cases d1 : q < lo
      · exact .inr ⟨up - 1, by omega, by omega, by omega, by omega⟩
      · by_cases d2 : hi < q
        · exact .inr ⟨fr, by omega, by omega, by omega, by omega⟩
        · exact .inl ⟨by omega, by omega⟩
    · rintro (⟨c1, c2⟩ | ⟨t, t1, t2, c1, c2⟩)
      · omega
      · have d1 := h.down (show t ≤ up - 1 by omega) (by omega)
        have d2 := h.down t1 (by omega)
        omega
  · rw [if_neg hd]
    dsimp only
    constructor
    · exact fun h => .inl h
    · rintro (h | ⟨t, t1, t2, _⟩)
      · exact h
      · omega
theorem AddR.any {l l' : List S35} {lo hi : Int} (h : AddR l l' lo hi) (hn : NF l) (hf : fineB ⟨lo, hi⟩ = true) (hl : l.length < 16) (q : Int) : l'.length ≤ l.length + 1 ∧ (anyR q l' = true ↔ (anyR q l = true ∨ lo ≤ q ∧ q ≤ hi)) := by
  obtain ⟨fr, up, h1, h2, rfl⟩ := h.out
  have hle1 := h1.le
  have hle2 := h2.le
  have hlen : (l.take fr ++ newR l lo hi fr up :: l.drop (max fr up)).length ≤ l.length + 1 := by
    rw [List.length_append, List.length_cons, List.length_take, List.length_drop]; omega
  rw [List.take_of_length_le (by omega)]
  refine ⟨hlen, ?_⟩
  have hnw := newR_any hn hf h1 h2 q
  rw [any_iff]
  constructor
  · rintro ⟨x, hx, hq⟩
    rcases List.mem_append.1 hx with hx | hx
    · exact .inl ((any_iff _ _).2 ⟨x, List.mem_of_mem_take hx, hq⟩)
    · rcases List.mem_cons.1 hx with rfl | hx
      · rcases hnw.1 hq with c | ⟨t, t1, t2, c⟩
        · exact .inr c
        · exact .inl ((any_at _ _).2 ⟨t, by omega, c⟩)
      · exact .inl ((any_iff _ _).2 ⟨x, List.mem_of_mem_drop hx, hq⟩)
  · intro hq
    rcases hq with hq | hq
    · obtain ⟨t, ht, c⟩ := (any_at _ _).1 hq
      by_cases t1 : t < fr
      · exact ⟨l.getD t z35, List.mem_append_left _ (List.mem_take_iff_getElem.2 ⟨t, by omega, (getD_eq ht).symm⟩), c⟩
      · by_cases t2 : t < up
        · exact ⟨_, List.mem_append_right _ (List.mem_cons_self ..), hnw.2 (.inr ⟨t, by omega, t2, c⟩)⟩
        · refine ⟨l.getD t z35, List.mem_append_right _ (List.mem_cons_of_mem _ ?_), c⟩
          rw [getD_eq ht]
          exact List.mem_iff_getElem.2 ⟨t - max fr up, by rw [List.length_drop]; omega, by rw [List.getElem_drop]; congr 1; omega⟩
    · exact ⟨_, List.mem_append_right _ (List.mem_cons_self ..), hnw.2 (.inl hq)⟩
/-- The ranges l hold the right ones of the numbers ys. -/
structure Holds (l : List S35) (ys : List Int) : Prop where
  nf : NF l
  len : l.length ≤ ys.length
  mem : ∀ q, anyR q l = true ↔ (q ∈ ys ∧ 0 ≤ q ∧ q ≤ 4611686018427387903)
theorem Holds.nil : Holds [] [] := ⟨NF.nil, Nat.le_refl _, fun q => Iff.intro (fun h => absurd h (by unfold anyR; simp)) (fun h => absurd h.1 (by simp))⟩
theorem Holds.step {l l2 : List S35} {ys : List Int} {y : Int} (h : Holds l ys) (ha : AddA l l2 y y) (hy : ys.length < 16) : Holds l2 (ys ++ [y]) := by
  have hlen := h.len
  cases hf : fineB ⟨y, y⟩ with
  | true =>
    have hr := fun q => (ha.yes hf).any h.nf hf (by omega) q
    obtain ⟨g0, g1, g2⟩ := (fineB_iff _).1 hf
    dsimp only at g0 g1 g2
    refine ⟨ha.nf, by rw [List.length_append]; have := (hr 0).1; simp only [List.length_cons, List.length_nil]; omega, fun q => ?_⟩
    rw [(hr q).2, h.mem q, List.mem_append, List.mem_singleton]
    constructor
    · rintro (⟨a, b⟩ | c)
      · exact ⟨.inl a, b⟩
      · exact ⟨.inr (by omega), by omega, by omega⟩
    · rintro ⟨a | rfl, b⟩
      · exact .inl ⟨a, b⟩
      · exact .inr ⟨Int.le_refl _, Int.le_refl _⟩
  | false =>
    obtain rfl := ha.no hf
    refine ⟨h.nf, by rw [List.length_append]; omega, fun q => ?_⟩
    rw [h.mem q, List.mem_append, List.mem_singleton]
    constructor
    · rintro ⟨a, b⟩
      exact ⟨.inl a, b⟩
    · rintro ⟨a | rfl, b⟩
      · exact ⟨a, b⟩
      · exact absurd ((fineB_iff ⟨q, q⟩).2 ⟨b.1, Int.le_refl _, b.2⟩) (by rw [hf]; decide)
theorem Holds.same {la lb : List S35} {m p : List Int} (ha : Holds la m) (hb : Holds lb p) (h : ∀ q, q ∈ p ↔ q ∈ m) : la = lb :=
  canon la lb ha.nf hb.nf (fun q => by rw [ha.mem q, hb.mem q, h q])
theorem take_step {m : List Int} {i : Nat} (h : i < m.length) : m.take (i + 1) = m.take i ++ [m.getD i 0] := by
  rw [List.take_succ_eq_append_getElem h, List.getD_eq_getElem?_getD, List.getElem?_eq_getElem h]; rfl
theorem Holds.next {l l2 : List S35} {m : List Int} {i : Nat} (h : Holds l (m.take i)) (ha : AddA l l2 (m.getD i 0) (m.getD i 0)) (hi : i < m.length) (hm : m.length ≤ 16) : Holds l2 (m.take (i + 1)) := by
  rw [take_step hi]
  exact h.step ha (by rw [List.length_take]; omega)
/-- Two numbers change places. -/
def swapL (p : List Int) (x y : Nat) : List Int := (p.set x (p.getD y 0)).set y (p.getD x 0)
theorem swap_len (p : List Int) (x y : Nat) : (swapL p x y).length = p.length := by unfold swapL; rw [List.length_set, List.length_set]
theorem getD_int {p : List Int} {i : Nat} (h : i < p.length) : p.getD i 0 = p[i] := by rw [List.getD_eq_getElem?_getD, List.getElem?_eq_getElem h]; rfl
theorem swap_mem {p : List Int} {x y : Nat} (hx : x < p.length) (hy : y < p.length) (q : Int) : q ∈ swapL p x y ↔ q ∈ p := by
  unfold swapL
  rw [getD_int hx, getD_int hy]
  exact (List.set_set_perm hx hy).mem_iff
theorem has_fine {l : List S35} {m : List Int} {i : Nat} (h : Holds l m) (hi : i < m.length) : anyR (m.getD i 0) l = (decide (0 ≤ m.getD i 0) && decide (m.getD i 0 ≤ 4611686018427387903)) := by
  rw [Bool.eq_iff_iff, h.mem, Bool.and_eq_true, decide_eq_true_eq, decide_eq_true_eq]
  exact ⟨fun h => h.2, fun h => ⟨by rw [getD_int hi]; exact List.getElem_mem _, h⟩⟩
/-- A row of numbers stays, where a set's act changed nothing but the set. -/
theorem row_keep {α : Type} {d : Kd α} {e : TypeId} {w w1 : World} {base : Nat} {ok : Nat → Prop} {v : Value} {xs : List α} {g : Nat} {row : Option Nat} (hE : d.E = []) (h : d.R e w base ok v xs) (hk : KeepBut w w1 g row) (h1 : some g ≠ v.ownBlock) (h2 : ∀ k, v.ownBlock = some k → some k ≠ row) : d.R e w1 base ok v xs :=
  Kd.R_reok hE (Kd.R_step (Kd.R_tight hE h) (fun k hk1 hlt => hk.2 k hlt (fun he => h1 (by rw [← he]; exact hk1)) (h2 k hk1.symm))) (fun k hk1 => h.1 k hk1)
theorem ints_keep {w w1 : World} {B base : Nat} {ok : Nat → Prop} {v va : Value} {xs : List Int} {g : Nat} {l : List S35} (h : Kd.R (Kd.int .i64) 2 w base ok v xs) (hs : SG B w g l va) (hk : KeepBut w w1 g va.ownBlock) : Kd.R (Kd.int .i64) 2 w1 base ok v xs :=
  row_keep rfl h hk (blk_apart h hs.blk (by decide)) (fun k hk1 he => by
    obtain ⟨c1, h1⟩ := Kd.R_typed h k hk1
    obtain ⟨c2, h2⟩ := Kd.R_typed hs.row k he.symm
    rw [h1] at h2
    injection h2 with h2
    injection h2 with _ h2 _
    exact absurd h2 (by decide))
/-- Two sets side by side. -/
structure Two (w W : World) (ga gb : Nat) (va vb : Value) (la lb : List S35) : Prop where
  a : SG w.heap.size W ga la va
  b : SG w.heap.size W gb lb vb
  ne : ga ≠ gb
  dj : ∀ k, va.ownBlock = some k → vb.ownBlock ≠ some k
  bel : Below w.heap.size w W
theorem Two.swap {w W : World} {ga gb : Nat} {va vb : Value} {la lb : List S35} (h : Two w W ga gb va vb la lb) : Two w W gb ga vb va lb la := ⟨h.b, h.a, h.ne.symm, fun k h1 h2 => h.dj k h2 h1, h.bel⟩
theorem Two.below {w W W2 : World} {ga gb : Nat} {va vb : Value} {la lb : List S35} (h : Two w W ga gb va vb la lb) (hb : Below W.heap.size W W2) : Two w W2 ga gb va vb la lb := ⟨h.a.below hb, h.b.below hb, h.ne, h.dj, below_step h.bel hb⟩
theorem Two.act {w W W2 : World} {ga gb : Nat} {va vb v2 : Value} {la lb l2 : List S35} (h : Two w W ga gb va vb la lb) (s : SP w W W2 ga va v2 l2) : Two w W2 ga gb v2 vb l2 lb := by
  have hbb : ∀ k, vb.ownBlock = some k → some k ≠ va.ownBlock := fun k h1 h2 => h.dj k h2.symm h1
  refine ⟨s.lg, ⟨s.keep.blk h.b.blk h.ne.symm (blk_apart h.a.row h.b.blk (by decide)), row_keep rfl h.b.row s.keep (blk_apart h.b.row h.a.blk (by decide)) hbb⟩, h.ne, fun k h1 h2 => ?_, s.bel⟩
  rcases s.own with ho | ho | ⟨b, ho, hb⟩
  · exact h.dj k (ho.symm.trans h1) h2
  · rw [ho] at h1; cases h1
  · rw [ho] at h1
    injection h1 with h1
    obtain ⟨c, hc⟩ := Kd.R_typed h.b.row k h2
    have := blk_lt hc
    omega
end Go.Proofs.Ytanebifiafghnaa.Ack
