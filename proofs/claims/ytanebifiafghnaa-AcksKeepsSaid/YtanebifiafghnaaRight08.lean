/- Layer 8: right ranges pass Check; Add told for any numbers; what Drop leaves. -/
import Derived.Test.YtanebifiafghnaaDrop08
namespace Go.Proofs.Ytanebifiafghnaa.Ack
open Go.RowKit Go.Deep Go.Proofs.YtanebifiafghnaaW.PrintWords Go.Proofs.YtanebifiafghnaaW.PrintLast Go.Proofs.YtanebifiafghnaaW.PrintMore Go.Proofs.Ytanebifiafghnaa.PAcksRight Go.Proofs.Ytanebifiafghnaa
set_option linter.unusedVariables false
set_option linter.unusedSimpArgs false
theorem wrap_in (n : Int) (h0 : -9223372036854775808 ≤ n) (h1 : n < 9223372036854775808) : wrap64 n = n := by unfold wrap64; omega
theorem fineA (a b : Int) (h : 0 ≤ a ∧ a ≤ b ∧ b ≤ 4611686018427387903) : acks_fine.f a b = some true := by
  rw [acks_fine_f, (fineB_iff _).2 h]
theorem check_nf_loop (l : List S35) (h : NF l) (hl : l.length ≤ 16) (d : Nat) : ∀ i : Nat, l.length - i = d → i ≤ l.length → Ev (fun k => acks_Check.l0 k l l (l.length : Int) i) 0 := by
  induction d with
  | zero =>
    intro i hd hi
    refine Ev.step (f := fun _ => some 0) (fun k => ?_) (Ev.now _)
    simp only [acks_Check.l0]; rw [if_neg (by omega)]
  | succ d ih =>
    intro i hd hi
    have hi2 : i < l.length := by omega
    have f := h.fine _ (getD_mem hi2)
    refine Ev.step (fun k => ?_) (ih (i + 1) (by omega) (by omega))
    simp only [acks_Check.l0]
    have e : rd_T35 l (i : Int) = l.getD i z35 := rfl
    rw [if_pos (by omega), if_pos (by omega), if_pos (by omega), e, fineA _ _ f, Option.bind_some, if_pos rfl]
    by_cases h0 : (i : Int) > 0
    · have g := h.lt (a := i - 1) (b := i) (by omega) hi2
      have f2 := h.fine _ (getD_mem (show i - 1 < l.length by omega))
      have e1 : wrap64 ((i : Int) - 1) = ((i - 1 : Nat) : Int) := by rw [wrap_in _ (by omega) (by omega)]; omega
      have e2 : rd_T35 l ((i - 1 : Nat) : Int) = l.getD (i - 1) z35 := rfl
      rw [if_pos h0, e1, if_pos (by omega), if_pos (by omega), e2, wrap_in _ (by omega) (by omega), if_neg (by omega), wrap_in _ (by omega) (by omega)]
      rfl
    · rw [if_neg h0, wrap_in _ (by omega) (by omega)]
      rfl
theorem check_nf {l : List S35} (h : NF l) (hl : l.length ≤ 16) : ∃ k, acks_Check.f k l = some 0 := by
  refine (Ev.congr (fun k => ?_) (check_nf_loop l h hl l.length 0 (by omega) (by omega))).rounds
  simp only [acks_Check.f]; rw [if_neg (by omega)]; rfl
theorem same_loop (l : List S35) (hl : l.length ≤ 1000) (d : Nat) : ∀ i : Nat, l.length - i = d → i ≤ l.length → Ev (fun k => vizardref08_Same.l0 k l l i) true := by
  induction d with
  | zero =>
    intro i hd hi
    refine Ev.step (f := fun _ => some true) (fun k => ?_) (Ev.now _)
    simp only [vizardref08_Same.l0]; rw [if_neg (by omega)]
  | succ d ih =>
    intro i hd hi
    refine Ev.step (fun k => ?_) (ih (i + 1) (by omega) (by omega))
    simp only [vizardref08_Same.l0]
    rw [if_pos (by omega), if_pos (by omega), if_pos (by omega), if_neg (by simp), wrap_in _ (by omega) (by omega)]
    rfl
theorem same_self (l : List S35) (hl : l.length ≤ 1000) : ∃ k, vizardref08_Same.f k l l = some true := by
  refine (Ev.congr (fun k => ?_) (same_loop l hl l.length 0 (by omega) (by omega))).rounds
  simp only [vizardref08_Same.f]
  rw [if_pos trivial]
  rfl
def addE (lo hi : Int) : Int := if fineB ⟨lo, hi⟩ = true then 0 else 2
/-- What Add leaves, for any numbers. -/
structure AddA (l l2 : List S35) (lo hi : Int) : Prop where
  nf : NF l2
  len : l2.length ≤ 16
  yes : fineB ⟨lo, hi⟩ = true → AddR l l2 lo hi
  no : fineB ⟨lo, hi⟩ = false → l2 = l
theorem add_any (w0 W w1 : World) (g : Nat) (v v1 : Value) (l : List S35) (lo hi : Int) (h : SP w0 W w1 g v v1 l) (hg : w0.heap.size ≤ g) (hN : NF l) (hl : l.length ≤ 16) :
    Calls Try.prog 13 #[.pointer (some ⟨g, 0, none⟩), .int .i64 lo, .int .i64 hi] w1 fun e w' => ∃ v2 l2, e = .returned (.int .i64 (addE lo hi)) ∧ SP w0 W w' g v v2 l2 ∧ AddA l l2 lo hi := by
  unfold addE
  cases hf : fineB ⟨lo, hi⟩ with
  | true =>
    refine (add_ok w0 W w1 g v v1 l lo hi h hg hN hl hf).mono ?_
    rintro e w' ⟨v2, l2, rfl, h2, ha⟩
    have hn := ha.nf hN hf
    exact ⟨v2, l2, rfl, h2, ⟨hn.1, hn.2, fun _ => ha, fun hh => absurd (hf.symm.trans hh) (by decide)⟩⟩
  | false =>
    refine (add_bad w0 W w1 g v v1 l lo hi h hg hf).mono ?_
    rintro e w' ⟨rfl, h2⟩
    exact ⟨v1, l, rfl, h2, ⟨hN, hl, fun hh => absurd (hf.symm.trans hh) (by decide), fun _ => rfl⟩⟩
theorem NF.turn3 {l : List S35} (h : NF l) (n : Int) : ∃ r, Turn l.length r (fun t => decide ((l.getD t z35).f1 < n)) :=
  turn_ex _ _ (fun a b hab hb ha => decide_eq_true (by
    have ha := of_decide_eq_true ha
    rcases Nat.eq_or_lt_of_le hab with rfl | hlt
    · exact ha
    · have := h.lt hlt hb
      have := h.fine _ (getD_mem (show a < l.length by omega))
      omega))
abbrev dropL (n : Int) (r : Nat) (l : List S35) : List S35 := (l.take r).map (clampL n)
theorem drop_nf {l : List S35} {n : Int} {r : Nat} (h : NF l) (ht : Turn l.length r (fun t => decide ((l.getD t z35).f1 < n))) : NF (dropL n r l) := by
  refine ⟨fun x hx => ?_, ?_⟩
  · obtain ⟨y, hy, rfl⟩ := List.mem_map.1 hx
    obtain ⟨i, hi, hil, rfl⟩ := mem_take hy
    have a := h.fine _ (getD_mem hil)
    have b := of_decide_eq_false (ht.lt i hi)
    unfold clampL
    dsimp only
    omega
  · refine List.Pairwise.map _ (fun a b hab => ?_) (h.apart.sublist (List.take_sublist _ _))
    unfold clampL
    dsimp only
    omega
theorem drop_any {l : List S35} {n : Int} {r : Nat} (h : NF l) (ht : Turn l.length r (fun t => decide ((l.getD t z35).f1 < n))) (q : Int) : anyR q (dropL n r l) = (anyR q l && decide (q ≥ n)) := by
  rw [Bool.eq_iff_iff, Bool.and_eq_true, decide_eq_true_eq]
  unfold anyR inR
  simp only [List.any_eq_true, Bool.and_eq_true, decide_eq_true_eq]
  constructor
  · rintro ⟨x, hx, h1, h2⟩
    obtain ⟨y, hy, rfl⟩ := List.mem_map.1 hx
    unfold clampL at h1 h2
    dsimp only at h1 h2
    exact ⟨⟨y, List.mem_of_mem_take hy, by omega, h2⟩, by omega⟩
  · rintro ⟨⟨x, hx, h1, h2⟩, h3⟩
    obtain ⟨i, hi, rfl⟩ := List.mem_iff_getElem.1 hx
    rcases Nat.lt_or_ge i r with hr | hr
    · exact ⟨clampL n l[i], List.mem_map.2 ⟨l[i], List.mem_take_iff_getElem.2 ⟨i, by omega, rfl⟩, rfl⟩, by unfold clampL; dsimp only; omega, h2⟩
    · have b := of_decide_eq_true (ht.ge i hr hi)
      rw [getD_eq hi] at b
      omega
theorem drop_low {l : List S35} {n : Int} {r : Nat} : ∀ x ∈ dropL n r l, n ≤ x.f0 := by
  intro x hx
  obtain ⟨y, hy, rfl⟩ := List.mem_map.1 hx
  unfold clampL
  dsimp only
  omega
theorem drop_len {l : List S35} {n : Int} {r : Nat} : (dropL n r l).length ≤ l.length := by
  rw [List.length_map, List.length_take]; omega
end Go.Proofs.Ytanebifiafghnaa.Ack
