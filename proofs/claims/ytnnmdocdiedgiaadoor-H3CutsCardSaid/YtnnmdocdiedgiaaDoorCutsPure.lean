/- h3: bytes in pieces. -/
import Derived.Test.YtnnmdocdiedgiaaDoorStrangePure
namespace Go.Proofs.YtnnmdocdiedgiaaDoor.Reader
open Go.RowKit Go.Proofs.YtnnmdocdiedgiaaDoorW.PrintWords Go.Proofs.YtnnmdocdiedgiaaDoorW.PrintLast Go.Proofs.YtnnmdocdiedgiaaDoorW.PrintMore Go.Proofs.YtnnmdocdiedgiaaDoor.PH3Writes Go.Proofs.YtnnmdocdiedgiaaDoor Go.Proofs.YtnnmdocdiedgiaaDoor.Pure Go.Proofs.YtnnmdocdiedgiaaDoor.Pairs Go.Proofs.YtnnmdocdiedgiaaDoor.Hand
set_option linter.unusedVariables false
set_option linter.unusedSimpArgs false
theorem vacc_app (x y : ByteArray) : ∀ k : Nat, k ≤ x.size → vacc (x ++ y) k = vacc x k
  | 0, _ => rfl
  | 1, h => by
    simp only [vacc]
    rw [show (0 : Int) = ((0 : Nat) : Int) from rfl, bt_append_left x y 0 (by omega)]
  | k + 2, h => by
    simp only [vacc]
    rw [vacc_app x y (k + 1) (by omega), bt_append_left x y (k + 1) (by omega)]
theorem vget_app (x y : ByteArray) (h : (vget x).2.2 = 0) : vget (x ++ y) = vget x := by
  have ho := vget_ok x h
  have hz : (x ++ y).size = x.size + y.size := ByteArray.size_append
  have hx : x.size ≠ 0 := by omega
  have hb : bt (x ++ y) 0 = bt x 0 := bt_append_left x y 0 (by omega)
  unfold vget at h ho ⊢
  rw [if_neg hx] at h ho ⊢
  rw [if_neg (by omega), hb]
  by_cases h2 : (x.size : Int) < vlenOf (bt x 0)
  · rw [if_pos h2] at h
    exact absurd h (by decide)
  · rw [if_neg h2, if_neg (by omega)]
    rw [vacc_app x y _ (by omega)]
theorem ext_app (x y : ByteArray) (n : Nat) (h : n ≤ x.size) : (x ++ y).extract n (x ++ y).size = x.extract n x.size ++ y := by
  have e : x = x.extract 0 n ++ x.extract n x.size := by rw [ByteArray.extract_append_extract]; simp
  have hs : (x.extract 0 n).size = n := by rw [ByteArray.size_extract]; omega
  conv => lhs; rw [e]
  rw [ByteArray.append_assoc]
  exact ext_tail _ _ _ _ hs.symm (by simp only [ByteArray.size_append] <;> omega)
theorem ext_app0 (x y : ByteArray) (n : Nat) (h : n ≤ x.size) : (x ++ y).extract 0 n = x.extract 0 n := by
  have e : x = x.extract 0 n ++ x.extract n x.size := by rw [ByteArray.extract_append_extract]; simp
  have hs : (x.extract 0 n).size = n := by rw [ByteArray.size_extract]; omega
  conv => lhs; rw [e]
  rw [ByteArray.append_assoc]
  exact ext_front _ _ _ hs.symm
/-! ### Events, with those of data one behind the other put together -/
def lastD : List S39 → Bool
  | [] => false
  | [x] => x.f0 == 0
  | _ :: y :: l => lastD (y :: l)
def addLast : List S39 → ByteArray → List S39
  | [], _ => []
  | [x], d => [⟨x.f0, x.f1 ++ d⟩]
  | x :: y :: l, d => x :: addLast (y :: l) d
def jn (o : List S39) (x : S39) : List S39 := if (x.f0 == 0 && lastD o) = true then addLast o x.f1 else o ++ [x]
def Jn (o l : List S39) : List S39 := l.foldl jn o
theorem lastD_snoc (o : List S39) (x : S39) : lastD (o ++ [x]) = (x.f0 == 0) := by
  induction o with
  | nil => rfl
  | cons y l ih =>
    cases l with
    | nil => rfl
    | cons z l => exact ih
theorem addLast_snoc (o : List S39) (x : S39) (d : ByteArray) : addLast (o ++ [x]) d = o ++ [⟨x.f0, x.f1 ++ d⟩] := by
  induction o with
  | nil => rfl
  | cons y l ih =>
    cases l with
    | nil => rfl
    | cons z l =>
      show y :: addLast ((z :: l) ++ [x]) d = y :: ((z :: l) ++ _)
      rw [ih]
theorem snoc_cases (o : List S39) : o = [] ∨ ∃ p x, o = p ++ [x] := by
  rcases List.eq_nil_or_concat o with h | ⟨p, x, h⟩
  · exact .inl h
  · exact .inr ⟨p, x, by rw [h]; simp⟩
def Eqv (a b : List S39) : Prop := ∀ o, Jn o a = Jn o b
theorem Eqv.rfl' (a : List S39) : Eqv a a := fun _ => rfl
theorem Eqv.trans {a b c : List S39} (h : Eqv a b) (k : Eqv b c) : Eqv a c := fun o => (h o).trans (k o)
theorem Eqv.symm {a b : List S39} (h : Eqv a b) : Eqv b a := fun o => (h o).symm
theorem Eqv.app {a b c d : List S39} (h : Eqv a b) (k : Eqv c d) : Eqv (a ++ c) (b ++ d) := fun o => by
  unfold Jn at *
  rw [List.foldl_append, List.foldl_append]
  have h1 := h o
  unfold Jn at h1
  rw [h1]
  exact k _
theorem jn_data (o : List S39) (d : ByteArray) : jn o ⟨0, d⟩ = if lastD o = true then addLast o d else o ++ [⟨0, d⟩] := by
  unfold jn
  cases lastD o <;> rfl
theorem eqv_data (a b : ByteArray) : Eqv [⟨0, a⟩, ⟨0, b⟩] [⟨0, a ++ b⟩] := fun o => by
  show jn (jn o ⟨0, a⟩) ⟨0, b⟩ = jn o ⟨0, a ++ b⟩
  rw [jn_data, jn_data, jn_data]
  rcases snoc_cases o with rfl | ⟨p, x, rfl⟩
  · rfl
  · rw [lastD_snoc, addLast_snoc, addLast_snoc]
    by_cases h : x.f0 = 0
    · have hb : (x.f0 == 0) = true := beq_iff_eq.mpr h
      rw [hb, if_pos rfl, if_pos rfl, lastD_snoc, addLast_snoc]
      dsimp only
      rw [hb, if_pos rfl, ByteArray.append_assoc]
    · have hb : (x.f0 == 0) = false := beq_eq_false_iff_ne.mpr h
      rw [hb]
      simp only [Bool.false_eq_true, if_false]
      rw [lastD_snoc, addLast_snoc]
      rfl
theorem jn_len (o : List S39) (x : S39) : (jn o x).length ≤ o.length + 1 := by
  unfold jn
  split
  · rcases snoc_cases o with rfl | ⟨p, y, rfl⟩
    · simp [addLast]
    · rw [addLast_snoc]; simp
  · simp
theorem Jn_len (l : List S39) : ∀ o, (Jn o l).length ≤ o.length + l.length := by
  induction l with
  | nil => intro o; exact Nat.le_refl _
  | cons x l ih =>
    intro o
    have h1 := ih (jn o x)
    have h2 := jn_len o x
    show (Jn (jn o x) l).length ≤ _
    rw [List.length_cons]
    omega
/-! ### More bytes behind -/
def addr (r : RS) (t : ByteArray) : RS := { r with rest := r.rest ++ t }
theorem addr_nil (r : RS) (h : r.rest.size = 0) (t : ByteArray) : addr r t = { r with rest := t } := by
  unfold addr
  rw [nil_of_size h, nil_app]
/-- A step, and the same one with more bytes behind: (1) it goes on: the same; (2) a fault: the same code; (3) nothing was done: bytes are needed; (4) data were passed, and more are awaited. -/
def Next (r : RS) (t : ByteArray) (r1 : RS) (l1 : List S39) (b : Bool) : Prop :=
  (b = true ∧ stepS (addr r t) = (addr r1 t, l1, true)) ∨ (b = false ∧ r1.code ≠ 0 ∧ l1 = [] ∧ stepS (addr r t) = ({ addr r t with code := r1.code }, [], false)) ∨
  (b = false ∧ r1 = r ∧ l1 = []) ∨ (b = false ∧ r.md = .pas ∧ (r.rest.size : Int) < r.left ∧ r1 = ⟨r.ctl, ⟨#[]⟩, r.first, r.left - r.rest.size, r.strange, r.code, .pas, r.begun⟩ ∧ l1 = (if r.rest.size > 0 then (if r.strange then [] else [⟨0, r.rest⟩]) else []))
theorem next_beg (r : RS) (t : ByteArray) (hm : r.md = .beg) : Next r t (begS r).1 (begS r).2.1 (begS r).2.2 := by
  have hs : stepS (addr r t) = begS (addr r t) := by unfold stepS addr; dsimp only; rw [hm]
  by_cases h0 : r.rest.size = 0
  · refine .inr (.inr (.inl ?_))
    unfold begS
    rw [if_pos h0]
    exact ⟨rfl, rfl, rfl⟩
  have hz : (addr r t).rest.size ≠ 0 := by show (r.rest ++ t).size ≠ 0; rw [ByteArray.size_append]; omega
  have hb : bt (addr r t).rest 0 = bt r.rest 0 := bt_append_left r.rest t 0 (by omega)
  by_cases h1 : bt r.rest 0 ≠ 0
  · refine .inr (.inl ?_)
    rw [hs]
    unfold begS
    rw [if_neg h0, if_pos h1, if_neg hz, hb, if_pos h1]
    exact ⟨rfl, by dsimp only; decide, rfl, rfl⟩
  · refine .inl ?_
    rw [hs]
    unfold begS
    rw [if_neg h0, if_neg h1, if_neg hz, hb, if_neg h1]
    refine ⟨rfl, ?_⟩
    have he : (addr r t).rest.extract 1 (addr r t).rest.size = r.rest.extract 1 r.rest.size ++ t := ext_app r.rest t 1 (by omega)
    rw [he]
    rfl
theorem next_frmT (r : RS) (t : ByteArray) (kind size : Int) (r2 : ByteArray) (h0 : 0 ≤ size) : (frmT r kind size r2).2.2 = true ∧ frmT (addr r t) kind size (r2 ++ t) = (addr (frmT r kind size r2).1 t, (frmT r kind size r2).2.1, true) ∨
    ((frmT r kind size r2).2.2 = false ∧ (frmT r kind size r2).1.code ≠ 0 ∧ (frmT r kind size r2).2.1 = [] ∧ frmT (addr r t) kind size (r2 ++ t) = ({ addr r t with code := (frmT r kind size r2).1.code }, [], false)) ∨
    ((frmT r kind size r2).2.2 = false ∧ (frmT r kind size r2).1 = r ∧ (frmT r kind size r2).2.1 = []) := by
  have hpl : plc (addr r t).ctl (addr r t).first kind = plc r.ctl r.first kind := rfl
  unfold frmT
  rw [hpl]
  by_cases h1 : plc r.ctl r.first kind ≠ 0
  · rw [if_pos h1, if_pos h1]
    exact .inr (.inl ⟨rfl, h1, rfl, rfl⟩)
  rw [if_neg h1, if_neg h1]
  by_cases h2 : kind ≠ 1 ∧ kind ≠ 4 ∧ kind ≠ 7
  · rw [if_pos h2, if_pos h2]
    exact .inl ⟨rfl, rfl⟩
  rw [if_neg h2, if_neg h2]
  by_cases h3 : size > 4096
  · rw [if_pos h3, if_pos h3]
    exact .inr (.inl ⟨rfl, by dsimp only; decide, rfl, rfl⟩)
  rw [if_neg h3, if_neg h3]
  by_cases h4 : (r2.size : Int) < size
  · rw [if_pos h4]
    exact .inr (.inr ⟨rfl, rfl, rfl⟩)
  have h4' : ¬ ((r2 ++ t).size : Int) < size := by rw [ByteArray.size_append]; omega
  have e0 : (r2 ++ t).extract 0 size.toNat = r2.extract 0 size.toNat := ext_app0 r2 t _ (by omega)
  have e1 : (r2 ++ t).extract size.toNat (r2 ++ t).size = r2.extract size.toNat r2.size ++ t := ext_app r2 t _ (by omega)
  rw [if_neg h4, if_neg h4', e0, e1]
  by_cases h5 : cont kind (r2.extract 0 size.toNat) ≠ 0
  · rw [if_pos h5, if_pos h5]
    exact .inr (.inl ⟨rfl, h5, rfl, rfl⟩)
  · rw [if_neg h5, if_neg h5]
    exact .inl ⟨rfl, rfl⟩
theorem next_frm (r : RS) (t : ByteArray) (hm : r.md = .frm) : Next r t (frmS r).1 (frmS r).2.1 (frmS r).2.2 := by
  have hs : stepS (addr r t) = frmS (addr r t) := by unfold stepS addr; dsimp only; rw [hm]
  by_cases h1 : (vget r.rest).2.2 ≠ 0
  · refine .inr (.inr (.inl ?_))
    unfold frmS
    rw [if_pos h1]
    exact ⟨rfl, rfl, rfl⟩
  have h1' : (vget r.rest).2.2 = 0 := by simpa using h1
  have g1 := vget_range r.rest
  have v1 : vget (addr r t).rest = vget r.rest := vget_app r.rest t h1'
  have x1 : (addr r t).rest.extract (vget r.rest).2.1.toNat (addr r t).rest.size = r.rest.extract (vget r.rest).2.1.toNat r.rest.size ++ t := ext_app r.rest t _ (by omega)
  by_cases h2 : (vget (r.rest.extract (vget r.rest).2.1.toNat r.rest.size)).2.2 ≠ 0
  · refine .inr (.inr (.inl ?_))
    unfold frmS
    rw [if_neg h1, if_pos h2]
    exact ⟨rfl, rfl, rfl⟩
  have h2' : (vget (r.rest.extract (vget r.rest).2.1.toNat r.rest.size)).2.2 = 0 := by simpa using h2
  have g2 := vget_range (r.rest.extract (vget r.rest).2.1.toNat r.rest.size)
  have hx : (r.rest.extract (vget r.rest).2.1.toNat r.rest.size).size = r.rest.size - (vget r.rest).2.1.toNat := by rw [ByteArray.size_extract]; omega
  have v2 : vget (r.rest.extract (vget r.rest).2.1.toNat r.rest.size ++ t) = vget (r.rest.extract (vget r.rest).2.1.toNat r.rest.size) := vget_app _ t h2'
  have x2 : (addr r t).rest.extract ((vget r.rest).2.1 + (vget (r.rest.extract (vget r.rest).2.1.toNat r.rest.size)).2.1).toNat (addr r t).rest.size = r.rest.extract ((vget r.rest).2.1 + (vget (r.rest.extract (vget r.rest).2.1.toNat r.rest.size)).2.1).toNat r.rest.size ++ t := ext_app r.rest t _ (by omega)
  have e1 : frmS r = frmT r (vget r.rest).1 (vget (r.rest.extract (vget r.rest).2.1.toNat r.rest.size)).1 (r.rest.extract ((vget r.rest).2.1 + (vget (r.rest.extract (vget r.rest).2.1.toNat r.rest.size)).2.1).toNat r.rest.size) := by
    unfold frmS
    rw [if_neg h1, if_neg h2]
  have e2 : frmS (addr r t) = frmT (addr r t) (vget r.rest).1 (vget (r.rest.extract (vget r.rest).2.1.toNat r.rest.size)).1 (r.rest.extract ((vget r.rest).2.1 + (vget (r.rest.extract (vget r.rest).2.1.toNat r.rest.size)).2.1).toNat r.rest.size ++ t) := by
    unfold frmS
    rw [v1, if_neg h1, x1, v2, if_neg h2, x2]
  have hn := next_frmT r t (vget r.rest).1 (vget (r.rest.extract (vget r.rest).2.1.toNat r.rest.size)).1 (r.rest.extract ((vget r.rest).2.1 + (vget (r.rest.extract (vget r.rest).2.1.toNat r.rest.size)).2.1).toNat r.rest.size) g2.2.2.2.1
  rw [← e1, ← e2] at hn
  rw [← hs] at hn
  rcases hn with h | h | h
  · exact .inl h
  · exact .inr (.inl h)
  · exact .inr (.inr (.inl h))
theorem next_pas (r : RS) (t : ByteArray) (hi : Inv r) (hm : r.md = .pas) : Next r t (pasS r).1 (pasS r).2.1 (pasS r).2.2 := by
  have hs : stepS (addr r t) = pasS (addr r t) := by unfold stepS addr; dsimp only; rw [hm]
  have h0 := hi.1
  by_cases h1 : (r.rest.size : Int) < r.left
  · refine .inr (.inr (.inr ?_))
    have hn : passN r = r.rest.size := by unfold passN; rw [if_pos h1]
    have e1 : r.rest.extract (r.rest.size : Int).toNat r.rest.size = ⟨#[]⟩ := nil_of_size (by rw [ByteArray.size_extract]; omega)
    have e2 : r.rest.extract 0 (r.rest.size : Int).toNat = r.rest := by rw [Int.toNat_natCast]; exact ByteArray.extract_zero_size
    unfold pasS passR passE
    rw [hn]
    dsimp only
    rw [if_pos (by omega), e1, e2]
    refine ⟨rfl, hm, h1, ?_, ?_⟩
    · dsimp only
      rw [hm]
    · by_cases h2 : r.rest.size > 0
      · rw [if_pos h2, if_pos (show (r.rest.size : Int) > 0 by omega)]
      · rw [if_neg h2, if_neg (show ¬ (r.rest.size : Int) > 0 by omega)]
  · refine .inl ?_
    have hn : passN r = r.left := by unfold passN; rw [if_neg h1]
    have hn2 : passN (addr r t) = r.left := by unfold passN addr; dsimp only; rw [if_neg (by rw [ByteArray.size_append]; omega)]
    have e0 : (addr r t).rest.extract 0 r.left.toNat = r.rest.extract 0 r.left.toNat := ext_app0 r.rest t _ (by omega)
    have e1 : (addr r t).rest.extract r.left.toNat (addr r t).rest.size = r.rest.extract r.left.toNat r.rest.size ++ t := ext_app r.rest t _ (by omega)
    rw [hs]
    unfold pasS passR passE
    rw [hn, hn2]
    dsimp only
    have hc : ¬ (r.left - r.left > 0) := by omega
    rw [e0, e1, show (addr r t).left = r.left from rfl, show (addr r t).strange = r.strange from rfl, if_neg hc, if_neg hc]
    exact ⟨rfl, rfl⟩
theorem next_step (r : RS) (t : ByteArray) (hi : Inv r) {r1 : RS} {l1 : List S39} {b : Bool} (h : stepS r = (r1, l1, b)) : Next r t r1 l1 b := by
  unfold stepS at h
  cases hm : r.md with
  | beg =>
    rw [hm] at h
    have h2 := next_beg r t hm
    dsimp only at h
    rw [h] at h2
    exact h2
  | frm =>
    rw [hm] at h
    have h2 := next_frm r t hm
    dsimp only at h
    rw [h] at h2
    exact h2
  | pas =>
    rw [hm] at h
    have h2 := next_pas r t hi hm
    dsimp only at h
    rw [h] at h2
    exact h2
/-- Data that were awaited: in one, or in two. -/
theorem pas_two (ctl first strange begun : Bool) (left code : Int) (s t : ByteArray) (h0 : (s.size : Int) < left) {l2 : List S39} {r'' : RS} (hr : Runs ⟨ctl, t, first, left - s.size, strange, code, .pas, begun⟩ l2 r'') :
    ∃ l3, Runs ⟨ctl, s ++ t, first, left, strange, code, .pas, begun⟩ l3 r'' ∧ Eqv l3 ((if s.size > 0 then (if strange then [] else [⟨0, s⟩]) else []) ++ l2) := by
  obtain ⟨r1, m1, b, hst, hor⟩ := runs_open hr
  have hz : (s ++ t).size = s.size + t.size := ByteArray.size_append
  obtain ⟨n, hn⟩ : ∃ n, passN ⟨ctl, t, first, left - s.size, strange, code, .pas, begun⟩ = n := ⟨_, rfl⟩
  have hr0 : 0 ≤ n ∧ n ≤ t.size := by
    rw [← hn]
    unfold passN
    dsimp only
    split <;> omega
  have hn2 : passN ⟨ctl, s ++ t, first, left, strange, code, .pas, begun⟩ = s.size + n := by
    rw [← hn]
    unfold passN
    dsimp only
    rw [hz]
    split <;> split <;> omega
  have e1 : (s ++ t).extract ((s.size : Int) + n).toNat (s ++ t).size = t.extract n.toNat t.size := by
    rw [show ((s.size : Int) + n).toNat = s.size + n.toNat by omega, hz]
    have h1 : t = t.extract 0 n.toNat ++ t.extract n.toNat t.size := by rw [ByteArray.extract_append_extract]; simp
    have h2 : (t.extract 0 n.toNat).size = n.toNat := by rw [ByteArray.size_extract]; omega
    have h3 : (t.extract n.toNat t.size).size = t.size - n.toNat := by rw [ByteArray.size_extract]; omega
    conv => lhs; rw [h1]
    rw [← ByteArray.append_assoc]
    exact ext_tail _ _ _ _ (by rw [ByteArray.size_append]; omega) (by rw [ByteArray.size_append, ByteArray.size_append]; omega)
  have e2 : (s ++ t).extract 0 ((s.size : Int) + n).toNat = s ++ t.extract 0 n.toNat := by
    rw [show ((s.size : Int) + n).toNat = s.size + n.toNat by omega]
    have h1 : t = t.extract 0 n.toNat ++ t.extract n.toNat t.size := by rw [ByteArray.extract_append_extract]; simp
    have h2 : (t.extract 0 n.toNat).size = n.toNat := by rw [ByteArray.size_extract]; omega
    conv => lhs; rw [h1]
    rw [← ByteArray.append_assoc]
    exact ext_front _ _ _ (by rw [ByteArray.size_append]; omega)
  have hst1 : pasS ⟨ctl, t, first, left - s.size, strange, code, .pas, begun⟩ = (r1, m1, b) := hst
  have key : ∃ m3, stepS ⟨ctl, s ++ t, first, left, strange, code, .pas, begun⟩ = (r1, m3, b) ∧ Eqv m3 ((if s.size > 0 then (if strange then [] else [⟨0, s⟩]) else []) ++ m1) := by
    refine ⟨passE ⟨ctl, s ++ t, first, left, strange, code, .pas, begun⟩, ?_, ?_⟩
    · show pasS _ = _
      unfold pasS passR at hst1 ⊢
      rw [hn] at hst1
      rw [hn2]
      dsimp only at hst1 ⊢
      rw [e1, show left - ((s.size : Int) + n) = left - s.size - n by omega]
      split at hst1
      · rename_i hc
        rw [if_pos hc]
        cases hst1
        rfl
      · rename_i hc
        rw [if_neg hc]
        cases hst1
        rfl
    · have hm1 : m1 = passE ⟨ctl, t, first, left - s.size, strange, code, .pas, begun⟩ := by
        unfold pasS at hst1
        split at hst1 <;> cases hst1 <;> rfl
      rw [hm1]
      unfold passE
      rw [hn, hn2]
      dsimp only
      rw [e2]
      cases strange
      · by_cases hs : s.size > 0
        · rw [if_pos hs, if_pos (show (s.size : Int) + n > 0 by omega)]
          by_cases hp : n > 0
          · rw [if_pos hp]
            exact (eqv_data s (t.extract 0 n.toNat)).symm
          · rw [if_neg hp]
            have e3 : t.extract 0 n.toNat = ⟨#[]⟩ := nil_of_size (by rw [ByteArray.size_extract]; omega)
            rw [e3, app_nil]
            exact Eqv.rfl' _
        · rw [if_neg hs, nil_of_size (show s.size = 0 by omega), nil_app]
          show Eqv (if ((0 : Nat) : Int) + n > 0 then _ else _) _
          by_cases hp : n > 0
          · rw [if_pos hp, if_pos (by omega)]
            exact Eqv.rfl' _
          · rw [if_neg hp, if_neg (by omega)]
            exact Eqv.rfl' _
      · have ee : ∀ (c : Prop) [Decidable c] (q : List S39), (if c then (if true = true then ([] : List S39) else q) else []) = [] := fun c _ q => by split <;> rfl
        rw [ee, ee, ee]
        exact Eqv.rfl' _
  obtain ⟨m3, hs3, he3⟩ := key
  rcases hor with ⟨rfl, rfl, rfl⟩ | ⟨rfl, l4, rfl, hn4⟩
  · exact ⟨m3, .stop hs3, he3⟩
  · exact ⟨m3 ++ l4, .more hs3 hn4, by rw [← List.append_assoc]; exact he3.app (Eqv.rfl' _)⟩
/-- What is told of bytes in two pieces. -/
theorem runs_app {r r' : RS} {l : List S39} (h : Runs r l r') : Inv r → r'.code = 0 → ∀ (t : ByteArray) (l2 : List S39) (r'' : RS), Runs (addr r' t) l2 r'' → ∃ l3, Runs (addr r t) l3 r'' ∧ Eqv l3 (l ++ l2) := by
  induction h with
  | @stop r r' l h =>
    intro hi hc t l2 r'' h2
    rcases next_step _ t hi h with ⟨hb, _⟩ | ⟨_, hb, _⟩ | ⟨_, rfl, rfl⟩ | ⟨_, hm, hl, rfl, rfl⟩
    · cases hb
    · exact absurd hc hb
    · exact ⟨l2, h2, Eqv.rfl' _⟩
    · obtain ⟨ctl, rest, first, left, strange, code, md, begun⟩ := r
      subst hm
      have e : addr (⟨ctl, ⟨#[]⟩, first, left - rest.size, strange, code, .pas, begun⟩ : RS) t = ⟨ctl, t, first, left - rest.size, strange, code, .pas, begun⟩ := addr_nil _ rfl t
      rw [e] at h2
      exact pas_two ctl first strange begun left code rest t hl h2
  | more h hn ih =>
    intro hi hc t l2 r'' h2
    have hp := stepS_stp _ hi
    rw [h] at hp
    obtain ⟨l3, h3, he⟩ := ih hp.inv hc t l2 r'' h2
    rcases next_step _ t hi h with ⟨_, hs⟩ | ⟨hb, _⟩ | ⟨hb, _⟩ | ⟨hb, _⟩
    · exact ⟨_, .more hs h3, by rw [List.append_assoc]; exact (Eqv.rfl' _).app he⟩
    · cases hb
    · cases hb
    · cases hb
theorem runs_fault {r r' : RS} {l : List S39} (h : Runs r l r') : Inv r → r.code = 0 → r'.code ≠ 0 → ∀ (t : ByteArray), ∃ r'', Runs (addr r t) l r'' ∧ r''.code = r'.code := by
  induction h with
  | stop h =>
    intro hi h0 hc t
    rcases next_step _ t hi h with ⟨hb, _⟩ | ⟨_, hb, rfl, hs⟩ | ⟨_, rfl, rfl⟩ | ⟨_, hm, hl, rfl, rfl⟩
    · cases hb
    · exact ⟨_, .stop hs, rfl⟩
    · exact absurd h0 hc
    · exact absurd h0 hc
  | more h hn ih =>
    intro hi h0 hc t
    have hp := stepS_stp _ hi
    rw [h] at hp
    obtain ⟨r'', h3, he⟩ := ih hp.inv ((hp.code rfl).trans h0) hc t
    rcases next_step _ t hi h with ⟨_, hs⟩ | ⟨hb, _⟩ | ⟨hb, _⟩ | ⟨hb, _⟩
    · exact ⟨r'', .more hs h3, he⟩
    · cases hb
    · cases hb
    · cases hb
end Go.Proofs.YtnnmdocdiedgiaaDoor.Reader
