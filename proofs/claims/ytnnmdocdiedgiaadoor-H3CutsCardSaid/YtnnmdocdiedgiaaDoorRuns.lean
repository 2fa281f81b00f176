/- h3.Reader: what it tells of bytes. -/
import Derived.Test.YtnnmdocdiedgiaaDoorFrame
namespace Go.Proofs.YtnnmdocdiedgiaaDoor.Reader
open Go.RowKit Go.Proofs.YtnnmdocdiedgiaaDoorW.PrintWords Go.Proofs.YtnnmdocdiedgiaaDoorW.PrintLast Go.Proofs.YtnnmdocdiedgiaaDoorW.PrintMore Go.Proofs.YtnnmdocdiedgiaaDoor.PH3Writes Go.Proofs.YtnnmdocdiedgiaaDoor Go.Proofs.YtnnmdocdiedgiaaDoor.Pure Go.Proofs.YtnnmdocdiedgiaaDoor.Pairs
set_option linter.unusedVariables false
set_option linter.unusedSimpArgs false
noncomputable def stepS (r : RS) : RS × List S39 × Bool :=
  match r.md with
  | .beg => begS r
  | .frm => frmS r
  | .pas => pasS r
def mdw : Md → Nat
  | .pas => 1
  | _ => 0
def Inv (r : RS) : Prop := 0 ≤ r.left ∧ r.left ≤ 4611686018427387903
theorem vget_pos (s : ByteArray) (h : (vget s).2.2 = 0) : 1 ≤ (vget s).2.1 := by
  have := vget_ok s h
  omega
/-- A step that goes on makes the rest less; what it tells was bytes. -/
structure Stp (r r1 : RS) (l1 : List S39) (b : Bool) : Prop where
  inv : Inv r1
  len : l1.length + r1.rest.size ≤ r.rest.size
  less : b = true → 2 * r1.rest.size + mdw r1.md < 2 * r.rest.size + mdw r.md
  code : b = true → r1.code = r.code
  one : l1.length ≤ 1
theorem begS_stp (r : RS) (hi : Inv r) (hm : r.md = .beg) : Stp r (begS r).1 (begS r).2.1 (begS r).2.2 := by
  unfold begS
  split
  · exact ⟨hi, by simp, by simp, by simp, by simp⟩
  split
  · exact ⟨hi, by simp, by simp, by simp, by simp⟩
  · have hz : (r.rest.extract 1 r.rest.size).size = r.rest.size - 1 := by rw [ByteArray.size_extract]; omega
    exact ⟨hi, by dsimp only; rw [hz]; simp, fun _ => by dsimp only; rw [hz, hm]; simp [mdw]; omega, fun _ => rfl, by simp⟩
theorem passN_range (r : RS) (hi : Inv r) : 0 ≤ passN r ∧ passN r ≤ r.left ∧ passN r ≤ r.rest.size := by
  have := hi.1
  unfold passN
  split <;> omega
theorem pasS_stp (r : RS) (hi : Inv r) (hm : r.md = .pas) : Stp r (pasS r).1 (pasS r).2.1 (pasS r).2.2 := by
  have hn := passN_range r hi
  have h0 := hi.1
  have h1 := hi.2
  have hz : (r.rest.extract (passN r).toNat r.rest.size).size = r.rest.size - (passN r).toNat := by rw [ByteArray.size_extract]; omega
  have hl : (passE r).length + (r.rest.size - (passN r).toNat) ≤ r.rest.size := by
    unfold passE
    split
    · split <;> simp <;> omega
    · simp
  have ho : (passE r).length ≤ 1 := by
    unfold passE
    split
    · split <;> simp
    · simp
  unfold pasS
  split
  · exact ⟨⟨by show 0 ≤ r.left - passN r; omega, by show r.left - passN r ≤ _; omega⟩, by show _ + (r.rest.extract _ _).size ≤ _; rw [hz]; exact hl, by simp, by simp, ho⟩
  · exact ⟨⟨by show 0 ≤ r.left - passN r; omega, by show r.left - passN r ≤ _; omega⟩, by show _ + (r.rest.extract _ _).size ≤ _; rw [hz]; exact hl, fun _ => by show 2 * (r.rest.extract _ _).size + _ < _; rw [hz, hm]; simp [mdw]; omega, fun _ => rfl, ho⟩
theorem frmS_stp (r : RS) (hi : Inv r) (hm : r.md = .frm) : Stp r (frmS r).1 (frmS r).2.1 (frmS r).2.2 := by
  unfold frmS
  split
  · exact ⟨hi, by simp, by simp, by simp, by simp⟩
  rename_i h1
  split
  · exact ⟨hi, by simp, by simp, by simp, by simp⟩
  rename_i h2
  have g1 := vget_range r.rest
  have p1 := vget_pos r.rest (by simpa using h1)
  have g2 := vget_range (r.rest.extract (vget r.rest).2.1.toNat r.rest.size)
  have p2 := vget_pos (r.rest.extract (vget r.rest).2.1.toNat r.rest.size) (by simpa using h2)
  clear h1 h2
  generalize (vget (r.rest.extract (vget r.rest).2.1.toNat r.rest.size)) = q at *
  generalize (vget r.rest) = p at *
  have hz : (r.rest.extract (p.2.1 + q.2.1).toNat r.rest.size).size = r.rest.size - (p.2.1 + q.2.1).toNat := by rw [ByteArray.size_extract]; omega
  have hx : (r.rest.extract p.2.1.toNat r.rest.size).size = r.rest.size - p.2.1.toNat := by rw [ByteArray.size_extract]; omega
  rw [hx] at g2
  have h2 : 2 ≤ (p.2.1 + q.2.1).toNat := by omega
  have h3 : (p.2.1 + q.2.1).toNat ≤ r.rest.size := by omega
  generalize r.rest.extract (p.2.1 + q.2.1).toNat r.rest.size = r2 at *
  unfold frmT
  split
  · exact ⟨hi, by simp, by simp, by simp, by simp⟩
  split
  · exact ⟨⟨g2.2.2.2.1, g2.2.2.2.2⟩, by dsimp only; rw [hz]; simp, fun _ => by dsimp only; rw [hz, hm]; simp [mdw]; omega, fun _ => rfl, by simp⟩
  split
  · exact ⟨hi, by simp, by simp, by simp, by simp⟩
  split
  · exact ⟨hi, by simp, by simp, by simp, by simp⟩
  split
  · exact ⟨hi, by simp, by simp, by simp, by simp⟩
  · have hy : (r2.extract q.1.toNat r2.size).size ≤ r2.size := by rw [ByteArray.size_extract]; omega
    exact ⟨hi, by dsimp only; simp only [List.length_cons, List.length_nil]; omega, fun _ => by dsimp only; rw [hm]; simp [mdw]; omega, fun _ => rfl, by simp⟩
theorem stepS_stp (r : RS) (hi : Inv r) : Stp r (stepS r).1 (stepS r).2.1 (stepS r).2.2 := by
  unfold stepS
  cases hm : r.md with
  | beg => exact begS_stp r hi hm
  | frm => exact frmS_stp r hi hm
  | pas => exact pasS_stp r hi hm
/-- What is told, and what the reader is then. -/
inductive Runs : RS → List S39 → RS → Prop
  | stop {r r' : RS} {l : List S39} (h : stepS r = (r', l, false)) : Runs r l r'
  | more {r r1 r2 : RS} {l1 l2 : List S39} (h : stepS r = (r1, l1, true)) (hn : Runs r1 l2 r2) : Runs r (l1 ++ l2) r2
theorem runs_all (n : Nat) : ∀ r : RS, Inv r → 2 * r.rest.size + mdw r.md ≤ n → ∃ l r', Runs r l r' := by
  induction n with
  | zero =>
    intro r hi hn
    obtain ⟨⟨r1, l1, b⟩, hs⟩ : ∃ p, stepS r = p := ⟨_, rfl⟩
    have hp := stepS_stp r hi
    rw [hs] at hp
    cases b with
    | false => exact ⟨l1, r1, .stop hs⟩
    | true => have := hp.less rfl; omega
  | succ n ih =>
    intro r hi hn
    obtain ⟨⟨r1, l1, b⟩, hs⟩ : ∃ p, stepS r = p := ⟨_, rfl⟩
    have hp := stepS_stp r hi
    rw [hs] at hp
    cases b with
    | false => exact ⟨l1, r1, .stop hs⟩
    | true =>
      have := hp.less rfl
      dsimp only at this
      obtain ⟨l, r', h⟩ := ih r1 hp.inv (by omega)
      exact ⟨l1 ++ l, r', .more hs h⟩
theorem runs_det {r r1 r2 : RS} {l1 l2 : List S39} (h1 : Runs r l1 r1) : Runs r l2 r2 → l1 = l2 ∧ r1 = r2 := by
  induction h1 generalizing l2 r2 with
  | stop h =>
    intro h2
    cases h2 with
    | stop h' => rw [h] at h'; cases h'; exact ⟨rfl, rfl⟩
    | more h' hn => rw [h] at h'; cases h'
  | more h hn ih =>
    intro h2
    cases h2 with
    | stop h' => rw [h] at h'; cases h'
    | more h' hn' =>
      rw [h] at h'
      cases h'
      obtain ⟨rfl, rfl⟩ := ih hn'
      exact ⟨rfl, rfl⟩
theorem runs_inv {r r' : RS} {l : List S39} (h : Runs r l r') : Inv r → Inv r' ∧ l.length + r'.rest.size ≤ r.rest.size := by
  induction h with
  | stop h =>
    intro hi
    have hp := stepS_stp _ hi
    rw [h] at hp
    exact ⟨hp.inv, hp.len⟩
  | more h hn ih =>
    intro hi
    have hp := stepS_stp _ hi
    rw [h] at hp
    obtain ⟨i2, l2⟩ := ih hp.inv
    have hl := hp.len
    dsimp only at hl
    exact ⟨i2, by rw [List.length_append]; omega⟩
theorem runs_open {r r' : RS} {l : List S39} (h : Runs r l r') : ∃ r1 l1 b, stepS r = (r1, l1, b) ∧ ((b = false ∧ l = l1 ∧ r' = r1) ∨ (b = true ∧ ∃ l2, l = l1 ++ l2 ∧ Runs r1 l2 r')) := by
  cases h with
  | stop h => exact ⟨_, _, _, h, .inl ⟨rfl, rfl, rfl⟩⟩
  | more h hn => exact ⟨_, _, _, h, .inr ⟨rfl, _, rfl, hn⟩⟩
end Go.Proofs.YtnnmdocdiedgiaaDoor.Reader
