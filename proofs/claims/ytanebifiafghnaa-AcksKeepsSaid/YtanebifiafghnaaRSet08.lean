/- Layer 8: the ref's Set: its state, and what its functions leave. gen/mk_rset08.py writes this text. -/
import Derived.Test.YtanebifiafghnaaRight08
namespace Go.Proofs.Ytanebifiafghnaa.Ack
open Go.RowKit Go.Deep Go.Proofs.YtanebifiafghnaaW.PrintWords Go.Proofs.YtanebifiafghnaaW.PrintLast Go.Proofs.YtanebifiafghnaaW.PrintMore Go.Proofs.Ytanebifiafghnaa.PAcksRight Go.Proofs.Ytanebifiafghnaa
set_option linter.unusedVariables false
set_option linter.unusedSimpArgs false
attribute [local go_sem] max2_int min2_int max_two min_two
/-- The ref's Set at g holds the ranges l; its row is v. -/
structure RG (B : Nat) (w : World) (g : Nat) (l : List S35) (v : Value) : Prop where
  blk : w.heap[g]? = some (.cells #[v] 43 (0, 0))
  row : Kd.R k35 35 w B (fun k => k ≠ g) v l
theorem RG.below {B : Nat} {w w2 : World} {g : Nat} {l : List S35} {v : Value} (h : RG B w g l v) (hb : Below w.heap.size w w2) : RG B w2 g l v := ⟨blk_below h.blk hb, Kd.R_below h.row hb⟩
/-- What an act of the ref leaves: its block is turned, its old row stays as it was, the new row is fresh (or the old one). -/
structure RQ (w0 W w' : World) (g : Nat) (v v' : Value) (l' : List S35) : Prop where
  lg : RG w0.heap.size w' g l' v'
  bel : Below w0.heap.size w0 w'
  keep : KeepBut W w' g none
  own : RO W v v'
/-- Two rows that grow. -/
structure Parts (w1 wr : World) (va vb : Value) (a b : List S35) : Prop where
  ra : Kd.R k35 35 wr w1.heap.size (fun _ => True) va a
  rb : Kd.R k35 35 wr w1.heap.size (fun _ => True) vb b
  dj : ∀ k, va.ownBlock = some k → vb.ownBlock ≠ some k
  bel : Below w1.heap.size w1 wr
theorem Parts.start (w1 : World) : Parts w1 w1 (.slice none 0 0) (.slice none 0 0) [] [] := ⟨Kd.R_nil _ _ _ _ _, Kd.R_nil _ _ _ _ _, fun k hk => (by cases hk), Below.refl _ _⟩
theorem Parts.swap {w1 wr : World} {va vb : Value} {a b : List S35} (h : Parts w1 wr va vb a b) : Parts w1 wr vb va b a := ⟨h.rb, h.ra, fun k h1 h2 => h.dj k h2 h1, h.bel⟩
theorem Parts.below {w1 wr w2 : World} {va vb : Value} {a b : List S35} (h : Parts w1 wr va vb a b) (hb : Below wr.heap.size wr w2) : Parts w1 w2 va vb a b := ⟨Kd.R_below h.ra hb, Kd.R_below h.rb hb, h.dj, below_step h.bel hb⟩
theorem Parts.app {w1 wr w2 : World} {va vb v2 : Value} {a b a2 : List S35} (h : Parts w1 wr va vb a b) (hR : Kd.R k35 35 w2 w1.heap.size (fun _ => True) v2 a2) (hg : wr.grownBy w2 va.ownBlock) (hat : v2.ownBlock = va.ownBlock ∨ ∃ k, v2.ownBlock = some k ∧ wr.heap.size ≤ k) : Parts w1 w2 v2 vb a2 b := by
  refine ⟨hR, Kd.R_reok (ok := fun _ => True) rfl (Kd.R_step (Kd.R_tight rfl h.rb) (fun k hk1 hlt => hg.block k hlt (fun he => h.dj k he.symm hk1.symm))) (fun _ _ => trivial), fun k h1 h2 => ?_, h.bel.grown hg h.bel.size (fun j hj => Kd.R_base h.ra j hj)⟩
  rcases hat with ho | ⟨b, ho, hb⟩
  · exact h.dj k (ho.symm.trans h1) h2
  · rw [ho] at h1
    injection h1 with h1
    have := Kd.R_lt h.rb k h2
    omega
structure RSt where
  a : List S35
  lo : Int
  hi : Int
  b : List S35
def rstep (s : RSt) (x : S35) : RSt := if s.hi + 1 < x.f0 then ⟨s.a ++ [x], s.lo, s.hi, s.b⟩ else if x.f1 + 1 < s.lo then ⟨s.a, s.lo, s.hi, s.b ++ [x]⟩ else ⟨s.a, min s.lo x.f0, max s.hi x.f1, s.b⟩
def rfold (l : List S35) (lo hi : Int) : RSt := l.foldl rstep ⟨[], lo, hi, []⟩
def raddL (l : List S35) (lo hi : Int) : List S35 := ((rfold l lo hi).a ++ ⟨(rfold l lo hi).lo, (rfold l lo hi).hi⟩ :: (rfold l lo hi).b).take 16
theorem take_step35 {l : List S35} {i : Nat} (h : i < l.length) : l.take (i + 1) = l.take i ++ [l.getD i z35] := by
  rw [getD_eq h, List.take_succ_eq_append_getElem h]
theorem rfold_step {l : List S35} {i : Nat} (h : i < l.length) (lo hi : Int) : rfold (l.take (i + 1)) lo hi = rstep (rfold (l.take i) lo hi) (l.getD i z35) := by
  unfold rfold
  rw [take_step35 h, List.foldl_append]
  rfl
theorem rinfo35_ : (Try.prog.info? 35).map (fun i => (i.zero, i.size, i.bytes)) = some (some (.agg #[.int .i64 0, .int .i64 0]), 2, 16) := by kernel_rfl
set_option maxHeartbeats 8000000 in
set_option maxRecDepth 100000 in
theorem rfine_c (lo hi : Int) (W : World) : Calls Try.prog 21 #[.int .i64 lo, .int .i64 hi] W fun e w' => e = .returned (.bool (fineB ⟨lo, hi⟩)) ∧ Drawn0 W w' := by
  have hf : (decide (0 ≤ lo) = false ∧ decide (lo ≥ 0) = false ∧ fineB ⟨lo, hi⟩ = false) ∨ (decide (0 ≤ lo) = true ∧ decide (lo ≥ 0) = true ∧ decide (hi ≤ 4611686018427387903) = false ∧ fineB ⟨lo, hi⟩ = false) ∨ (decide (0 ≤ lo) = true ∧ decide (lo ≥ 0) = true ∧ decide (hi ≤ 4611686018427387903) = true ∧ decide (lo ≤ hi) = false ∧ fineB ⟨lo, hi⟩ = false) ∨ (decide (0 ≤ lo) = true ∧ decide (lo ≥ 0) = true ∧ decide (hi ≤ 4611686018427387903) = true ∧ decide (lo ≤ hi) = true ∧ fineB ⟨lo, hi⟩ = true) := by
    unfold fineB
    dsimp only
    by_cases h1 : 0 ≤ lo <;> by_cases h2 : hi ≤ 4611686018427387903 <;> by_cases h3 : lo ≤ hi <;> simp [h1, h2, h3]
  rcases hf with ⟨D1, D2, HF⟩ | ⟨D1, D2, D3, HF⟩ | ⟨D1, D2, D3, D4, HF⟩ | ⟨D1, D2, D3, D4, HF⟩ <;>
  · have HF' := Aside0.mk HF
    clear HF
    go_enter Try.func21, Try.ntmps21
    go_wp2_with (fail)
    go_ret
    exact ⟨by rw [HF'.out]; rfl, by repeat (first | exact Drawn0.refl _ | apply Drawn0.step)⟩
set_option maxHeartbeats 8000000 in
set_option maxRecDepth 100000 in
theorem rhas_c (g B : Nat) (l : List S35) (v : Value) (n : Int) (W : World) (h : RG B W g l v) (hl : l.length ≤ 100000) :
    Calls Try.prog 19 #[.pointer (some ⟨g, 0, none⟩), .int .i64 n] W fun e w' => e = .returned (.bool (anyR n l)) ∧ Drawn0 W w' := by
  obtain ⟨A, c, rfl⟩ := Kd.R_slice h.row
  have c0 := (show _ = some (Value.slice A l.length c) from (blk_cell h.blk 0).trans rfl)
  have HS := Aside0.mk (Kd.R_reads' h.row).2.2
  have HN := Aside0.mk hl
  clear h hl
  go_enter Try.func19, Try.ntmps19
  go_wp2_with (fail)
  obtain ⟨w2, hw2⟩ : ∃ x, x = W := ⟨_, rfl⟩
  subst hw2
  go_loopw [5] (fun v5 wr => ∃ i : Nat, v5 = .int .i64 (i : Int) ∧ Aside0 (i ≤ l.length) ∧ Aside0 ((l.take i).any (inR n) = false) ∧ wr = w2) (fun v5 _ => ((l.length : Int) - intOf v5).toNat)
  case atStart => exact ⟨0, rfl, ⟨Nat.zero_le _⟩, ⟨rfl⟩, rfl⟩
  case round =>
    obtain ⟨i, rfl, HI, HF, rfl⟩ := hrel
    by_cases d1 : (i : Int) < (l.length : Int)
    · have M1 : decide ((i : Int) < (l.length : Int)) = true := decide_eq_true d1
      have M1' : decide (i < l.length) = true := decide_eq_true (by omega)
      have n1 : i < l.length := by omega
      have hw1 : wrap64 ((i : Int) + 1) = ((i + 1 : Nat) : Int) := by have := HN.out; unfold wrap64; omega
      have hw2 : IntKind.i64.wrap ((i : Int) + 1) = ((i + 1 : Nat) : Int) := (i64_w _).trans hw1
      obtain ⟨ad, hA, x0, x1⟩ := at35 HS.out i n1
      subst hA
      have HT := Aside0.mk (any_step n l i n1)
      have HH := Aside0.mk (fun h : inR n (l.getD i z35) = true => show anyR n l = true from List.any_eq_true.2 ⟨_, getD_mem n1, h⟩)
      generalize l.getD i z35 = x at x0 x1 HT HH
      obtain ⟨lo, hi⟩ := x
      dsimp only at x0 x1
      have HJ := Aside0.mk d1
      have p1 := eq_true d1
      have p2 : ((i : Int) < (l.length : Int)) = True := p1
      have p3 := eq_true n1
      clear d1 n1
      by_cases e1 : n ≥ lo
      · have E1 : decide (n ≥ lo) = true := decide_eq_true e1
        have E1' : decide (lo ≤ n) = true := decide_eq_true e1
        by_cases e2 : n ≤ hi
        · have E2 : decide (n ≤ hi) = true := decide_eq_true e2
          have hh : anyR n l = true := HH.out (by unfold inR; simp only [Bool.and_eq_true, decide_eq_true_eq]; exact ⟨e1, e2⟩)
          have HHH := Aside0.mk hh
          clear e1 e2 hh
          go_wp2_with (fail)
          go_ret
          exact ⟨by rw [HHH.out]; rfl, by repeat (first | exact Drawn0.refl _ | apply Drawn0.step)⟩
        · have E2 : decide (n ≤ hi) = false := decide_eq_false e2
          have HQ : Aside0 ((l.take (i + 1)).any (inR n) = false) := ⟨by rw [HT.out, HF.out]; unfold inR; rw [Bool.false_or]; simp only [Bool.and_eq_false_iff, decide_eq_false_iff_not]; exact .inr e2⟩
          clear e1 e2
          go_wp2_with (fail)
          go_roundw
          case rel => exact ⟨i + 1, by first | rfl | simp, ⟨by have := HJ.out; omega⟩, HQ, by first | rfl | trivial⟩
          case measure => have := HJ.out; simp [intOf]; omega
      · have E1 : decide (n ≥ lo) = false := decide_eq_false e1
        have E1' : decide (lo ≤ n) = false := decide_eq_false e1
        have HQ : Aside0 ((l.take (i + 1)).any (inR n) = false) := ⟨by rw [HT.out, HF.out]; unfold inR; rw [Bool.false_or]; simp only [Bool.and_eq_false_iff, decide_eq_false_iff_not]; exact .inl e1⟩
        clear e1
        go_wp2_with (fail)
        go_roundw
        case rel => exact ⟨i + 1, by first | rfl | simp, ⟨by have := HJ.out; omega⟩, HQ, by first | rfl | trivial⟩
        case measure => have := HJ.out; simp [intOf]; omega
    · have M1 : decide ((i : Int) < (l.length : Int)) = false := decide_eq_false d1
      have M1' : decide (i < l.length) = false := decide_eq_false (by omega)
      have hh : anyR n l = false := by have h := HF.out; rw [List.take_of_length_le (by omega)] at h; exact h
      have HHH := Aside0.mk hh
      clear d1 hh
      go_wp2_with (fail)
      go_ret
      exact ⟨by rw [HHH.out]; rfl, by repeat (first | exact Drawn0.refl _ | apply Drawn0.step)⟩
end Go.Proofs.Ytanebifiafghnaa.Ack
