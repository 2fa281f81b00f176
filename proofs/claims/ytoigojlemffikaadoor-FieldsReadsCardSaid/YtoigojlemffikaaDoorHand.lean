/- By hand: varint.form answers the first two bits of a number's shortest writing, or -1: for every int64, where the table reads 1, 2, 4, 8. -/
import Derived.Test.YtoigojlemffikaaDoorChecked
import Derived.Test.YtoigojlemffikaaDoorWMore
import Derived.WalkKit
import Derived.Lib.Hide
import Derived.LoopTactic
namespace Go.Proofs.YtoigojlemffikaaDoor.Hand
open Go.RowKit Go.Proofs.YtoigojlemffikaaDoorW.PrintWords
set_option linter.unusedVariables false
set_option linter.unusedSimpArgs false
def vform (n : Int) : Int := if n < 0 then -1 else if n < 64 then 0 else if n < 16384 then 1 else if n < 1073741824 then 2 else if n < 4611686018427387904 then 3 else -1
theorem tab_cells {w : World} (h : Kd.C (Kd.int .i64) w (some ⟨1, 0, none⟩) 4 ([1, 2, 4, 8] : List Int)) : ∀ i : Nat, i < 4 → w.cell? ⟨1, i, none⟩ = some (.int .i64 ([1, 2, 4, 8].getD i 0)) := by
  intro i hi
  obtain ⟨ad, e, hx⟩ := Kd.at_int h (i : Int) (by omega) (by omega)
  obtain rfl : (⟨1, 0, none⟩ : Addr) = ad := by injection e
  by_cases h0 : i = 0
  · subst h0; simpa [Addr.add, rd] using hx
  · simpa [Addr.add, rd, h0] using hx
set_option maxHeartbeats 800000 in
theorem form_calls (n : Int) (w : World) (hT : ∀ i : Nat, i < 4 → w.cell? ⟨1, i, none⟩ = some (.int .i64 ([1, 2, 4, 8].getD i 0))) :
    Calls Tryd.prog 40 #[.int .i64 n] w fun e w' => e = .returned (.int .i64 (vform n)) ∧ Drawn0 w w' := by
  have t0 := hT 0 (by omega)
  have t1 := hT 1 (by omega)
  have t2 := hT 2 (by omega)
  have t3 := hT 3 (by omega)
  simp at t0 t1 t2 t3
  clear hT
  go_enter Tryd.func40, Tryd.ntmps40
  go_wp2
  have i0 : ∀ w, (Instr.index 69 (.agg #[.int .i64 1, .int .i64 2, .int .i64 4, .int .i64 8]) (.int .i64 0)).run Tryd.prog w = .ok (.int .i64 1) w := fun _ => by kernel_rfl
  have i1 : ∀ w, (Instr.index 69 (.agg #[.int .i64 1, .int .i64 2, .int .i64 4, .int .i64 8]) (.int .i64 1)).run Tryd.prog w = .ok (.int .i64 2) w := fun _ => by kernel_rfl
  have i2 : ∀ w, (Instr.index 69 (.agg #[.int .i64 1, .int .i64 2, .int .i64 4, .int .i64 8]) (.int .i64 2)).run Tryd.prog w = .ok (.int .i64 4) w := fun _ => by kernel_rfl
  have i3 : ∀ w, (Instr.index 69 (.agg #[.int .i64 1, .int .i64 2, .int .i64 4, .int .i64 8]) (.int .i64 3)).run Tryd.prog w = .ok (.int .i64 8) w := fun _ => by kernel_rfl
  go_loop [6] (fun i => ∃ k : Nat, k ≤ 4 ∧ i = .int .i64 k ∧ (0 ≤ n → 0 < k → [0, 64, 16384, 1073741824, 4611686018427387904].getD k 0 ≤ n)) (fun i => 4 - (intOf i).toNat)
  case atStart => exact ⟨0, by omega, rfl, fun _ h => by omega⟩
  case round =>
    obtain ⟨k, hk, rfl, hn⟩ := hrel
    have hk' : k = 0 ∨ k = 1 ∨ k = 2 ∨ k = 3 ∨ k = 4 := by omega
    rcases hk' with rfl | rfl | rfl | rfl | rfl
    · by_cases c : n < 0
      · have c1 : decide (0 ≤ n) = false := by simp; omega
        go_wp2
        exact ⟨⟨1, by omega, rfl, fun h _ => by omega⟩, by simp [intOf]⟩
      · have c1 : decide (0 ≤ n) = true := by simp; omega
        by_cases d : n < 64
        · have d1 : (n / 64 == 0) = true := by simp; omega
          have e : vform n = 0 := by
            unfold vform
            have := hn (by omega)
            simp at this
            rw [if_neg (by omega), if_pos d]
          have E := Lib.hid e
          clear e hn
          go_wp2
          go_ret
          exact ⟨by rw [E.out]; rfl, Drawn0.refl _⟩
        · have d1 : (n / 64 == 0) = false := by simp; omega
          clear hn
          go_wp2
          exact ⟨⟨1, by omega, rfl, fun _ _ => by simp; omega⟩, by simp [intOf]⟩
    · by_cases c : n < 0
      · have c1 : decide (0 ≤ n) = false := by simp; omega
        go_wp2
        exact ⟨⟨2, by omega, rfl, fun h _ => by omega⟩, by simp [intOf]⟩
      · have c1 : decide (0 ≤ n) = true := by simp; omega
        by_cases d : n < 16384
        · have d1 : (n / 16384 == 0) = true := by simp; omega
          have e : vform n = 1 := by
            unfold vform
            have := hn (by omega)
            simp at this
            rw [if_neg (by omega), if_neg (by omega), if_pos d]
          have E := Lib.hid e
          clear e hn
          go_wp2
          go_ret
          exact ⟨by rw [E.out]; rfl, Drawn0.refl _⟩
        · have d1 : (n / 16384 == 0) = false := by simp; omega
          clear hn
          go_wp2
          exact ⟨⟨2, by omega, rfl, fun _ _ => by simp; omega⟩, by simp [intOf]⟩
    · by_cases c : n < 0
      · have c1 : decide (0 ≤ n) = false := by simp; omega
        go_wp2
        exact ⟨⟨3, by omega, rfl, fun h _ => by omega⟩, by simp [intOf]⟩
      · have c1 : decide (0 ≤ n) = true := by simp; omega
        by_cases d : n < 1073741824
        · have d1 : (n / 1073741824 == 0) = true := by simp; omega
          have e : vform n = 2 := by
            unfold vform
            have := hn (by omega)
            simp at this
            rw [if_neg (by omega), if_neg (by omega), if_neg (by omega), if_pos d]
          have E := Lib.hid e
          clear e hn
          go_wp2
          go_ret
          exact ⟨by rw [E.out]; rfl, Drawn0.refl _⟩
        · have d1 : (n / 1073741824 == 0) = false := by simp; omega
          clear hn
          go_wp2
          exact ⟨⟨3, by omega, rfl, fun _ _ => by simp; omega⟩, by simp [intOf]⟩
    · by_cases c : n < 0
      · have c1 : decide (0 ≤ n) = false := by simp; omega
        go_wp2
        exact ⟨⟨4, by omega, rfl, fun h _ => by omega⟩, by simp [intOf]⟩
      · have c1 : decide (0 ≤ n) = true := by simp; omega
        by_cases d : n < 4611686018427387904
        · have d1 : (n / 4611686018427387904 == 0) = true := by simp; omega
          have e : vform n = 3 := by
            unfold vform
            have := hn (by omega)
            simp at this
            rw [if_neg (by omega), if_neg (by omega), if_neg (by omega), if_neg (by omega), if_pos d]
          have E := Lib.hid e
          clear e hn
          go_wp2
          go_ret
          exact ⟨by rw [E.out]; rfl, Drawn0.refl _⟩
        · have d1 : (n / 4611686018427387904 == 0) = false := by simp; omega
          clear hn
          go_wp2
          exact ⟨⟨4, by omega, rfl, fun _ _ => by simp; omega⟩, by simp [intOf]⟩
    · have e : vform n = -1 := by
        unfold vform
        by_cases c : n < 0
        · rw [if_pos c]
        · have := hn (by omega) (by omega)
          simp at this
          rw [if_neg c, if_neg (by omega), if_neg (by omega), if_neg (by omega), if_neg (by omega)]
      have E := Lib.hid e
      clear e hn
      go_wp2
      go_ret
      exact ⟨by rw [E.out]; rfl, Drawn0.refl _⟩
def varint_form.f (a0 : Int) : Option Int := some (vform a0)
theorem varint_form.calls (a0 : Int) (r : Int) (w : World) (hG1 : Kd.C (Kd.int .i64) w (some ⟨1, 0, none⟩) 4 ([1, 2, 4, 8] : List Int)) (h : varint_form.f a0 = some r) :
    Calls Tryd.prog 40 #[.int .i64 a0] w fun e w' => e = .returned (.int .i64 r) ∧ Drawn0 w w' := by
  obtain rfl : vform a0 = r := by simpa [varint_form.f] using h
  exact form_calls a0 w (tab_cells hG1)
end Go.Proofs.YtoigojlemffikaaDoor.Hand
