/- The chapter's window: its contracts. -/
import Derived.Test.YtligpakpgifkdaaProg
import Derived.Test.YtligpakpgifkdaaWMore
import Derived.Test.YtligpakpgifkdaaConv
import Derived.WalkKit
import Derived.LoopN
import Derived.IntWalk
import Derived.BigRegion
namespace Go.Proofs.Ytligpakpgifkdaa.Hand
open Go.RowKit Go.Proofs.YtligpakpgifkdaaW.PrintWords Go.Proofs.YtligpakpgifkdaaW.PrintLast Go.Proofs.YtligpakpgifkdaaW.PrintMore
set_option linter.unusedVariables false
set_option linter.unusedSimpArgs false
attribute [local go_sem] max2_int min2_int max_two min_two
/-- The greatest of the first i numbers, 0 if there is none. -/
def tops (xs : List Int) : Nat → Int
  | 0 => 0
  | i + 1 => if tops xs i < xs.getD i 0 then xs.getD i 0 else tops xs i
theorem row_at {w : World} {A : Option Addr} {n : Nat} {xs : List Int} (h : (Kd.int .i64).C w A n xs) (i : Nat) (hi : i < n) : ∃ ad, A = some ad ∧ w.cell? (ad.add i) = some (.int .i64 (xs.getD i 0)) := by
  obtain ⟨ad, e, hc⟩ := (Kd.reads_of_C (d := (0 : Int)) h).at_ (i : Int) (by omega) (by omega)
  exact ⟨ad, e, by simpa [rdOf] using hc⟩
set_option maxHeartbeats 4000000 in
set_option maxRecDepth 100000 in
theorem top_c (g n c : Nat) (A : Option Addr) (xs : List Int) (W : World) (hb : W.heap[g]? = some (.cells #[.slice A n c] 33 (0, 0))) (hC : (Kd.int .i64).C W A n xs) :
    Calls Try.prog 14 #[.pointer (some ⟨g, 0, none⟩)] W fun e w' => e = .returned (.tuple #[.int .i64 (tops xs n), .bool (decide (0 < n))]) ∧ W.drew = w' := by
  have hcell : W.cell? ⟨g, 0, none⟩ = some (.slice A n c) := (blk_cell hb 0).trans rfl
  have hmax : n ≤ 9223372036854775807 := Kd.C_max hC
  have HC := Aside0.mk hC
  have HM := Aside0.mk hmax
  clear hb hC hmax
  go_enter Try.func14, Try.ntmps14
  go_wp2_with (fail)
  go_loopw [4, 5] (fun v4 v5 wr => ∃ i : Nat, v4 = .int .i64 (tops xs i) ∧ v5 = .int .i64 (i : Int) ∧ Aside0 (i ≤ n) ∧ wr = W) (fun _ v5 _ => (n - (intOf v5).toNat))
  case atStart => exact ⟨0, rfl, rfl, ⟨Nat.zero_le _⟩, rfl⟩
  case round =>
    obtain ⟨i, rfl, rfl, hi, rfl⟩ := hrel
    by_cases c1 : (i : Int) < (n : Int)
    · have C1 : decide ((i : Int) < (n : Int)) = true := decide_eq_true c1
      obtain ⟨ad, rfl, hx⟩ := row_at HC.out i (by omega)
      have p0 := eq_true (show (0 : Int) ≤ (i : Int) by omega)
      have p1 := eq_true c1
      have hm := HM.out
      have hw1 : wrap64 ((i : Int) + 1) = ((i + 1 : Nat) : Int) := by unfold wrap64; omega
      have hw2 : IntKind.i64.wrap ((i : Int) + 1) = ((i + 1 : Nat) : Int) := (i64_w _).trans hw1
      have HI := Aside0.mk (show i < n by omega)
      have hx' : wr.cell? (ad.add ((i : Int).toNat)) = some (.int .i64 (xs.getD i 0)) := by simpa using hx
      clear c1 hi hm
      go_wp2_with (fail)
      go_roundw
      case rel => exact ⟨i + 1, rfl, rfl, ⟨HI.out⟩, by first | rfl | trivial⟩
      case measure => have := HI.out; simp [intOf]; omega
    · have C1 : decide ((i : Int) < (n : Int)) = false := decide_eq_false c1
      have hn : i = n := by have := hi.out; omega
      subst hn
      clear c1
      go_wp2_with (fail)
      go_region
      all_goals go_wp2
      go_ret2
      exact ⟨rfl, rfl⟩
/-- The chapter's answer. -/
def rck (xs : List Int) (n : Int) : Int := if n < 0 ∨ n > 4611686018427387903 then 2 else if ((xs.length : Int) > 0 ∧ n ≤ wrap64 (tops xs xs.length - 64)) then 11 else if n ∈ xs then 11 else 0
set_option maxHeartbeats 8000000 in
set_option maxRecDepth 100000 in
theorem rcheck_c (g c : Nat) (A : Option Addr) (xs : List Int) (n : Int) (W : World) (hb : W.heap[g]? = some (.cells #[.slice A xs.length c] 33 (0, 0))) (hC : (Kd.int .i64).C W A xs.length xs) :
    Calls Try.prog 11 #[.pointer (some ⟨g, 0, none⟩), .int .i64 n] W fun e w' => e = .returned (.int .i64 (rck xs n)) ∧ (W = w' ∨ W.drew = w') := by
  unfold rck
  have hcell : W.cell? ⟨g, 0, none⟩ = some (.slice A xs.length c) := (blk_cell hb 0).trans rfl
  have hmax : xs.length ≤ 9223372036854775807 := Kd.C_max hC
  have HB := Aside0.mk hb
  have HC := Aside0.mk hC
  have HM := Aside0.mk hmax
  clear hb hC hmax
  by_cases c1 : n < 0
  · have C1 : decide (n < 0) = true := decide_eq_true c1
    rw [if_pos (.inl c1)]
    clear c1
    go_enter Try.func11, Try.ntmps11
    go_wp2_with (fail)
    go_ret
    exact ⟨rfl, .inl rfl⟩
  have C1 : decide (n < 0) = false := decide_eq_false c1
  by_cases c2 : n > 4611686018427387903
  · have C2 : decide (n > 4611686018427387903) = true := decide_eq_true c2
    have C2' : decide (4611686018427387903 < n) = true := decide_eq_true c2
    rw [if_pos (.inr c2)]
    clear c1 c2
    go_enter Try.func11, Try.ntmps11
    go_wp2_with (fail)
    go_ret
    exact ⟨rfl, .inl rfl⟩
  have C2 : decide (n > 4611686018427387903) = false := decide_eq_false c2
  have C2' : decide (4611686018427387903 < n) = false := decide_eq_false c2
  rw [if_neg (fun h => h.elim c1 c2)]
  clear c1 c2
  by_cases c3 : ((xs.length : Int) > 0 ∧ n ≤ wrap64 (tops xs xs.length - 64))
  · rw [if_pos c3]
    have c31 := c3.1
    have C3 : decide (0 < xs.length) = true := decide_eq_true (by omega)
    have C3' := eq_true (show 0 < xs.length by omega)
    clear c31
    have C4 : decide (n ≤ wrap64 (tops xs xs.length - 64)) = true := decide_eq_true c3.2
    clear c3
    go_enter Try.func11, Try.ntmps11
    go_wp2_with (go_at_call 14; (with_reducible refine (top_c g xs.length c A xs _ HB.out HC.out).mono ?_); rintro e w1 ⟨rfl, rfl⟩)
    go_ret
    exact ⟨rfl, .inr rfl⟩
  rw [if_neg c3]
  obtain ⟨r, hr⟩ : ∃ r : Int, (if n ∈ xs then (11 : Int) else 0) = r := ⟨_, rfl⟩
  rw [hr]
  have HR := Aside0.mk hr
  clear hr
  have ways : (decide (0 < xs.length) = false ∧ (0 < xs.length) = False) ∨ (decide (0 < xs.length) = true ∧ (0 < xs.length) = True ∧ decide (n ≤ wrap64 (tops xs xs.length - 64)) = false) := by
    by_cases c4 : (xs.length : Int) > 0
    · exact .inr ⟨decide_eq_true (by omega), eq_true (by omega), decide_eq_false (fun h => c3 ⟨c4, h⟩)⟩
    · exact .inl ⟨decide_eq_false (by omega), eq_false (by omega)⟩
  clear c3
  have HL0 : ∀ i : Nat, i < xs.length → ∃ ad, A = some ad ∧ W.cell? (ad.add i) = some (.int .i64 (xs.getD i 0)) := fun i hi => row_at HC.out i hi
  have HL0 := Aside0.mk HL0
  rcases ways with ⟨D1, D2⟩ | ⟨D1, D2, D3⟩
  · go_enter Try.func11, Try.ntmps11
    go_wp2_with (go_at_call 14; (with_reducible refine (top_c g xs.length c A xs _ HB.out HC.out).mono ?_); rintro e w1 ⟨rfl, hw⟩; have hcell1 : w1.cell? ⟨g, 0, none⟩ = some (.slice A xs.length c) := (by rw [← hw]; exact hcell); have HL := Aside0.mk (show ∀ i : Nat, i < xs.length → ∃ ad, A = some ad ∧ w1.cell? (ad.add i) = some (.int .i64 (xs.getD i 0)) from (by rw [← hw]; exact HL0.out)); have HW := Aside0.mk hw; clear hw hcell HL0)
    go_loopw [7] (fun v7 wr => ∃ i : Nat, v7 = .int .i64 (i : Int) ∧ Aside0 (i ≤ xs.length ∧ n ∉ xs.take i) ∧ wr = w1) (fun v7 _ => (xs.length - (intOf v7).toNat))
    case atStart => exact ⟨0, rfl, ⟨Nat.zero_le _, by simp⟩, rfl⟩
    case round =>
      obtain ⟨i, rfl, hi, hwr⟩ := hrel
      subst hwr
      by_cases c1 : (i : Int) < (xs.length : Int)
      · have E1 : decide ((i : Int) < (xs.length : Int)) = true := decide_eq_true c1
        obtain ⟨ad, rfl, hx⟩ := HL.out i (by omega)
        have p0 := eq_true (show (0 : Int) ≤ (i : Int) by omega)
        have p1 := eq_true c1
        have hm := HM.out
        have hil : i < xs.length := by omega
        have hw1 : wrap64 ((i : Int) + 1) = ((i + 1 : Nat) : Int) := by unfold wrap64; omega
        have hw2 : IntKind.i64.wrap ((i : Int) + 1) = ((i + 1 : Nat) : Int) := (i64_w _).trans hw1
        have hx' : wr.cell? (ad.add ((i : Int).toNat)) = some (.int .i64 (xs.getD i 0)) := by simpa using hx
        have hg : xs.getD i 0 = xs[i] := by simp [hil]
        have htk : xs.take (i + 1) = xs.take i ++ [xs[i]] := by simp
        by_cases c5 : xs.getD i 0 = n
        · have E5 : (xs.getD i 0 == n) = true := beq_iff_eq.mpr c5
          have hmem : n ∈ xs := by rw [← c5, hg]; exact List.getElem_mem _
          obtain rfl : r = 11 := by rw [← HR.out, if_pos hmem]
          clear HR
          clear c1 hi hm hx' hmem hg htk hil
          generalize xs.getD i 0 = y at hx E5 c5
          clear c5
          go_wp2_with (fail)
          go_ret
          exact ⟨rfl, .inr HW.out⟩
        · have E5 : (xs.getD i 0 == n) = false := beq_eq_false_iff_ne.mpr c5
          have HI := Aside0.mk hil
          have hnot : n ∉ xs.take (i + 1) := by
            rw [htk, List.mem_append]
            rintro (h | h)
            · exact hi.out.2 h
            · rw [List.mem_singleton] at h; exact c5 (hg.trans h.symm)
          have HN := Aside0.mk hnot
          clear c1 hi hm hx' hnot hg htk hil
          generalize xs.getD i 0 = y at hx E5 c5
          clear c5
          go_wp2_with (fail)
          go_roundw
          case rel => exact ⟨i + 1, rfl, ⟨HI.out, HN.out⟩, by first | rfl | trivial⟩
          case measure => have := HI.out; simp [intOf]; omega
      · have E1 : decide ((i : Int) < (xs.length : Int)) = false := decide_eq_false c1
        have hmem : n ∉ xs := by
          have h := hi.out
          rw [show xs.take i = xs from List.take_of_length_le (by omega)] at h
          exact h.2
        obtain rfl : r = 0 := by rw [← HR.out, if_neg hmem]
        clear HR
        have E2 : decide (i < xs.length) = false := decide_eq_false (by omega)
        have E3 : (i < xs.length) = False := eq_false (by omega)
        clear c1 hi hmem
        go_wp2_with (fail)
        go_ret
        exact ⟨rfl, .inr HW.out⟩
  · go_enter Try.func11, Try.ntmps11
    go_wp2_with (go_at_call 14; (with_reducible refine (top_c g xs.length c A xs _ HB.out HC.out).mono ?_); rintro e w1 ⟨rfl, hw⟩; have hcell1 : w1.cell? ⟨g, 0, none⟩ = some (.slice A xs.length c) := (by rw [← hw]; exact hcell); have HL := Aside0.mk (show ∀ i : Nat, i < xs.length → ∃ ad, A = some ad ∧ w1.cell? (ad.add i) = some (.int .i64 (xs.getD i 0)) from (by rw [← hw]; exact HL0.out)); have HW := Aside0.mk hw; clear hw hcell HL0)
    go_loopw [7] (fun v7 wr => ∃ i : Nat, v7 = .int .i64 (i : Int) ∧ Aside0 (i ≤ xs.length ∧ n ∉ xs.take i) ∧ wr = w1) (fun v7 _ => (xs.length - (intOf v7).toNat))
    case atStart => exact ⟨0, rfl, ⟨Nat.zero_le _, by simp⟩, rfl⟩
    case round =>
      obtain ⟨i, rfl, hi, hwr⟩ := hrel
      subst hwr
      by_cases c1 : (i : Int) < (xs.length : Int)
      · have E1 : decide ((i : Int) < (xs.length : Int)) = true := decide_eq_true c1
        obtain ⟨ad, rfl, hx⟩ := HL.out i (by omega)
        have p0 := eq_true (show (0 : Int) ≤ (i : Int) by omega)
        have p1 := eq_true c1
        have hm := HM.out
        have hil : i < xs.length := by omega
        have hw1 : wrap64 ((i : Int) + 1) = ((i + 1 : Nat) : Int) := by unfold wrap64; omega
        have hw2 : IntKind.i64.wrap ((i : Int) + 1) = ((i + 1 : Nat) : Int) := (i64_w _).trans hw1
        have hx' : wr.cell? (ad.add ((i : Int).toNat)) = some (.int .i64 (xs.getD i 0)) := by simpa using hx
        have hg : xs.getD i 0 = xs[i] := by simp [hil]
        have htk : xs.take (i + 1) = xs.take i ++ [xs[i]] := by simp
        by_cases c5 : xs.getD i 0 = n
        · have E5 : (xs.getD i 0 == n) = true := beq_iff_eq.mpr c5
          have hmem : n ∈ xs := by rw [← c5, hg]; exact List.getElem_mem _
          obtain rfl : r = 11 := by rw [← HR.out, if_pos hmem]
          clear HR
          clear c1 hi hm hx' hmem hg htk hil
          generalize xs.getD i 0 = y at hx E5 c5
          clear c5
          go_wp2_with (fail)
          go_ret
          exact ⟨rfl, .inr HW.out⟩
        · have E5 : (xs.getD i 0 == n) = false := beq_eq_false_iff_ne.mpr c5
          have HI := Aside0.mk hil
          have hnot : n ∉ xs.take (i + 1) := by
            rw [htk, List.mem_append]
            rintro (h | h)
            · exact hi.out.2 h
            · rw [List.mem_singleton] at h; exact c5 (hg.trans h.symm)
          have HN := Aside0.mk hnot
          clear c1 hi hm hx' hnot hg htk hil
          generalize xs.getD i 0 = y at hx E5 c5
          clear c5
          go_wp2_with (fail)
          go_roundw
          case rel => exact ⟨i + 1, rfl, ⟨HI.out, HN.out⟩, by first | rfl | trivial⟩
          case measure => have := HI.out; simp [intOf]; omega
      · have E1 : decide ((i : Int) < (xs.length : Int)) = false := decide_eq_false c1
        have hmem : n ∉ xs := by
          have h := hi.out
          rw [show xs.take i = xs from List.take_of_length_le (by omega)] at h
          exact h.2
        obtain rfl : r = 0 := by rw [← HR.out, if_neg hmem]
        clear HR
        have E2 : decide (i < xs.length) = false := decide_eq_false (by omega)
        have E3 : (i < xs.length) = False := eq_false (by omega)
        clear c1 hi hmem
        go_wp2_with (fail)
        go_ret
        exact ⟨rfl, .inr HW.out⟩
theorem info2_ : (Try.prog.info? 2).map (fun i => (i.zero, i.size, i.bytes)) = some (some (.int .i64 0), 1, 8) := by kernel_rfl
/-- Block g is the chapter's window: the numbers that were seen. -/
def RW (B : Nat) (W : World) (gw g : Nat) (xs : List Int) : Prop := ∃ A c, W.heap[g]? = some (.cells #[.slice A xs.length c] 33 (0, 0)) ∧ Kd.R (Kd.int .i64) 2 W B (fun k => k ≠ gw ∧ k ≠ g) (.slice A xs.length c) xs
theorem own_keeps {B gw g : Nat} {v : Value} {xs : List Int} {W1 W2 : World} (hR : Kd.R (Kd.int .i64) 2 W1 B (fun k => k ≠ gw ∧ k ≠ g) v xs) (hgr : W1.grownBy W2 v.ownBlock) (b : Nat) (hb : b < W1.heap.size) (hbb : b = gw ∨ b = g) : W2.heap[b]? = W1.heap[b]? := by
  refine hgr.block b hb (fun he => ?_)
  have h := hR.1 b he.symm
  rcases hbb with e | e
  · exact h.1 e
  · exact h.2 e
theorem RW.drew {B : Nat} {W : World} {gw g : Nat} {xs : List Int} (h : RW B W gw g xs) : RW B W.drew gw g xs := by
  obtain ⟨A, c, h1, h2⟩ := h
  exact ⟨A, c, h1, Kd.R_drew h2⟩
theorem RW.keep {B : Nat} {W W' : World} {gw g : Nat} {xs : List Int} (h : RW B W gw g xs) (hk : KeepBut W W' gw none) (hne : g ≠ gw) : RW B W' gw g xs := by
  obtain ⟨A, c, h1, h2⟩ := h
  exact ⟨A, c, hk.blk h1 hne (by simp), Kd.R_keep h2 hk (fun k hk => hk.1)⟩
set_option maxHeartbeats 8000000 in
set_option maxRecDepth 100000 in
theorem rsee_c (gw g : Nat) (xs : List Int) (n : Int) (w0 W : World) (h : RW w0.heap.size W gw g xs) (hB : Below w0.heap.size w0 W) (hg : w0.heap.size ≤ g) (hgw : gw < W.heap.size) (hne : gw ≠ g) (hl : xs.length ≤ 1000) :
    Calls Try.prog 12 #[.pointer (some ⟨g, 0, none⟩), .int .i64 n] W fun e w' => e = .returned (.int .i64 (rck xs n)) ∧ RW w0.heap.size w' gw g (if rck xs n = 0 then xs ++ [n] else xs) ∧ Below w0.heap.size w0 w' ∧ W.heap.size ≤ w'.heap.size ∧ w'.heap[gw]? = W.heap[gw]? := by
  have H := Aside0.mk h
  obtain ⟨A, c, hb, hR⟩ := h
  obtain ⟨-, -, hC⟩ := Kd.R_reads' hR
  obtain ⟨r, hr⟩ : ∃ r : Int, rck xs n = r := ⟨_, rfl⟩
  have hck := rcheck_c g c A xs n W hb hC
  rw [hr] at hck ⊢
  have HK := Aside0.mk hck
  have HB := Aside0.mk hB
  have HG := Aside0.mk hg
  have HGW := Aside0.mk hgw
  have HNE := Aside0.mk hne
  have HL := Aside0.mk hl
  clear hck hB hg hgw hne hl hC hr
  by_cases r0 : r = 0
  rotate_left
  · rw [if_neg r0]
    have R0 : (r == 0) = false := beq_eq_false_iff_ne.mpr r0
    clear r0 hb hR
    go_enter Try.func12, Try.ntmps12
    go_wp2_with (go_at_call 11; (with_reducible refine (HK.out).mono ?_); rintro e w1 ⟨rfl, hw⟩; have HW := Aside0.mk hw; clear hw)
    go_ret
    rcases HW.out with rfl | rfl
    · exact ⟨rfl, H.out, HB.out, Nat.le_refl _, rfl⟩
    · exact ⟨rfl, H.out.drew, below_drew1 HB.out, Nat.le_refl _, rfl⟩
  subst r0
  rw [if_pos rfl]
  have h1 : ∀ w1, (W = w1 ∨ W.drew = w1) → w1.heap[g]? = some (.cells #[.slice A xs.length c] 33 (0, 0)) ∧ Kd.R (Kd.int .i64) 2 w1 w0.heap.size (fun k => k ≠ gw ∧ k ≠ g) (.slice A xs.length c) xs ∧ Below w0.heap.size w0 w1 ∧ w1.heap.size = W.heap.size ∧ w1.heap[gw]? = W.heap[gw]? := by
    rintro w1 (rfl | rfl)
    · exact ⟨hb, hR, HB.out, rfl, rfl⟩
    · exact ⟨hb, Kd.R_drew hR, below_drew1 HB.out, rfl, rfl⟩
  have H1 := Aside0.mk h1
  clear h1 hb hR
  go_enter Try.func12, Try.ntmps12
  go_wp2_with (first | (go_at_call 11; (with_reducible refine (HK.out).mono ?_); rintro e w1 ⟨rfl, hw⟩; obtain ⟨hb1, hR1, hB1, hs1, hw1⟩ := H1.out w1 hw; have hcell1 : w1.cell? ⟨g, 0, none⟩ = some (.slice A xs.length c) := (blk_cell hb1 0).trans rfl; have HB1 := Aside0.mk hb1; have HR1 := Aside0.mk hR1; have HBB1 := Aside0.mk hB1; have HS1 := Aside0.mk hs1; have HW1 := Aside0.mk hw1; clear hw hb1 hR1 hB1 hs1 hw1) | ((with_reducible refine gate_builtin (b := .append) (xs := #[.tmp 15, .tmp 17]) rfl ?_); at_builtin; refine Kd.R_append (Kd.int .i64) (w0 := w0) w0.heap.size rfl (.tmp 15) (.tmp 17) 22 2 (.int .i64 0) 8 rfl Try.underlying22 info2_ rfl (by decide) (by omega) (.slice A xs.length c) xs n [.int .i64 n] (fun k => k ≠ gw ∧ k ≠ g) (fun _ => False) rfl rfl rfl (fun _ hk => hk.elim) ?aF HR1.out HBB1.out ?aS ?aL ?_; (case aF => exact fun k hk => ⟨by have := HGW.out; have := HS1.out; omega, by have := blk_lt HB1.out; omega⟩); (case aS => exact HBB1.out.size); (case aL => have := HL.out; omega); intro v1 w2 hR2 hB2 hgr hat; have hog := own_keeps HR1.out hgr; have hb2 : w2.heap[g]? = some (.cells #[.slice A xs.length c] 33 (0, 0)) := (hog g (blk_lt HB1.out) (.inr rfl)).trans HB1.out; have HW2 := Aside0.mk ((hog gw (by have := HGW.out; have := HS1.out; omega) (.inl rfl)).trans HW1.out); have HS2 := Aside0.mk (show W.heap.size ≤ w2.heap.size from Nat.le_trans (Nat.le_of_eq HS1.out.symm) hgr.size); obtain ⟨A2, c2, rfl⟩ := Kd.R_slice hR2; have HR2 := Aside0.mk hR2; have HB2 := Aside0.mk hb2; have HBB2 := Aside0.mk hB2; have hcell2 : w2.cell? ⟨g, 0, none⟩ = some (.slice A xs.length c) := (blk_cell hb2 0).trans rfl; have hfr2 := blk_frozen hb2 0; clear hR2 hB2 hgr hat hog hb2 hcell1))
  go_ret
  have hln : (xs ++ [n]).length = xs.length + 1 := by simp
  have hnew : (w2.setCell ⟨g, 0, none⟩ (.slice A2 (xs.length + 1) c2)).heap[g]? = some (.cells #[.slice A2 (xs ++ [n]).length c2] 33 (0, 0)) := by
    rw [hln]
    exact blk_set HB2.out 0 (.slice A2 (xs.length + 1) c2)
  exact ⟨rfl, ⟨A2, c2, hnew, Kd.R_far HR2.out (fun k hk => hk.2) _⟩, below_set HBB2.out HG.out, by simpa [World.setCell] using HS2.out, (Below.heap_setCell w2 ⟨g, 0, none⟩ _ gw HNE.out).trans HW2.out⟩
end Go.Proofs.Ytligpakpgifkdaa.Hand
