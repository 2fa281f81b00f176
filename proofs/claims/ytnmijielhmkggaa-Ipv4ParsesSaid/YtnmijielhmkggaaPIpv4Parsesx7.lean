/- Written by a program of this session (xprint.py, over the kit's print): Go functions told as Lean functions, each with the proof that a call answers just so. -/
import Derived.Test.YtnmijielhmkggaaPIpv4Parsesx0
import Derived.Test.YtnmijielhmkggaaPIpv4Parsesx1
import Derived.Test.YtnmijielhmkggaaPIpv4Parsesx2
import Derived.Test.YtnmijielhmkggaaPIpv4Parsesx5
import Derived.Test.YtnmijielhmkggaaPIpv4Parsesx6
namespace Go.Proofs.Ytnmijielhmkggaa.PIpv4Parses
open Go.Proofs.Ytnmijielhmkggaa.Hand
open Go.RowKit Go.Proofs.YtnmijielhmkggaaW.PrintWords Go.Proofs.YtnmijielhmkggaaW.PrintLast Go.Proofs.YtnmijielhmkggaaW.PrintMore
attribute [local go_sem] max2_int min2_int max_two min_two max_three min_three max_four min_four   -- for this text's walks alone
set_option linter.unusedVariables false
set_option linter.unusedSimpArgs false

attribute [local go_sem high] eqA24
/-! ### ipv4_put: function 21 -/
def ipv4_put.l0 : Nat → List Int → Int → Int → Int → Option (List Int)
  | 0, _, _, _, _ => none
  | k + 1, x0, x1, x6, x7 => if x7 < x6 then (if 0 ≤ (wrap64 (8 * (wrap64 ((wrap64 ((x0.length : Int) - 1)) - x7)))) then (if 0 ≤ x7 then (if x7 < (x0.length : Int) then (ipv4_put.l0 k (x0.set (x7 : Int).toNat ((shr .u32 x1 (wrap64 (8 * (wrap64 ((wrap64 ((x0.length : Int) - 1)) - x7))))) % 256)) x1 x6 (wrap64 (x7 + 1))) else (none)) else (none)) else (none)) else (some x0)
def ipv4_put.f (k : Nat) (l0 : List Int) (a1 : Int) : Option (List Int) := ipv4_put.l0 k l0 a1 (l0.length : Int) 0
theorem ipv4_put.mono_l : ∀ k, (∀ y0 y1 y2 y3, LeO (ipv4_put.l0 k y0 y1 y2 y3) (ipv4_put.l0 (k + 1) y0 y1 y2 y3))
  | 0 => fun _ _ _ _ r h => by simp [ipv4_put.l0] at h
  | k + 1 => by
    have ih0 := ipv4_put.mono_l k
    · intro y0 y1 y2 y3
      unfold ipv4_put.l0
      repeat' first
      | (with_reducible exact ih0 _ _ _ _)
      | (with_reducible exact LeO.refl _)
      | (with_reducible exact LeO.none _)
      | (with_reducible refine LeO.ite ?_ ?_)
      | (with_reducible refine LeO.bind ?_ (fun _ => ?_))
      | exact ih0 _ _ _ _
      | exact LeO.none _
      | refine LeO.ite ?_ ?_
      | refine LeO.bind ?_ (fun _ => ?_)
theorem ipv4_put.mono : ∀ a0 a1 k, LeO (ipv4_put.f k a0 a1) (ipv4_put.f (k + 1) a0 a1) := by
  intro a0 a1 k
  have ih0 := ipv4_put.mono_l k
  unfold ipv4_put.f
  repeat' first
      | (with_reducible exact ih0 _ _ _ _)
      | (with_reducible exact LeO.refl _)
      | (with_reducible exact LeO.none _)
      | (with_reducible refine LeO.ite ?_ ?_)
      | (with_reducible refine LeO.bind ?_ (fun _ => ?_))
      | exact ih0 _ _ _ _
      | exact LeO.none _
      | refine LeO.ite ?_ ?_
      | refine LeO.bind ?_ (fun _ => ?_)
set_option maxHeartbeats 8000000 in
set_option maxRecDepth 100000 in
theorem ipv4_put.calls (k : Nat) (P0_ : Nat → Prop) (u9000_ : Value) (l0 : List Int) (a1 : Int) (r : List Int) (w0 w : World) (hB : Below w0.heap.size w0 w) (ho0 : Kd.R (Kd.int .u8) 5 w w0.heap.size P0_ u9000_ l0) (h : ipv4_put.f k l0 a1 = some r) :
    Calls Try.prog 21 #[u9000_, .int .u32 a1] w fun e w' => e = .returned (.tuple #[]) ∧ Kd.R (Kd.int .u8) 5 w' w0.heap.size (fun k_ => (P0_ k_ ∨ w.heap.size ≤ k_)) u9000_ r ∧ Below w0.heap.size w0 w' ∧ Kept w w' (fun k_ => P0_ k_) := by
  have HO0 := Aside0.mk (show Kd.R (Kd.int .u8) 5 w w0.heap.size (fun k_ => (P0_ k_ ∨ w.heap.size ≤ k_)) u9000_ l0 from Kd.R_mono ho0 (fun k_ hk => (.inl hk)))
  have HK := Aside0.mk (Kept.refl w (fun k_ => P0_ k_))
  have HW0 := Aside0.mk hB.size
  have HB := Aside0.mk hB
  clear hB
  have H : (ipv4_put.l0 k l0 a1 (l0.length : Int) 0) = some r := h
  clear h
  have H' := Aside0.mk H
  clear H
  obtain ⟨Ao3, co3, eo3⟩ := Kd.R_slice HO0.out
  subst eo3
  go_enter Try.func21, Try.ntmps21
  go_wp2
  go_loopg [7] k (fun kq v7 w' => ∃ (x0_1 : List Int) (x7_1 : Int), v7 = .int .i64 x7_1 ∧ Aside0 (ipv4_put.l0 kq x0_1 a1 (l0.length : Int) x7_1 = some r) ∧ Aside0 (kq ≤ k) ∧ Aside0 (Kd.R (Kd.int .u8) 5 w' w0.heap.size (fun k_ => (P0_ k_ ∨ w.heap.size ≤ k_)) (.slice Ao3 l0.length co3) x0_1) ∧ Aside0 (Kept w w' (fun k_ => P0_ k_)) ∧ Aside0 (Below w0.heap.size w0 w'))
  case atStart => exact ⟨(l0), (0), (by first | rfl | (simp; done) | (simp [*]; done)), H', ⟨Nat.le_refl _⟩, ⟨by (with_reducible repeat (first | apply Kd.R_alloc | apply Kd.R_drewN | apply Kd.R_drew)); exact HO0.out⟩, ⟨by repeat (first | (with_reducible first | exact HK.out | apply Kept.alloc | apply Kept.drewN | apply Kept.drew) | exact HK.out)⟩, ⟨by repeat (first | (with_reducible first | exact HB.out | apply below_alloc | apply pw_below_drewN | apply below_drew1) | exact HB.out)⟩⟩
  case round =>
    clear H'
    try clear c2
    try clear p2
    obtain ⟨x0_1, x7_1, rfl, HA, HK1, HO_0, HK, HB⟩ := hrel
    have hl0_1 := (Kd.R_reads' HO_0.out).1
    rw [hl0_1] at HO_0
    (try simp only [hl0_1])
    cases gk with
    | zero => exact absurd HA.out (by simp [ipv4_put.l0])
    | succ k1 =>
      have H := HA.out
      clear HA
      simp only [ipv4_put.l0] at H
      by_cases c4 : x7_1 < (l0.length : Int)
      · rw [if_pos c4] at H
        have c4b0 : decide (x7_1 < (l0.length : Int)) = true := decide_eq_true c4
        (try (have c4h0 := c4b0; simp only [hl0_1] at c4h0))
        clear c4
        obtain ⟨ji5, hji5⟩ : ∃ j_ : Int, (wrap64 (8 * (wrap64 ((wrap64 ((x0_1.length : Int) - 1)) - x7_1)))) = j_ := ⟨_, rfl⟩
        replace H : (if 0 ≤ (ji5) then (if 0 ≤ x7_1 then (if x7_1 < (x0_1.length : Int) then (ipv4_put.l0 k1 (x0_1.set (x7_1 : Int).toNat ((shr .u32 a1 (ji5)) % 256)) a1 (l0.length : Int) (wrap64 (x7_1 + 1))) else (none)) else (none)) else (none)) = some r := by first | (rw [hji5] at H; exact H) | (simp only [hji5] at H ⊢; exact H)
        have hji5w : (IntKind.i64.wrap (8 * (wrap64 ((wrap64 ((x0_1.length : Int) - 1)) - x7_1)))) = ji5 := (i64_w _).trans hji5
        by_cases c6 : 0 ≤ (ji5)
        · rw [if_pos c6] at H
          have c6b0 := eq_true c6
          have c6b1 : decide (0 ≤ (ji5)) = true := decide_eq_true c6
          clear c6
          obtain ⟨ji7, hji7⟩ : ∃ j_ : Int, (shr .u32 a1 (ji5)) = j_ := ⟨_, rfl⟩
          replace H : (if 0 ≤ x7_1 then (if x7_1 < (x0_1.length : Int) then (ipv4_put.l0 k1 (x0_1.set (x7_1 : Int).toNat ((ji7) % 256)) a1 (l0.length : Int) (wrap64 (x7_1 + 1))) else (none)) else (none)) = some r := by first | (rw [hji7] at H; exact H) | (simp only [hji7] at H ⊢; exact H)
          have hji7_ : (a1 / 2 ^ min (ji5).toNat 32) = ji7 := hji7
          have hji7z : (ji5) ≤ 32 → (a1 / 2 ^ (ji5).toNat) = ji7 := shr_small hji7
          by_cases c8 : 0 ≤ x7_1
          · rw [if_pos c8] at H
            have c8b0 : decide (0 ≤ x7_1) = true := decide_eq_true c8
            (try (have c8h0 := c8b0; simp only [hl0_1] at c8h0))
            clear c8
            by_cases c9 : x7_1 < (x0_1.length : Int)
            · rw [if_pos c9] at H
              have c9b0 : decide (x7_1 < (x0_1.length : Int)) = true := decide_eq_true c9
              (try (have c9h0 := c9b0; simp only [hl0_1] at c9h0))
              clear c9
              obtain ⟨y135, hy135⟩ : ∃ y_ : List Int, y_ = (x0_1.set (x7_1 : Int).toNat ((ji7) % 256)) := ⟨_, rfl⟩
              replace H : (ipv4_put.l0 k1 y135 a1 (l0.length : Int) (wrap64 (x7_1 + 1))) = some r := by first | (rw [hy135]; with_reducible exact H) | (have H2_ := (Option.bind_some _ _).symm.trans H; rw [hy135]; with_reducible exact H2_) | (have H2_ := (Option.bind_some _ _).symm.trans H; with_reducible exact H2_) | with_reducible exact H | (rw [hy135]; exact H) | exact H
              have Ny135 := Aside0.mk hy135
              clear hy135
              have H' := Aside0.mk H
              clear H
              have p10 : 0 ≤ (x7_1 : Int) := of_decide_eq_true (by first | (with_reducible assumption) | assumption)
              have q10 : (x7_1 : Int) < ((x0_1.length : Int) : Int) := of_decide_eq_true (by first | (with_reducible assumption) | assumption)
              obtain ⟨go10, co10, eo10, gb10, gl10, cl10, HG10⟩ := Kd.R_form HO_0.out (by omega)
              (first | cases eo10 | (injection eo10 with ea_ en_ ec_; (first | subst ea_ | (injection ea_ with ea_; subst ea_)); subst ec_; clear en_))
              have GB10 := Aside0.mk gb10
              have GG10 := Aside0.mk HG10
              clear gb10 gl10 HG10
              have HMgo10 := Aside0.mk (show (P0_ go10 ∨ w.heap.size ≤ go10) from (HO_0.out.1 _ rfl))
              obtain ⟨hx10_0, hf10_0⟩ := Kd.R_celln 0 HO_0.out (x7_1 : Int) p10 q10
              replace p10 := eq_true p10
              replace q10 := eq_true q10
              have HP11 := Kd.R_putg HO_0.out (x7_1 : Int) ((ji7) % 256)
              go_wp2_with (first | ((with_reducible refine gate_store (t := 5) (p := 21) rfl ?_); refine store_event (t := 5) (p := 21) (v := ?vo_w12) (w1 := (wr.setCell ⟨go10, (x7_1 : Int).toNat, none⟩ (.int .u8 ((ji7) % 256)))) ?hg ?ho ?hn ?hr ?_; (case ho => rfl); (case hg => rfl); (case hn => rfl); (case hr => first | (go_simp; done) | (go_simp; rfl)); intro w12 hw; have hg : wr.grownBy w12 (some go10) := (by rw [hw]; exact HP11.2); have hp_ : Kd.R (Kd.int .u8) 5 w12 w0.heap.size (fun k_ => (P0_ k_ ∨ w.heap.size ≤ k_)) (.slice (some ⟨go10, 0, none⟩) x0_1.length co3) y135 := (by rw [hw, Ny135.out]; exact HP11.1); clear HP11; have n0_ := Aside0.mk (hp_); have n1_ := Aside0.mk ((by rw [hw]; exact below_set (HB.out) GB10.out : Below w0.heap.size w0 w12)); have n2_ := Aside0.mk (Kept.of_grown (S := (fun k_ => P0_ k_)) hg (by repeat (first | (with_reducible first | exact HK.out | apply Kept.alloc | apply Kept.drewN | apply Kept.drew) | exact HK.out)) (fun k_ e_ => (HO_0.out.1 k_ e_))); clear HO_0; clear HB; clear HK; have HO_0 := n0_; have HB := n1_; have HK := n2_; clear n0_ n1_ n2_; clear hg hw hp_))
              (try simp only [← hl0_1])
              go_roundg k1
              case measure => have := HK1.out; omega
              case rel => exact ⟨(y135), (wrap64 (x7_1 + 1)), (by first | rfl | (simp; done) | (simp [*]; done)), H', ⟨by have := HK1.out; omega⟩, ⟨by (try simp only [hl0_1]); (with_reducible repeat (first | apply Kd.R_alloc | apply Kd.R_drewN | apply Kd.R_drew)); exact HO_0.out⟩, ⟨by repeat (first | (with_reducible first | exact HK.out | apply Kept.alloc | apply Kept.drewN | apply Kept.drew) | exact HK.out)⟩, ⟨by repeat (first | (with_reducible first | exact HB.out | apply below_alloc | apply pw_below_drewN | apply below_drew1) | exact HB.out)⟩⟩
            · rw [if_neg c9] at H
              exact absurd H (by simp)
          · rw [if_neg c8] at H
            exact absurd H (by simp)
        · rw [if_neg c6] at H
          exact absurd H (by simp)
      · rw [if_neg c4] at H
        have c4b0 : decide (x7_1 < (l0.length : Int)) = false := decide_eq_false c4
        (try (have c4h0 := c4b0; simp only [hl0_1] at c4h0))
        clear c4
        obtain rfl := Option.some.inj H
        go_wp2
        first | go_end0 | ((try simp only [Exit.inBlock, Exit.then]); refine bodyPost_ret (results_none rfl _ _ _) rfl ?_)
        exact ⟨by first | rfl | (simp [errW_none, errW_some] <;> rfl) | (simp [*, errW_none, errW_some] <;> rfl), (by first | exact (by (with_reducible repeat (first | apply Kd.R_alloc | apply Kd.R_drewN | apply Kd.R_drew)); exact HO_0.out) | (simp only [hl0_1]; exact (by (with_reducible repeat (first | apply Kd.R_alloc | apply Kd.R_drewN | apply Kd.R_drew)); exact HO_0.out))), by repeat (first | (with_reducible first | exact HB.out | apply below_alloc | apply pw_below_drewN | apply below_drew1) | exact HB.out), by repeat (first | (with_reducible first | exact HK.out | apply Kept.alloc | apply Kept.drewN | apply Kept.drew) | exact HK.out)⟩

/-! ### ipv4_Build: by hand (an array, its loop; defer, recover; a block of the call's own, filled in parts) -/

set_option maxHeartbeats 4000000 in
set_option maxRecDepth 100000 in
theorem ipv4_put.two (g o c : Nat) (n x0 x1 : Int) (W : World) (h0 : W.cell? ⟨g, o, none⟩ = some (.int .u8 x0)) (f0 : W.frozen? ⟨g, o, none⟩ = false) (h1 : W.cell? ⟨g, o + 1, none⟩ = some (.int .u8 x1)) (f1 : W.frozen? ⟨g, o + 1, none⟩ = false) :
    Calls Try.prog 21 #[.slice (some ⟨g, o, none⟩) 2 c, .int .u32 n] W fun e w' => e = .returned (.tuple #[]) ∧ ((W.setCell ⟨g, o, none⟩ (.int .u8 (n / 256 % 256))).setCell ⟨g, o + 1, none⟩ (.int .u8 (n % 256))) = w' := by
  go_enter Try.func21, Try.ntmps21
  go_wp2
  refine wp_loop_rounds 3 ?_
  rw [rounds_succ]
  go_wp2
  rw [rounds_succ]
  go_wp2
  rw [rounds_succ]
  go_wp2
  first | go_end0 | ((try simp only [Exit.inBlock, Exit.then]); refine bodyPost_ret (results_none rfl _ _ _) rfl ?_)
  exact ⟨rfl, rfl⟩
set_option maxHeartbeats 4000000 in
set_option maxRecDepth 100000 in
theorem ipv4_put.four (g o c : Nat) (n x0 x1 x2 x3 : Int) (W : World) (h0 : W.cell? ⟨g, o, none⟩ = some (.int .u8 x0)) (f0 : W.frozen? ⟨g, o, none⟩ = false) (h1 : W.cell? ⟨g, o + 1, none⟩ = some (.int .u8 x1)) (f1 : W.frozen? ⟨g, o + 1, none⟩ = false) (h2 : W.cell? ⟨g, o + 2, none⟩ = some (.int .u8 x2)) (f2 : W.frozen? ⟨g, o + 2, none⟩ = false) (h3 : W.cell? ⟨g, o + 3, none⟩ = some (.int .u8 x3)) (f3 : W.frozen? ⟨g, o + 3, none⟩ = false) :
    Calls Try.prog 21 #[.slice (some ⟨g, o, none⟩) 4 c, .int .u32 n] W fun e w' => e = .returned (.tuple #[]) ∧ ((((W.setCell ⟨g, o, none⟩ (.int .u8 (n / 16777216 % 256))).setCell ⟨g, o + 1, none⟩ (.int .u8 (n / 65536 % 256))).setCell ⟨g, o + 2, none⟩ (.int .u8 (n / 256 % 256))).setCell ⟨g, o + 3, none⟩ (.int .u8 (n % 256))) = w' := by
  go_enter Try.func21, Try.ntmps21
  go_wp2
  refine wp_loop_rounds 5 ?_
  rw [rounds_succ]
  go_wp2
  rw [rounds_succ]
  go_wp2
  rw [rounds_succ]
  go_wp2
  rw [rounds_succ]
  go_wp2
  rw [rounds_succ]
  go_wp2
  first | go_end0 | ((try simp only [Exit.inBlock, Exit.then]); refine bodyPost_ret (results_none rfl _ _ _) rfl ?_)
  exact ⟨rfl, rfl⟩

def ipv4_Build.hd (a0 a1 a2 a3 a4 a5 a6 n s : Int) : List Int := [69, a0, n / 256 % 256, n % 256, a1 / 256 % 256, a1 % 256, a2 / 256 % 256, a2 % 256, a3, a4, s / 256 % 256, s % 256, a5 / 16777216 % 256, a5 / 65536 % 256, a5 / 256 % 256, a5 % 256, a6 / 16777216 % 256, a6 / 65536 % 256, a6 / 256 % 256, a6 % 256]
def ipv4_Build.f (k : Nat) (a0 a1 a2 a3 a4 a5 a6 : Int) (a7 : ByteArray) : Option (ByteArray × Int) :=
  if ¬ (0 ≤ a0 ∧ a0 ≤ 255 ∧ 0 ≤ a3 ∧ a3 ≤ 255 ∧ 0 ≤ a4 ∧ a4 ≤ 255 ∧ 0 ≤ a1 ∧ a1 ≤ 65535 ∧ 0 ≤ a2 ∧ a2 ≤ 65535) then some (⟨#[]⟩, 2) else if (a7.size : Int) > 65515 then some (⟨#[]⟩, 8) else
  (ipv4_Sum.f k (strOfNums (ipv4_Build.hd a0 a1 a2 a3 a4 a5 a6 (20 + a7.size) 0))).bind fun s => some (strOfNums (ipv4_Build.hd a0 a1 a2 a3 a4 a5 a6 (20 + a7.size) s) ++ a7, 0)
theorem ipv4_Build.mono : ∀ a0 a1 a2 a3 a4 a5 a6 a7 k, LeO (ipv4_Build.f k a0 a1 a2 a3 a4 a5 a6 a7) (ipv4_Build.f (k + 1) a0 a1 a2 a3 a4 a5 a6 a7) := by
  intro a0 a1 a2 a3 a4 a5 a6 a7 k
  unfold ipv4_Build.f
  exact LeO.ite (LeO.refl _) (LeO.ite (LeO.refl _) (LeO.bind (ipv4_Sum.mono _ _) (fun _ => LeO.refl _)))
set_option maxHeartbeats 8000000 in
set_option maxRecDepth 100000 in
theorem ipv4_Build.calls (k : Nat) (a0 a1 a2 a3 a4 a5 a6 : Int) (a7 : ByteArray) (r1 : ByteArray) (r2 : Int) (w : World) (h : ipv4_Build.f k a0 a1 a2 a3 a4 a5 a6 a7 = some (r1, r2)) :
    Calls Try.prog 10 #[.agg #[.int .i64 a0, .int .i64 a1, .int .i64 a2, .int .i64 a3, .int .i64 a4, .int .u32 a5, .int .u32 a6, .string a7]] w fun e w' => e = .returned (.tuple #[.string r1, .int .i64 r2]) ∧ Below w.heap.size w w' := by
  unfold ipv4_Build.f at h
  have HH := Aside0.mk h
  clear h
  have ix0 : ∀ w, (Instr.index 43 (.agg #[.int .i64 a0, .int .i64 a3, .int .i64 a4]) (.int .i64 0)).run Try.prog w = .ok (.int .i64 a0) w := fun _ => by kernel_rfl
  have ix1 : ∀ w, (Instr.index 43 (.agg #[.int .i64 a0, .int .i64 a3, .int .i64 a4]) (.int .i64 1)).run Try.prog w = .ok (.int .i64 a3) w := fun _ => by kernel_rfl
  have ix2 : ∀ w, (Instr.index 43 (.agg #[.int .i64 a0, .int .i64 a3, .int .i64 a4]) (.int .i64 2)).run Try.prog w = .ok (.int .i64 a4) w := fun _ => by kernel_rfl
  have hmk : ∀ w : World, (Instr.makeSlice 34 (.int .i64 20) (.int .i64 20)).run Try.prog w = .ok (.slice (some ⟨w.heap.size, 0, none⟩) 20 20) (w.alloc (.cells #[.int .u8 0, .int .u8 0, .int .u8 0, .int .u8 0, .int .u8 0, .int .u8 0, .int .u8 0, .int .u8 0, .int .u8 0, .int .u8 0, .int .u8 0, .int .u8 0, .int .u8 0, .int .u8 0, .int .u8 0, .int .u8 0, .int .u8 0, .int .u8 0, .int .u8 0, .int .u8 0] 5)) := fun _ => by kernel_rfl
  go_enter_defers Try.func10, Try.ntmps10
  go_wp2_with (fail)
  refine wp_loop_rounds 4 ?_
  rw [rounds_succ]
  by_cases pa : 0 ≤ a0
  rotate_left
  · have P1 : decide (0 ≤ a0) = false := decide_eq_false pa
    have h := HH.out
    clear HH
    rw [if_pos (fun hh => pa (by omega))] at h
    clear pa
    go_wp2_with (fail)
    go_at_call 20
    (with_reducible refine (Hand.check_any _ _ _).mono ?_)
    rintro e w' (⟨hb, rfl, rfl⟩ | ⟨hb, rfl, rfl⟩)
    rotate_left
    · exact absurd hb (by simp)
    clear hb
    obtain ⟨rfl, rfl⟩ := Prod.mk.inj (Option.some.inj h)
    go_wp2_with (fail)
    refine leaves_cons (f := 19) (args := #[.pointer (some ⟨w.heap.size + 1, 0, none⟩)]) (by simp) (by simp [go_sem]) ?_
    refine (Hand.caught_panicking ⟨w.heap.size + 1, 0, none⟩ 0 _ [] _ ?_ ?_).mono ?_
    · simp [go_sem]
    · simp [go_sem]
    rintro e u' w'' ⟨rfl, rfl, rfl⟩
    simp [Leaves, settle, results, Try.results10, go_sem]
    repeat (first | exact Below.refl _ _ | apply below_alloc | apply pw_below_drewN | apply below_drew1 | refine below_set ?_ (Nat.le_succ _))
  have P1 : decide (0 ≤ a0) = true := decide_eq_true pa
  have pa' := Aside0.mk pa
  clear pa
  go_wp2_with (fail)
  go_at_call 20
  (with_reducible refine (Hand.check_any _ _ _).mono ?_)
  rintro e w' (⟨hb, rfl, rfl⟩ | ⟨hb, rfl, rfl⟩)
  · have h := HH.out
    clear HH
    rw [if_pos (fun hh => (of_decide_eq_false hb) (by omega))] at h
    clear hb
    obtain ⟨rfl, rfl⟩ := Prod.mk.inj (Option.some.inj h)
    go_wp2_with (fail)
    refine leaves_cons (f := 19) (args := #[.pointer (some ⟨w.heap.size + 1, 0, none⟩)]) (by simp) (by simp [go_sem]) ?_
    refine (Hand.caught_panicking ⟨w.heap.size + 1, 0, none⟩ 0 _ [] _ ?_ ?_).mono ?_
    · simp [go_sem]
    · simp [go_sem]
    rintro e u' w'' ⟨rfl, rfl, rfl⟩
    simp [Leaves, settle, results, Try.results10, go_sem]
    repeat (first | exact Below.refl _ _ | apply below_alloc | apply pw_below_drewN | apply below_drew1 | refine below_set ?_ (Nat.le_succ _))
  have qa' := Aside0.mk (of_decide_eq_true hb)
  clear hb P1
  go_wp2_with (fail)
  rw [rounds_succ]
  by_cases pb : 0 ≤ a3
  rotate_left
  · have P1 : decide (0 ≤ a3) = false := decide_eq_false pb
    have h := HH.out
    clear HH
    rw [if_pos (fun hh => pb (by omega))] at h
    clear pb
    go_wp2_with (fail)
    go_at_call 20
    (with_reducible refine (Hand.check_any _ _ _).mono ?_)
    rintro e w' (⟨hb, rfl, rfl⟩ | ⟨hb, rfl, rfl⟩)
    rotate_left
    · exact absurd hb (by simp)
    clear hb
    obtain ⟨rfl, rfl⟩ := Prod.mk.inj (Option.some.inj h)
    go_wp2_with (fail)
    refine leaves_cons (f := 19) (args := #[.pointer (some ⟨w.heap.size + 1, 0, none⟩)]) (by simp) (by simp [go_sem]) ?_
    refine (Hand.caught_panicking ⟨w.heap.size + 1, 0, none⟩ 0 _ [] _ ?_ ?_).mono ?_
    · simp [go_sem]
    · simp [go_sem]
    rintro e u' w'' ⟨rfl, rfl, rfl⟩
    simp [Leaves, settle, results, Try.results10, go_sem]
    repeat (first | exact Below.refl _ _ | apply below_alloc | apply pw_below_drewN | apply below_drew1 | refine below_set ?_ (Nat.le_succ _))
  have P1 : decide (0 ≤ a3) = true := decide_eq_true pb
  have pb' := Aside0.mk pb
  clear pb
  go_wp2_with (fail)
  go_at_call 20
  (with_reducible refine (Hand.check_any _ _ _).mono ?_)
  rintro e w' (⟨hb, rfl, rfl⟩ | ⟨hb, rfl, rfl⟩)
  · have h := HH.out
    clear HH
    rw [if_pos (fun hh => (of_decide_eq_false hb) (by omega))] at h
    clear hb
    obtain ⟨rfl, rfl⟩ := Prod.mk.inj (Option.some.inj h)
    go_wp2_with (fail)
    refine leaves_cons (f := 19) (args := #[.pointer (some ⟨w.heap.size + 1, 0, none⟩)]) (by simp) (by simp [go_sem]) ?_
    refine (Hand.caught_panicking ⟨w.heap.size + 1, 0, none⟩ 0 _ [] _ ?_ ?_).mono ?_
    · simp [go_sem]
    · simp [go_sem]
    rintro e u' w'' ⟨rfl, rfl, rfl⟩
    simp [Leaves, settle, results, Try.results10, go_sem]
    repeat (first | exact Below.refl _ _ | apply below_alloc | apply pw_below_drewN | apply below_drew1 | refine below_set ?_ (Nat.le_succ _))
  have qb' := Aside0.mk (of_decide_eq_true hb)
  clear hb P1
  go_wp2_with (fail)
  rw [rounds_succ]
  by_cases pc : 0 ≤ a4
  rotate_left
  · have P1 : decide (0 ≤ a4) = false := decide_eq_false pc
    have h := HH.out
    clear HH
    rw [if_pos (fun hh => pc (by omega))] at h
    clear pc
    go_wp2_with (fail)
    go_at_call 20
    (with_reducible refine (Hand.check_any _ _ _).mono ?_)
    rintro e w' (⟨hb, rfl, rfl⟩ | ⟨hb, rfl, rfl⟩)
    rotate_left
    · exact absurd hb (by simp)
    clear hb
    obtain ⟨rfl, rfl⟩ := Prod.mk.inj (Option.some.inj h)
    go_wp2_with (fail)
    refine leaves_cons (f := 19) (args := #[.pointer (some ⟨w.heap.size + 1, 0, none⟩)]) (by simp) (by simp [go_sem]) ?_
    refine (Hand.caught_panicking ⟨w.heap.size + 1, 0, none⟩ 0 _ [] _ ?_ ?_).mono ?_
    · simp [go_sem]
    · simp [go_sem]
    rintro e u' w'' ⟨rfl, rfl, rfl⟩
    simp [Leaves, settle, results, Try.results10, go_sem]
    repeat (first | exact Below.refl _ _ | apply below_alloc | apply pw_below_drewN | apply below_drew1 | refine below_set ?_ (Nat.le_succ _))
  have P1 : decide (0 ≤ a4) = true := decide_eq_true pc
  have pc' := Aside0.mk pc
  clear pc
  go_wp2_with (fail)
  go_at_call 20
  (with_reducible refine (Hand.check_any _ _ _).mono ?_)
  rintro e w' (⟨hb, rfl, rfl⟩ | ⟨hb, rfl, rfl⟩)
  · have h := HH.out
    clear HH
    rw [if_pos (fun hh => (of_decide_eq_false hb) (by omega))] at h
    clear hb
    obtain ⟨rfl, rfl⟩ := Prod.mk.inj (Option.some.inj h)
    go_wp2_with (fail)
    refine leaves_cons (f := 19) (args := #[.pointer (some ⟨w.heap.size + 1, 0, none⟩)]) (by simp) (by simp [go_sem]) ?_
    refine (Hand.caught_panicking ⟨w.heap.size + 1, 0, none⟩ 0 _ [] _ ?_ ?_).mono ?_
    · simp [go_sem]
    · simp [go_sem]
    rintro e u' w'' ⟨rfl, rfl, rfl⟩
    simp [Leaves, settle, results, Try.results10, go_sem]
    repeat (first | exact Below.refl _ _ | apply below_alloc | apply pw_below_drewN | apply below_drew1 | refine below_set ?_ (Nat.le_succ _))
  have qc' := Aside0.mk (of_decide_eq_true hb)
  clear hb P1
  go_wp2_with (fail)
  rw [rounds_succ]
  by_cases pd : 0 ≤ a1
  rotate_left
  · have P1 : decide (0 ≤ a1) = false := decide_eq_false pd
    have h := HH.out
    clear HH
    rw [if_pos (fun hh => pd (by omega))] at h
    clear pd
    go_wp2_with (fail)
    go_at_call 20
    (with_reducible refine (Hand.check_any _ _ _).mono ?_)
    rintro e w' (⟨hb, rfl, rfl⟩ | ⟨hb, rfl, rfl⟩)
    rotate_left
    · exact absurd hb (by simp)
    clear hb
    obtain ⟨rfl, rfl⟩ := Prod.mk.inj (Option.some.inj h)
    go_wp2_with (fail)
    refine leaves_cons (f := 19) (args := #[.pointer (some ⟨w.heap.size + 1, 0, none⟩)]) (by simp) (by simp [go_sem]) ?_
    refine (Hand.caught_panicking ⟨w.heap.size + 1, 0, none⟩ 0 _ [] _ ?_ ?_).mono ?_
    · simp [go_sem]
    · simp [go_sem]
    rintro e u' w'' ⟨rfl, rfl, rfl⟩
    simp [Leaves, settle, results, Try.results10, go_sem]
    repeat (first | exact Below.refl _ _ | apply below_alloc | apply pw_below_drewN | apply below_drew1 | refine below_set ?_ (Nat.le_succ _))
  have Pd : decide (0 ≤ a1) = true := decide_eq_true pd
  have pd' := Aside0.mk pd
  clear pd
  by_cases pe : a1 ≤ 65535
  rotate_left
  · have P1 : decide (a1 ≤ 65535) = false := decide_eq_false pe
    have h := HH.out
    clear HH
    rw [if_pos (fun hh => pe (by omega))] at h
    clear pe
    go_wp2_with (fail)
    go_at_call 20
    (with_reducible refine (Hand.check_any _ _ _).mono ?_)
    rintro e w' (⟨hb, rfl, rfl⟩ | ⟨hb, rfl, rfl⟩)
    rotate_left
    · exact absurd hb (by simp)
    clear hb
    obtain ⟨rfl, rfl⟩ := Prod.mk.inj (Option.some.inj h)
    go_wp2_with (fail)
    refine leaves_cons (f := 19) (args := #[.pointer (some ⟨w.heap.size + 1, 0, none⟩)]) (by simp) (by simp [go_sem]) ?_
    refine (Hand.caught_panicking ⟨w.heap.size + 1, 0, none⟩ 0 _ [] _ ?_ ?_).mono ?_
    · simp [go_sem]
    · simp [go_sem]
    rintro e u' w'' ⟨rfl, rfl, rfl⟩
    simp [Leaves, settle, results, Try.results10, go_sem]
    repeat (first | exact Below.refl _ _ | apply below_alloc | apply pw_below_drewN | apply below_drew1 | refine below_set ?_ (Nat.le_succ _))
  have Pe : decide (a1 ≤ 65535) = true := decide_eq_true pe
  have pe' := Aside0.mk pe
  clear pe
  by_cases pf : 0 ≤ a2
  rotate_left
  · have P1 : decide (0 ≤ a2) = false := decide_eq_false pf
    have h := HH.out
    clear HH
    rw [if_pos (fun hh => pf (by omega))] at h
    clear pf
    go_wp2_with (fail)
    go_at_call 20
    (with_reducible refine (Hand.check_any _ _ _).mono ?_)
    rintro e w' (⟨hb, rfl, rfl⟩ | ⟨hb, rfl, rfl⟩)
    rotate_left
    · exact absurd hb (by simp)
    clear hb
    obtain ⟨rfl, rfl⟩ := Prod.mk.inj (Option.some.inj h)
    go_wp2_with (fail)
    refine leaves_cons (f := 19) (args := #[.pointer (some ⟨w.heap.size + 1, 0, none⟩)]) (by simp) (by simp [go_sem]) ?_
    refine (Hand.caught_panicking ⟨w.heap.size + 1, 0, none⟩ 0 _ [] _ ?_ ?_).mono ?_
    · simp [go_sem]
    · simp [go_sem]
    rintro e u' w'' ⟨rfl, rfl, rfl⟩
    simp [Leaves, settle, results, Try.results10, go_sem]
    repeat (first | exact Below.refl _ _ | apply below_alloc | apply pw_below_drewN | apply below_drew1 | refine below_set ?_ (Nat.le_succ _))
  have Pf : decide (0 ≤ a2) = true := decide_eq_true pf
  have pf' := Aside0.mk pf
  clear pf
  go_wp2_with (fail)
  go_at_call 20
  (with_reducible refine (Hand.check_any _ _ _).mono ?_)
  rintro e w' (⟨hb, rfl, rfl⟩ | ⟨hb, rfl, rfl⟩)
  · have h := HH.out
    clear HH
    rw [if_pos (fun hh => (of_decide_eq_false hb) (by omega))] at h
    clear hb
    obtain ⟨rfl, rfl⟩ := Prod.mk.inj (Option.some.inj h)
    go_wp2_with (fail)
    refine leaves_cons (f := 19) (args := #[.pointer (some ⟨w.heap.size + 1, 0, none⟩)]) (by simp) (by simp [go_sem]) ?_
    refine (Hand.caught_panicking ⟨w.heap.size + 1, 0, none⟩ 0 _ [] _ ?_ ?_).mono ?_
    · simp [go_sem]
    · simp [go_sem]
    rintro e u' w'' ⟨rfl, rfl, rfl⟩
    simp [Leaves, settle, results, Try.results10, go_sem]
    repeat (first | exact Below.refl _ _ | apply below_alloc | apply pw_below_drewN | apply below_drew1 | refine below_set ?_ (Nat.le_succ _))
  have pg' := Aside0.mk (of_decide_eq_true hb)
  clear hb Pd Pe Pf
  have h := HH.out
  clear HH
  rw [if_neg (fun hh => hh ⟨pa'.out, qa'.out, pb'.out, qb'.out, pc'.out, qc'.out, pd'.out, pe'.out, pf'.out, pg'.out⟩)] at h
  have HH := Aside0.mk h
  clear h
  go_wp2_with (fail)
  go_at_call 20
  (with_reducible refine (Hand.check_any _ _ _).mono ?_)
  rintro e w' (⟨hb, rfl, rfl⟩ | ⟨hb, rfl, rfl⟩)
  · have h := HH.out
    clear HH
    rw [if_pos (by have := of_decide_eq_false hb; omega)] at h
    clear hb
    obtain ⟨rfl, rfl⟩ := Prod.mk.inj (Option.some.inj h)
    go_wp2_with (fail)
    refine leaves_cons (f := 19) (args := #[.pointer (some ⟨w.heap.size + 1, 0, none⟩)]) (by simp) (by simp [go_sem]) ?_
    refine (Hand.caught_panicking ⟨w.heap.size + 1, 0, none⟩ 0 _ [] _ ?_ ?_).mono ?_
    · simp [go_sem]
    · simp [go_sem]
    rintro e u' w'' ⟨rfl, rfl, rfl⟩
    simp [Leaves, settle, results, Try.results10, go_sem]
    repeat (first | exact Below.refl _ _ | apply below_alloc | apply pw_below_drewN | apply below_drew1 | refine below_set ?_ (Nat.le_succ _))
  have ph := Aside0.mk (of_decide_eq_true hb)
  clear hb
  have h := HH.out
  clear HH
  rw [if_neg (by have := ph.out; omega)] at h
  obtain ⟨s, hs, h⟩ := Option.bind_eq_some_iff.1 h
  obtain ⟨rfl, rfl⟩ := Prod.mk.inj (Option.some.inj h)
  have HS := Aside0.mk hs
  clear h hs
  have wa0 : IntKind.u8.wrap a0 = a0 := IntWalk.u8_in _ ⟨pa'.out, qa'.out⟩
  have wa3 : IntKind.u8.wrap a3 = a3 := IntWalk.u8_in _ ⟨pb'.out, qb'.out⟩
  have wa4 : IntKind.u8.wrap a4 = a4 := IntWalk.u8_in _ ⟨pc'.out, qc'.out⟩
  have hN1 : wrap64 (20 + (a7.size : Int)) = 20 + (a7.size : Int) := by have := ph.out; unfold wrap64; omega
  have hN2 : IntKind.i64.wrap (20 + (a7.size : Int)) = 20 + (a7.size : Int) := (i64_w _).trans hN1
  have hN3 : (20 + (a7.size : Int)) % 4294967296 = 20 + (a7.size : Int) := by have := ph.out; omega
  have hN4 : a1 % 4294967296 = a1 := by have := pd'.out; have := pe'.out; omega
  have hN5 : a2 % 4294967296 = a2 := by have := pf'.out; have := pg'.out; omega
  go_wp2_with (fail)
  refine Calm.wp_region_calm_then (fun w' : World => w'.cell? ⟨w.heap.size, 0, none⟩ = some (.int .i64 a0) ∧ w'.cell? ⟨w.heap.size, 3, none⟩ = some (.int .i64 a3) ∧ w'.cell? ⟨w.heap.size, 4, none⟩ = some (.int .i64 a4)) [0, 1, 2, 3, 4, 5, 6, 7, 8, 9, 10, 11, 12, 13] [14, 15, 16, 17, 18, 19, 20] (by kernel_rfl) (by kernel_rfl) (by exact ⟨by go_simp, by go_simp, by go_simp⟩) ?_
  repeat (first
    | (refine Calm.value_ (v := ?_) (a' := ?_) rfl rfl (by rfl) ?_ ?_ ?_; rotate_left; (· rintro w' ⟨s0, s3, s4⟩; go_simp; with_reducible rfl); rotate_left; (· simp only [Act.put, List.setIfInBounds_toArray, List.set_cons_zero, List.set_cons_succ, i64_w, i32_w]; rfl)))
  refine Calm.nil_ ?_
  (refine Calm.t_store (w1 := ?_) rfl (by rfl) rfl ?_ ?_ ?_; rotate_left; (· go_simp; rfl); (· exact ⟨by go_simp, by go_simp, by go_simp⟩))
  (refine Calm.t_value (v := ?_) (w1 := ?_) (a' := ?_) rfl rfl (by rfl) ?_ ?_ ?_ ?_; rotate_left; rotate_left; (· go_simp; first | (refine And.intro ?_ ?_ <;> rfl) | rfl); (· exact ⟨by go_simp, by go_simp, by go_simp⟩); rotate_left; (· simp only [Act.put, List.setIfInBounds_toArray, List.set_cons_zero, List.set_cons_succ, i64_w, i32_w]; rfl))
  (refine Calm.t_store (w1 := ?_) rfl (by rfl) rfl ?_ ?_ ?_; rotate_left; (· go_simp; rfl); (· exact ⟨by go_simp, by go_simp, by go_simp⟩))
  (refine Calm.t_value (v := ?_) (w1 := ?_) (a' := ?_) rfl rfl (by rfl) ?_ ?_ ?_ ?_; rotate_left; rotate_left; (· go_simp; first | (refine And.intro ?_ ?_ <;> rfl) | rfl); (· exact ⟨by go_simp, by go_simp, by go_simp⟩); rotate_left; (· simp only [Act.put, List.setIfInBounds_toArray, List.set_cons_zero, List.set_cons_succ, i64_w, i32_w]; rfl))
  (refine Calm.t_store (w1 := ?_) rfl (by rfl) rfl ?_ ?_ ?_; rotate_left; (· go_simp; rfl); (· exact ⟨by go_simp, by go_simp, by go_simp⟩))
  (refine Calm.t_value (v := ?_) (w1 := ?_) (a' := ?_) rfl rfl (by rfl) ?_ ?_ ?_ ?_; rotate_left; rotate_left; (· go_simp; first | (refine And.intro ?_ ?_ <;> rfl) | rfl); (· exact ⟨by go_simp, by go_simp, by go_simp⟩); rotate_left; (· simp only [Act.put, List.setIfInBounds_toArray, List.set_cons_zero, List.set_cons_succ, i64_w, i32_w]; rfl))
  (refine Calm.t_store (w1 := ?_) rfl (by rfl) rfl ?_ ?_ ?_; rotate_left; (· go_simp; rfl); (· exact ⟨by go_simp, by go_simp, by go_simp⟩))
  refine Calm.t_nil ?_
  go_wp2_with (fail)
  refine wp_region_still_tail 7 (by kernel_rfl) (by kernel_rfl) ?_
  change wpStill _ _ (World.drew _) (fun a' => wpList _ _ _ _ a' (World.drew _)) _ _
  simp only [List.take_succ_cons, List.take_zero, List.drop_succ_cons, List.drop_zero]
  repeat still_step
  refine wpStill_nil ?_
  go_wp2_with (fail)
  go_at_call 21
  (with_reducible refine (ipv4_put.two _ _ _ _ 0 0 _ ?_ ?_ ?_ ?_ ).mono ?_)
  · (go_simp; first | done | rfl)
  · (go_simp; first | done | rfl)
  · (go_simp; first | done | rfl)
  · (go_simp; first | done | rfl)
  rintro e w' ⟨rfl, rfl⟩
  go_wp2_with (fail)
  refine wp_region_still_tail 5 (by kernel_rfl) (by kernel_rfl) ?_
  change wpStill _ _ (World.drew _) (fun a' => wpList _ _ _ _ a' (World.drew _)) _ _
  simp only [List.take_succ_cons, List.take_zero, List.drop_succ_cons, List.drop_zero]
  repeat still_step
  refine wpStill_nil ?_
  go_wp2_with (fail)
  go_at_call 21
  (with_reducible refine (ipv4_put.two _ _ _ _ 0 0 _ ?_ ?_ ?_ ?_ ).mono ?_)
  · (go_simp; first | done | rfl)
  · (go_simp; first | done | rfl)
  · (go_simp; first | done | rfl)
  · (go_simp; first | done | rfl)
  rintro e w' ⟨rfl, rfl⟩
  go_wp2_with (fail)
  refine wp_region_still_tail 5 (by kernel_rfl) (by kernel_rfl) ?_
  change wpStill _ _ (World.drew _) (fun a' => wpList _ _ _ _ a' (World.drew _)) _ _
  simp only [List.take_succ_cons, List.take_zero, List.drop_succ_cons, List.drop_zero]
  repeat still_step
  refine wpStill_nil ?_
  go_wp2_with (fail)
  go_at_call 21
  (with_reducible refine (ipv4_put.two _ _ _ _ 0 0 _ ?_ ?_ ?_ ?_ ).mono ?_)
  · (go_simp; first | done | rfl)
  · (go_simp; first | done | rfl)
  · (go_simp; first | done | rfl)
  · (go_simp; first | done | rfl)
  rintro e w' ⟨rfl, rfl⟩
  go_wp2_with (fail)
  refine wp_region_still_tail 4 (by kernel_rfl) (by kernel_rfl) ?_
  change wpStill _ _ (World.drew _) (fun a' => wpList _ _ _ _ a' (World.drew _)) _ _
  simp only [List.take_succ_cons, List.take_zero, List.drop_succ_cons, List.drop_zero]
  repeat still_step
  refine wpStill_nil ?_
  go_wp2_with (fail)
  go_at_call 21
  (with_reducible refine (ipv4_put.four _ _ _ _ 0 0 0 0 _ ?_ ?_ ?_ ?_ ?_ ?_ ?_ ?_ ).mono ?_)
  · (go_simp; first | done | rfl)
  · (go_simp; first | done | rfl)
  · (go_simp; first | done | rfl)
  · (go_simp; first | done | rfl)
  · (go_simp; first | done | rfl)
  · (go_simp; first | done | rfl)
  · (go_simp; first | done | rfl)
  · (go_simp; first | done | rfl)
  rintro e w' ⟨rfl, rfl⟩
  go_wp2_with (fail)
  refine wp_region_still_tail 4 (by kernel_rfl) (by kernel_rfl) ?_
  change wpStill _ _ (World.drew _) (fun a' => wpList _ _ _ _ a' (World.drew _)) _ _
  simp only [List.take_succ_cons, List.take_zero, List.drop_succ_cons, List.drop_zero]
  repeat still_step
  refine wpStill_nil ?_
  go_wp2_with (fail)
  go_at_call 21
  (with_reducible refine (ipv4_put.four _ _ _ _ 0 0 0 0 _ ?_ ?_ ?_ ?_ ?_ ?_ ?_ ?_ ).mono ?_)
  · (go_simp; first | done | rfl)
  · (go_simp; first | done | rfl)
  · (go_simp; first | done | rfl)
  · (go_simp; first | done | rfl)
  · (go_simp; first | done | rfl)
  · (go_simp; first | done | rfl)
  · (go_simp; first | done | rfl)
  · (go_simp; first | done | rfl)
  rintro e w' ⟨rfl, rfl⟩
  go_wp2_with (fail)
  refine Conv.wp_world (fun W => W.heap[w.heap.size + 1 + 1]? = some (.cells (([69, a0, (20 + (a7.size : Int)) / 256 % 256, (20 + (a7.size : Int)) % 256, a1 / 256 % 256, a1 % 256, a2 / 256 % 256, a2 % 256, a3, a4, 0, 0, a5 / 16777216 % 256, a5 / 65536 % 256, a5 / 256 % 256, a5 % 256, a6 / 16777216 % 256, a6 / 65536 % 256, a6 / 256 % 256, a6 % 256] : List Int).map fun x => Value.int .u8 x).toArray 5 (0, 0)) ∧ W.cell? ⟨w.heap.size, 7, none⟩ = some (.string a7) ∧ W.cell? ⟨w.heap.size + 1, 0, none⟩ = some (.int .i64 0) ∧ W.frozen? ⟨w.heap.size + 1, 0, none⟩ = false ∧ Below w.heap.size w W) ⟨?_, ?_, ?_, ?_, ?_⟩ ?_
  · (with_reducible repeat refine blk_drew ?_); exact Conv.blk_new_at _ _ (by go_simp)
  · go_simp
  · go_simp
  · go_simp
  · repeat (first | exact Below.refl _ _ | apply below_alloc | apply pw_below_drewN | apply below_drew1 | refine below_set ?_ (Nat.le_succ _))
  rintro W ⟨bk, hb7, he0, hf0, hBW⟩
  have HBW := Aside0.mk hBW
  have BK := Aside0.mk bk
  have hcv : ∀ W' : World, W'.heap[w.heap.size + 1 + 1]? = some (.cells (([69, a0, (20 + (a7.size : Int)) / 256 % 256, (20 + (a7.size : Int)) % 256, a1 / 256 % 256, a1 % 256, a2 / 256 % 256, a2 % 256, a3, a4, 0, 0, a5 / 16777216 % 256, a5 / 65536 % 256, a5 / 256 % 256, a5 % 256, a6 / 16777216 % 256, a6 / 65536 % 256, a6 / 256 % 256, a6 % 256] : List Int).map fun x => Value.int .u8 x).toArray 5 (0, 0)) → (convert 34 9 (.slice (some ⟨w.heap.size + 1 + 1, 0, none⟩) 20 20)).run Try.prog W' = .ok (.string (strOfNums [69, a0, (20 + (a7.size : Int)) / 256 % 256, (20 + (a7.size : Int)) % 256, a1 / 256 % 256, a1 % 256, a2 / 256 % 256, a2 % 256, a3, a4, 0, 0, a5 / 16777216 % 256, a5 / 65536 % 256, a5 / 256 % 256, a5 % 256, a6 / 16777216 % 256, a6 / 65536 % 256, a6 / 256 % 256, a6 % 256])) W' := fun W' h => Conv.string_blk [69, a0, (20 + (a7.size : Int)) / 256 % 256, (20 + (a7.size : Int)) % 256, a1 / 256 % 256, a1 % 256, a2 / 256 % 256, a2 % 256, a3, a4, 0, 0, a5 / 16777216 % 256, a5 / 65536 % 256, a5 / 256 % 256, a5 % 256, a6 / 16777216 % 256, a6 / 65536 % 256, a6 / 256 % 256, a6 % 256] h rfl (by omega) Try.underlying34 Try.underlying5 Try.underlying9
  clear hBW
  have hs0 : ipv4_Build.hd a0 a1 a2 a3 a4 a5 a6 (20 + a7.size) 0 = [69, a0, (20 + (a7.size : Int)) / 256 % 256, (20 + (a7.size : Int)) % 256, a1 / 256 % 256, a1 % 256, a2 / 256 % 256, a2 % 256, a3, a4, 0, 0, a5 / 16777216 % 256, a5 / 65536 % 256, a5 / 256 % 256, a5 % 256, a6 / 16777216 % 256, a6 / 65536 % 256, a6 / 256 % 256, a6 % 256] := by simp [ipv4_Build.hd]
  have HS2 := HS.out
  rw [hs0] at HS2
  have HS3 := Aside0.mk HS2
  clear HS HS2 hs0
  refine wp_region_still_tail 6 (by kernel_rfl) (by kernel_rfl) ?_
  change wpStill _ _ (World.drew _) (fun a' => wpList _ _ _ _ a' (World.drew _)) _ _
  simp only [List.take_succ_cons, List.take_zero, List.drop_succ_cons, List.drop_zero]
  have hcv2 := hcv W.drew bk
  clear hcv bk
  repeat (first | still_step | (still_call ((ipv4_Sum.same k _ _ _ HS3.out).mono fun _ _ ⟨h1, h2⟩ => ⟨h1, h2.symm⟩)))
  refine wpStill_nil ?_
  have bk := BK.out
  have x10 : W.cell? ⟨w.heap.size + 1 + 1, 10, none⟩ = some (.int .u8 0) := (blk_cell bk 10).trans rfl
  have x11 : W.cell? ⟨w.heap.size + 1 + 1, 11, none⟩ = some (.int .u8 0) := (blk_cell bk 11).trans rfl
  have z10 := blk_frozen bk 10
  have z11 := blk_frozen bk 11
  clear hcv2 bk
  go_wp2_with (fail)
  go_at_call 21
  (with_reducible refine (ipv4_put.two _ _ _ _ 0 0 _ ?_ ?_ ?_ ?_).mono ?_)
  · (go_simp; first | done | rfl)
  · (go_simp; first | done | rfl)
  · (go_simp; first | done | rfl)
  · (go_simp; first | done | rfl)
  rintro e w' ⟨rfl, rfl⟩
  clear x10 x11 z10 z11
  have hs1 : s % 4294967296 / 256 % 256 = s / 256 % 256 := by omega
  obtain ⟨T, hT⟩ : ∃ T, strOfNums (ipv4_Build.hd a0 a1 a2 a3 a4 a5 a6 (20 + (a7.size : Int)) s) = T := ⟨_, rfl⟩
  have bk1 : ((W.setCell ⟨w.heap.size + 1 + 1, 10, none⟩ (.int .u8 (s / 256 % 256))).setCell ⟨w.heap.size + 1 + 1, 11, none⟩ (.int .u8 (s % 256))).drew.heap[w.heap.size + 1 + 1]? = some (.cells (([69, a0, (20 + (a7.size : Int)) / 256 % 256, (20 + (a7.size : Int)) % 256, a1 / 256 % 256, a1 % 256, a2 / 256 % 256, a2 % 256, a3, a4, s / 256 % 256, s % 256, a5 / 16777216 % 256, a5 / 65536 % 256, a5 / 256 % 256, a5 % 256, a6 / 16777216 % 256, a6 / 65536 % 256, a6 / 256 % 256, a6 % 256] : List Int).map fun x => Value.int .u8 x).toArray 5 (0, 0)) := blk_drew (blk_put (blk_put BK.out 10 _ rfl) 11 _ rfl)
  have hcv3 : (convert 34 9 (.slice (some ⟨w.heap.size + 1 + 1, 0, none⟩) 20 20)).run Try.prog ((W.setCell ⟨w.heap.size + 1 + 1, 10, none⟩ (.int .u8 (s / 256 % 256))).setCell ⟨w.heap.size + 1 + 1, 11, none⟩ (.int .u8 (s % 256))).drew = .ok (.string T) ((W.setCell ⟨w.heap.size + 1 + 1, 10, none⟩ (.int .u8 (s / 256 % 256))).setCell ⟨w.heap.size + 1 + 1, 11, none⟩ (.int .u8 (s % 256))).drew := by
    rw [← hT]
    exact Conv.string_blk [69, a0, (20 + (a7.size : Int)) / 256 % 256, (20 + (a7.size : Int)) % 256, a1 / 256 % 256, a1 % 256, a2 / 256 % 256, a2 % 256, a3, a4, s / 256 % 256, s % 256, a5 / 16777216 % 256, a5 / 65536 % 256, a5 / 256 % 256, a5 % 256, a6 / 16777216 % 256, a6 / 65536 % 256, a6 / 256 % 256, a6 % 256] bk1 rfl (by omega) Try.underlying34 Try.underlying5 Try.underlying9
  have hsz : (9223372036854775807 < T.size + a7.size) = False := by
    have hl : T.size = 20 := by rw [← hT, strOfNums_size]; rfl
    have := ph.out
    exact eq_false (by omega)
  have HT := Aside0.mk hT
  clear bk1 hT
  go_wp2_with (fail)
  refine leaves_cons (f := 19) (args := #[.pointer (some ⟨w.heap.size + 1, 0, none⟩)]) (by simp) (by simp [go_sem]) ?_
  refine (Hand.caught_idle ⟨w.heap.size + 1, 0, none⟩ _).mono ?_
  rintro e u' w'' ⟨rfl, rfl, rfl⟩
  rw [HT.out]
  simp [Leaves, settle, results, Try.results10, go_sem, he0, hf0]
  repeat (first | exact HBW.out | apply pw_below_drewN | apply below_drew1 | refine below_set ?_ (by omega))

/-! ### ipv4_Hop: by hand -/
def ipv4_Hop.f (k : Nat) (a0 : ByteArray) : Option (ByteArray × Int) := (ipv4_Parse.f k a0).bind fun x => if x.2.2.2.2.2.2.2.2 = 0 then (if x.2.2.2.1 < 2 then some ((⟨#[]⟩ : ByteArray), 2) else (ipv4_Build.f k x.1 x.2.1 x.2.2.1 (wrap64 (x.2.2.2.1 - 1)) x.2.2.2.2.1 x.2.2.2.2.2.1 x.2.2.2.2.2.2.1 x.2.2.2.2.2.2.2.1)) else some ((⟨#[]⟩ : ByteArray), x.2.2.2.2.2.2.2.2)
theorem ipv4_Hop.mono : ∀ a0 k, LeO (ipv4_Hop.f k a0) (ipv4_Hop.f (k + 1) a0) := by
  intro a0 k
  unfold ipv4_Hop.f
  exact LeO.bind (ipv4_Parse.mono _ _) (fun _ => LeO.ite (LeO.ite (LeO.refl _) (ipv4_Build.mono _ _ _ _ _ _ _ _ _)) (LeO.refl _))
set_option maxHeartbeats 4000000 in
set_option maxRecDepth 100000 in
theorem ipv4_Hop.calls (k : Nat) (a0 : ByteArray) (r1 : ByteArray) (r2 : Int) (w : World) (h : ipv4_Hop.f k a0 = some (r1, r2)) :
    Calls Try.prog 17 #[.string a0] w fun e w' => e = .returned (.tuple #[.string r1, .int .i64 r2]) ∧ Below w.heap.size w w' := by
  unfold ipv4_Hop.f at h
  obtain ⟨⟨x1, x2, x3, x4, x5, x6, x7, x8, x9⟩, hA, h⟩ := Option.bind_eq_some_iff.1 h
  have A1 := Aside0.mk hA
  clear hA
  replace h : (if x9 = 0 then (if x4 < 2 then some ((⟨#[]⟩ : ByteArray), 2) else (ipv4_Build.f k x1 x2 x3 (wrap64 (x4 - 1)) x5 x6 x7 x8)) else some ((⟨#[]⟩ : ByteArray), x9)) = some (r1, r2) := h
  by_cases c3 : x9 = 0
  · rw [if_pos c3] at h
    have c3a : (x9 == 0) = true := beq_iff_eq.mpr c3
    have c3b : (x9 != 0) = false := bne_eq_false_iff_eq.mpr c3
    clear c3
    by_cases c4 : x4 < 2
    · rw [if_pos c4] at h
      have c4a : decide (x4 < 2) = true := decide_eq_true c4
      clear c4
      obtain ⟨rfl, rfl⟩ := Prod.mk.inj (Option.some.inj h)
      clear h
      go_enter Try.func17, Try.ntmps17
      go_wp2_with (first | (go_at_call 15; (with_reducible refine (ipv4_Parse.calls k a0 x1 x2 x3 x4 x5 x6 x7 x8 x9 _ A1.out).mono ?_); rintro e w1 ⟨rfl, hb⟩; have HB := Aside0.mk hb; clear hb))
      go_ret2
      exact ⟨rfl, by repeat (first | exact HB.out | apply below_alloc | apply below_drew1 | apply pw_below_drewN)⟩
    · rw [if_neg c4] at h
      have c4a : decide (x4 < 2) = false := decide_eq_false c4
      clear c4
      have A2 := Aside0.mk h
      clear h
      go_enter Try.func17, Try.ntmps17
      go_wp2_with (first | (go_at_call 15; (with_reducible refine (ipv4_Parse.calls k a0 x1 x2 x3 x4 x5 x6 x7 x8 x9 _ A1.out).mono ?_); rintro e w1 ⟨rfl, hb⟩; have HB := Aside0.mk hb; clear hb) | (go_at_call 10; (with_reducible refine (ipv4_Build.calls k x1 x2 x3 (wrap64 (x4 - 1)) x5 x6 x7 x8 r1 r2 _ A2.out).mono ?_); rintro e w2 ⟨rfl, hb⟩; have HB2 := Aside0.mk hb; clear hb))
      go_ret2
      exact ⟨rfl, below_step (by repeat (first | exact HB.out | apply below_alloc | apply below_drew1 | apply pw_below_drewN)) HB2.out⟩
  · rw [if_neg c3] at h
    have c3a : (x9 == 0) = false := beq_eq_false_iff_ne.mpr c3
    have c3b : (x9 != 0) = true := bne_iff_ne.mpr c3
    clear c3
    obtain ⟨rfl, rfl⟩ := Prod.mk.inj (Option.some.inj h)
    clear h
    go_enter Try.func17, Try.ntmps17
    go_wp2_with (first | (go_at_call 15; (with_reducible refine (ipv4_Parse.calls k a0 x1 x2 x3 x4 x5 x6 x7 x8 x9 _ A1.out).mono ?_); rintro e w1 ⟨rfl, hb⟩; have HB := Aside0.mk hb; clear hb))
    go_ret2
    exact ⟨rfl, by repeat (first | exact HB.out | apply below_alloc | apply below_drew1 | apply pw_below_drewN)⟩

/-! ### vizardref02_Hop: by hand -/
def vizardref02_Hop.f (k : Nat) (a0 : ByteArray) : Option (ByteArray × Int) := (vizardref02_Parse.f k a0).bind fun x => if x.2.2.2.2.2.2.2.2 = 0 then (if x.2.2.2.1 < 2 then some ((⟨#[]⟩ : ByteArray), 2) else (vizardref02_Build.f k x.1 x.2.1 x.2.2.1 (wrap64 (x.2.2.2.1 - 1)) x.2.2.2.2.1 x.2.2.2.2.2.1 x.2.2.2.2.2.2.1 x.2.2.2.2.2.2.2.1)) else some ((⟨#[]⟩ : ByteArray), x.2.2.2.2.2.2.2.2)
theorem vizardref02_Hop.mono : ∀ a0 k, LeO (vizardref02_Hop.f k a0) (vizardref02_Hop.f (k + 1) a0) := by
  intro a0 k
  unfold vizardref02_Hop.f
  exact LeO.bind (vizardref02_Parse.mono _ _) (fun _ => LeO.ite (LeO.ite (LeO.refl _) (vizardref02_Build.mono _ _ _ _ _ _ _ _ _)) (LeO.refl _))
set_option maxHeartbeats 4000000 in
set_option maxRecDepth 100000 in
theorem vizardref02_Hop.calls (k : Nat) (a0 : ByteArray) (r1 : ByteArray) (r2 : Int) (w : World) (h : vizardref02_Hop.f k a0 = some (r1, r2)) :
    Calls Try.prog 18 #[.string a0] w fun e w' => e = .returned (.tuple #[.string r1, .int .i64 r2]) ∧ Below w.heap.size w w' := by
  unfold vizardref02_Hop.f at h
  obtain ⟨⟨x1, x2, x3, x4, x5, x6, x7, x8, x9⟩, hA, h⟩ := Option.bind_eq_some_iff.1 h
  have A1 := Aside0.mk hA
  clear hA
  replace h : (if x9 = 0 then (if x4 < 2 then some ((⟨#[]⟩ : ByteArray), 2) else (vizardref02_Build.f k x1 x2 x3 (wrap64 (x4 - 1)) x5 x6 x7 x8)) else some ((⟨#[]⟩ : ByteArray), x9)) = some (r1, r2) := h
  by_cases c3 : x9 = 0
  · rw [if_pos c3] at h
    have c3a : (x9 == 0) = true := beq_iff_eq.mpr c3
    have c3b : (x9 != 0) = false := bne_eq_false_iff_eq.mpr c3
    clear c3
    by_cases c4 : x4 < 2
    · rw [if_pos c4] at h
      have c4a : decide (x4 < 2) = true := decide_eq_true c4
      clear c4
      obtain ⟨rfl, rfl⟩ := Prod.mk.inj (Option.some.inj h)
      clear h
      go_enter Try.func18, Try.ntmps18
      go_wp2_with (first | (go_at_call 16; (with_reducible refine (vizardref02_Parse.calls k a0 x1 x2 x3 x4 x5 x6 x7 x8 x9 _ A1.out).mono ?_); rintro e w1 ⟨rfl, hb⟩; have HB := Aside0.mk hb; clear hb))
      go_ret2
      exact ⟨rfl, by repeat (first | exact HB.out | apply below_alloc | apply below_drew1 | apply pw_below_drewN)⟩
    · rw [if_neg c4] at h
      have c4a : decide (x4 < 2) = false := decide_eq_false c4
      clear c4
      have A2 := Aside0.mk h
      clear h
      go_enter Try.func18, Try.ntmps18
      go_wp2_with (first | (go_at_call 16; (with_reducible refine (vizardref02_Parse.calls k a0 x1 x2 x3 x4 x5 x6 x7 x8 x9 _ A1.out).mono ?_); rintro e w1 ⟨rfl, hb⟩; have HB := Aside0.mk hb; clear hb) | (go_at_call 11; (with_reducible refine (vizardref02_Build.calls k x1 x2 x3 (wrap64 (x4 - 1)) x5 x6 x7 x8 r1 r2 _ A2.out).mono ?_); rintro e w2 ⟨rfl, hb⟩; have HB2 := Aside0.mk hb; clear hb))
      go_ret2
      exact ⟨rfl, below_step (by repeat (first | exact HB.out | apply below_alloc | apply below_drew1 | apply pw_below_drewN)) HB2.out⟩
  · rw [if_neg c3] at h
    have c3a : (x9 == 0) = false := beq_eq_false_iff_ne.mpr c3
    have c3b : (x9 != 0) = true := bne_iff_ne.mpr c3
    clear c3
    obtain ⟨rfl, rfl⟩ := Prod.mk.inj (Option.some.inj h)
    clear h
    go_enter Try.func18, Try.ntmps18
    go_wp2_with (first | (go_at_call 16; (with_reducible refine (vizardref02_Parse.calls k a0 x1 x2 x3 x4 x5 x6 x7 x8 x9 _ A1.out).mono ?_); rintro e w1 ⟨rfl, hb⟩; have HB := Aside0.mk hb; clear hb))
    go_ret2
    exact ⟨rfl, by repeat (first | exact HB.out | apply below_alloc | apply below_drew1 | apply pw_below_drewN)⟩

/-! ### vizardlaw02_Ipv4Parses: function 8 -/
def vizardlaw02_Ipv4Parses.f (k : Nat) (a0 : ByteArray) : Option (Bool) := (ipv4_Parse.f k a0).bind fun bt136 => ((vizardref02_Parse.f k a0).bind fun bt146 => ((ipv4_Hop.f k a0).bind fun bt156 => ((vizardref02_Hop.f k a0).bind fun bt158 => (if (bt136.1 == bt146.1 && (bt136.2.1 == bt146.2.1 && (bt136.2.2.1 == bt146.2.2.1 && (bt136.2.2.2.1 == bt146.2.2.2.1 && (bt136.2.2.2.2.1 == bt146.2.2.2.2.1 && (bt136.2.2.2.2.2.1 == bt146.2.2.2.2.2.1 && (bt136.2.2.2.2.2.2.1 == bt146.2.2.2.2.2.2.1 && (bt136.2.2.2.2.2.2.2.1.toList == bt146.2.2.2.2.2.2.2.1.toList)))))))) = true then (if bt136.2.2.2.2.2.2.2.2 = bt146.2.2.2.2.2.2.2.2 then (if bt156.1.toList = bt158.1.toList then (some (bt156.2 == bt158.2)) else (some false)) else (some false)) else (some false)))))
theorem vizardlaw02_Ipv4Parses.mono : ∀ a0 k, LeO (vizardlaw02_Ipv4Parses.f k a0) (vizardlaw02_Ipv4Parses.f (k + 1) a0) := by
  intro a0 k
  unfold vizardlaw02_Ipv4Parses.f
  repeat' first
      | (with_reducible exact ipv4_Hop.mono _ _)
      | (with_reducible exact ipv4_Parse.mono _ _)
      | (with_reducible exact vizardref02_Hop.mono _ _)
      | (with_reducible exact vizardref02_Parse.mono _ _)
      | (with_reducible exact LeO.refl _)
      | (with_reducible exact LeO.none _)
      | (with_reducible refine LeO.ite ?_ ?_)
      | (with_reducible refine LeO.bind ?_ (fun _ => ?_))
      | exact ipv4_Hop.mono _ _
      | exact ipv4_Parse.mono _ _
      | exact vizardref02_Hop.mono _ _
      | exact vizardref02_Parse.mono _ _
      | exact LeO.none _
      | refine LeO.ite ?_ ?_
      | refine LeO.bind ?_ (fun _ => ?_)
set_option maxHeartbeats 8000000 in
set_option maxRecDepth 100000 in
theorem vizardlaw02_Ipv4Parses.calls (k : Nat) (a0 : ByteArray) (r : Bool) (w : World) (h : vizardlaw02_Ipv4Parses.f k a0 = some r) :
    Calls Try.prog 8 #[.string a0] w fun e w' => e = .returned (.bool r) ∧ Below w.heap.size w w' := by
  have hu24 := Try.underlying24
  have HB := Aside0.mk (Below.refl w.heap.size w)
  have H : ((ipv4_Parse.f k a0).bind fun bt136 => ((vizardref02_Parse.f k a0).bind fun bt146 => ((ipv4_Hop.f k a0).bind fun bt156 => ((vizardref02_Hop.f k a0).bind fun bt158 => (if (bt136.1 == bt146.1 && (bt136.2.1 == bt146.2.1 && (bt136.2.2.1 == bt146.2.2.1 && (bt136.2.2.2.1 == bt146.2.2.2.1 && (bt136.2.2.2.2.1 == bt146.2.2.2.2.1 && (bt136.2.2.2.2.2.1 == bt146.2.2.2.2.2.1 && (bt136.2.2.2.2.2.2.1 == bt146.2.2.2.2.2.2.1 && (bt136.2.2.2.2.2.2.2.1.toList == bt146.2.2.2.2.2.2.2.1.toList)))))))) = true then (if bt136.2.2.2.2.2.2.2.2 = bt146.2.2.2.2.2.2.2.2 then (if bt156.1.toList = bt158.1.toList then (some (bt156.2 == bt158.2)) else (some false)) else (some false)) else (some false)))))) = some r := h
  clear h
  replace H := Option.bind_eq_some_iff.mp H
  obtain ⟨⟨t136, t137, t138, t139, t140, t141, t142, t143, t144⟩, A20, H⟩ := H
  replace H : ((vizardref02_Parse.f k a0).bind fun bt146 => ((ipv4_Hop.f k a0).bind fun bt156 => ((vizardref02_Hop.f k a0).bind fun bt158 => (if (t136 == bt146.1 && (t137 == bt146.2.1 && (t138 == bt146.2.2.1 && (t139 == bt146.2.2.2.1 && (t140 == bt146.2.2.2.2.1 && (t141 == bt146.2.2.2.2.2.1 && (t142 == bt146.2.2.2.2.2.2.1 && (t143.toList == bt146.2.2.2.2.2.2.2.1.toList)))))))) = true then (if t144 = bt146.2.2.2.2.2.2.2.2 then (if bt156.1.toList = bt158.1.toList then (some (bt156.2 == bt158.2)) else (some false)) else (some false)) else (some false))))) = some r := H
  have A2 := Aside0.mk A20
  clear A20
  replace H := Option.bind_eq_some_iff.mp H
  obtain ⟨⟨t146, t147, t148, t149, t150, t151, t152, t153, t154⟩, A30, H⟩ := H
  replace H : ((ipv4_Hop.f k a0).bind fun bt156 => ((vizardref02_Hop.f k a0).bind fun bt158 => (if (t136 == t146 && (t137 == t147 && (t138 == t148 && (t139 == t149 && (t140 == t150 && (t141 == t151 && (t142 == t152 && (t143.toList == t153.toList)))))))) = true then (if t144 = t154 then (if bt156.1.toList = bt158.1.toList then (some (bt156.2 == bt158.2)) else (some false)) else (some false)) else (some false)))) = some r := H
  have A3 := Aside0.mk A30
  clear A30
  replace H := Option.bind_eq_some_iff.mp H
  obtain ⟨⟨t156, t157⟩, A40, H⟩ := H
  replace H : ((vizardref02_Hop.f k a0).bind fun bt158 => (if (t136 == t146 && (t137 == t147 && (t138 == t148 && (t139 == t149 && (t140 == t150 && (t141 == t151 && (t142 == t152 && (t143.toList == t153.toList)))))))) = true then (if t144 = t154 then (if t156.toList = bt158.1.toList then (some (t157 == bt158.2)) else (some false)) else (some false)) else (some false))) = some r := H
  have A4 := Aside0.mk A40
  clear A40
  replace H := Option.bind_eq_some_iff.mp H
  obtain ⟨⟨t158, t159⟩, A50, H⟩ := H
  replace H : (if (t136 == t146 && (t137 == t147 && (t138 == t148 && (t139 == t149 && (t140 == t150 && (t141 == t151 && (t142 == t152 && (t143.toList == t153.toList)))))))) = true then (if t144 = t154 then (if t156.toList = t158.toList then (some (t157 == t159)) else (some false)) else (some false)) else (some false)) = some r := H
  have A5 := Aside0.mk A50
  clear A50
  by_cases c6 : (t136 == t146 && (t137 == t147 && (t138 == t148 && (t139 == t149 && (t140 == t150 && (t141 == t151 && (t142 == t152 && (t143.toList == t153.toList)))))))) = true
  · rw [if_pos c6] at H
    have c6b0 : (t136 == t146 && (t137 == t147 && (t138 == t148 && (t139 == t149 && (t140 == t150 && (t141 == t151 && (t142 == t152 && (t143.toList == t153.toList)))))))) = true := c6
    (try (have c6b1 : decide (t136 = t146 && (t137 == t147 && (t138 == t148 && (t139 == t149 && (t140 == t150 && (t141 == t151 && (t142 == t152 && (t143.toList == t153.toList)))))))) = true := by simpa using c6))
    (try (have c6b2 : (t136 == t146 && (t137 == t147 && (t138 == t148 && (t139 == t149 && (t140 == t150 && (t141 == t151 && (t142 == t152 && (t143.toList == t153.toList)))))))) = true := by simpa using c6))
    clear c6
    by_cases c7 : t144 = t154
    · rw [if_pos c7] at H
      have c7b0 : (t144 == t154) = true := beq_iff_eq.mpr c7
      have c7b1 : (t144 != t154) = false := bne_eq_false_iff_eq.mpr c7
      clear c7
      by_cases c8 : t156.toList = t158.toList
      · rw [if_pos c8] at H
        have c8b0 : (t156.toList == t158.toList) = true := beq_iff_eq.mpr c8
        have c8b1 : (t156.toList != t158.toList) = false := bne_eq_false_iff_eq.mpr c8
        clear c8
        obtain rfl := Option.some.inj H
        go_enter Try.func8, Try.ntmps8
        go_wp2_with (first | ((with_reducible refine gate_callee (f := 15) rfl ?_); refine goesL_ (some 13) rfl rfl Try.func15 (by kernel_rfl) rfl #[.string a0] rfl (by (try simp only [List.map_toArray, List.map_cons, List.map_nil]); first | done | rfl | (simp only [List.length_drop, List.length_take]; rfl)) ?_; (with_reducible refine (ipv4_Parse.calls k a0 t136 t137 t138 t139 t140 t141 t142 t143 t144 _ A2.out).mono ?_); rintro e w9 ⟨rfl, hb⟩; refine ⟨_, rfl, ?_⟩; have n0_ := Aside0.mk (below_step (by repeat (first | (with_reducible first | exact HB.out | apply below_alloc | apply pw_below_drewN | apply below_drew1) | exact HB.out)) hb); clear HB; have HB := n0_; clear n0_; (try clear hb); (try clear hb2); (try clear hk); (try clear hi)) | ((with_reducible refine gate_dst (N := 3) rfl ?_); refine box_event ?hg (N := 3) ?hd (cs := #[.int .i64 0, .int .i64 0, .int .i64 0, .int .i64 0, .int .i64 0, .int .u32 0, .int .u32 0, .string (⟨#[]⟩ : ByteArray)]) (t := 24) ?hr ?_; (case hd => rfl); (case hg => rfl); (case hr => first | (go_simp; done) | (go_simp; rfl)); intro gb145 hg w10 hbox hb; have n0_ := Aside0.mk (below_step (by repeat (first | (with_reducible first | exact HB.out | apply below_alloc | apply pw_below_drewN | apply below_drew1) | exact HB.out)) hb); have n1_ := Aside0.mk (hbox); have n2_ := Aside0.mk ((by rw [hg]; exact (below_size (by repeat (first | (with_reducible first | exact HB.out | apply below_alloc | apply pw_below_drewN | apply below_drew1) | exact HB.out))) : w.heap.size ≤ gb145)); have n3_ := Aside0.mk ((by rw [hg]; exact (below_size (by repeat (first | (with_reducible first | exact HB.out | apply below_alloc | apply pw_below_drewN | apply below_drew1) | exact HB.out))) : w.heap.size ≤ gb145)); clear HB; have HB := n0_; have BK145 := n1_; have GW145 := n2_; have GE145 := n3_; clear n0_ n1_ n2_ n3_; clear hb hbox hg; have hcz11_0 : w10.cell? ⟨gb145, 0, none⟩ = some (.int .i64 0) := (blk_cell BK145.out 0).trans rfl; have hcz11_1 : w10.cell? ⟨gb145, 1, none⟩ = some (.int .i64 0) := (blk_cell BK145.out 1).trans rfl; have hcz11_2 : w10.cell? ⟨gb145, 2, none⟩ = some (.int .i64 0) := (blk_cell BK145.out 2).trans rfl; have hcz11_3 : w10.cell? ⟨gb145, 3, none⟩ = some (.int .i64 0) := (blk_cell BK145.out 3).trans rfl; have hcz11_4 : w10.cell? ⟨gb145, 4, none⟩ = some (.int .i64 0) := (blk_cell BK145.out 4).trans rfl; have hcz11_5 : w10.cell? ⟨gb145, 5, none⟩ = some (.int .u32 0) := (blk_cell BK145.out 5).trans rfl; have hcz11_6 : w10.cell? ⟨gb145, 6, none⟩ = some (.int .u32 0) := (blk_cell BK145.out 6).trans rfl; have hcz11_7 : w10.cell? ⟨gb145, 7, none⟩ = some (.string (⟨#[]⟩ : ByteArray)) := (blk_cell BK145.out 7).trans rfl; have hfz11_0 := blk_frozen BK145.out 0; have hfz11_1 := blk_frozen BK145.out 1; have hfz11_2 := blk_frozen BK145.out 2; have hfz11_3 := blk_frozen BK145.out 3; have hfz11_4 := blk_frozen BK145.out 4; have hfz11_5 := blk_frozen BK145.out 5; have hfz11_6 := blk_frozen BK145.out 6; have hfz11_7 := blk_frozen BK145.out 7) | ((with_reducible refine gate_callee (f := 16) rfl ?_); refine goesL_ (some 18) rfl rfl Try.func16 (by kernel_rfl) rfl #[.string a0] rfl (by (try simp only [List.map_toArray, List.map_cons, List.map_nil]); first | done | rfl | (simp only [List.length_drop, List.length_take]; rfl)) ?_; (with_reducible refine (vizardref02_Parse.calls k a0 t146 t147 t148 t149 t150 t151 t152 t153 t154 _ A3.out).mono ?_); rintro e w12 ⟨rfl, hb⟩; refine ⟨_, rfl, ?_⟩; have n0_ := Aside0.mk (blk_below (g := gb145) (o := .cells #[.int .i64 t136, .int .i64 t137, .int .i64 t138, .int .i64 t139, .int .i64 t140, .int .u32 t141, .int .u32 t142, .string t143] 24 (0, 0)) (by (with_reducible repeat (first | refine blk_drewN ?_ _ | refine blk_drew ?_ | refine blk_alloc ?_ _)); refine blk_put (cs := #[.int .i64 t136, .int .i64 t137, .int .i64 t138, .int .i64 t139, .int .i64 t140, .int .u32 t141, .int .u32 t142, .string (⟨#[]⟩ : ByteArray)]) ?_ 7 _ rfl; (with_reducible repeat (first | refine blk_drewN ?_ _ | refine blk_drew ?_ | refine blk_alloc ?_ _)); refine blk_put (cs := #[.int .i64 t136, .int .i64 t137, .int .i64 t138, .int .i64 t139, .int .i64 t140, .int .u32 t141, .int .u32 0, .string (⟨#[]⟩ : ByteArray)]) ?_ 6 _ rfl; (with_reducible repeat (first | refine blk_drewN ?_ _ | refine blk_drew ?_ | refine blk_alloc ?_ _)); refine blk_put (cs := #[.int .i64 t136, .int .i64 t137, .int .i64 t138, .int .i64 t139, .int .i64 t140, .int .u32 0, .int .u32 0, .string (⟨#[]⟩ : ByteArray)]) ?_ 5 _ rfl; (with_reducible repeat (first | refine blk_drewN ?_ _ | refine blk_drew ?_ | refine blk_alloc ?_ _)); refine blk_put (cs := #[.int .i64 t136, .int .i64 t137, .int .i64 t138, .int .i64 t139, .int .i64 0, .int .u32 0, .int .u32 0, .string (⟨#[]⟩ : ByteArray)]) ?_ 4 _ rfl; (with_reducible repeat (first | refine blk_drewN ?_ _ | refine blk_drew ?_ | refine blk_alloc ?_ _)); refine blk_put (cs := #[.int .i64 t136, .int .i64 t137, .int .i64 t138, .int .i64 0, .int .i64 0, .int .u32 0, .int .u32 0, .string (⟨#[]⟩ : ByteArray)]) ?_ 3 _ rfl; (with_reducible repeat (first | refine blk_drewN ?_ _ | refine blk_drew ?_ | refine blk_alloc ?_ _)); refine blk_put (cs := #[.int .i64 t136, .int .i64 t137, .int .i64 0, .int .i64 0, .int .i64 0, .int .u32 0, .int .u32 0, .string (⟨#[]⟩ : ByteArray)]) ?_ 2 _ rfl; (with_reducible repeat (first | refine blk_drewN ?_ _ | refine blk_drew ?_ | refine blk_alloc ?_ _)); refine blk_put (cs := #[.int .i64 t136, .int .i64 0, .int .i64 0, .int .i64 0, .int .i64 0, .int .u32 0, .int .u32 0, .string (⟨#[]⟩ : ByteArray)]) ?_ 1 _ rfl; (with_reducible repeat (first | refine blk_drewN ?_ _ | refine blk_drew ?_ | refine blk_alloc ?_ _)); refine blk_put (cs := #[.int .i64 0, .int .i64 0, .int .i64 0, .int .i64 0, .int .i64 0, .int .u32 0, .int .u32 0, .string (⟨#[]⟩ : ByteArray)]) ?_ 0 _ rfl; (with_reducible repeat (first | refine blk_drewN ?_ _ | refine blk_drew ?_ | refine blk_alloc ?_ _)); exact BK145.out) hb); have n1_ := Aside0.mk (below_step (by repeat (first | (with_reducible first | exact HB.out | apply below_alloc | apply pw_below_drewN | apply below_drew1 | refine below_set ?_ GE145.out) | exact HB.out)) hb); clear BK145; clear HB; have BK145 := n0_; have HB := n1_; clear n0_ n1_; (try clear hb); (try clear hb2); (try clear hk); (try clear hi)) | ((with_reducible refine gate_dst (N := 5) rfl ?_); refine box_event ?hg (N := 5) ?hd (cs := #[.int .i64 0, .int .i64 0, .int .i64 0, .int .i64 0, .int .i64 0, .int .u32 0, .int .u32 0, .string (⟨#[]⟩ : ByteArray)]) (t := 24) ?hr ?_; (case hd => rfl); (case hg => rfl); (case hr => first | (go_simp; done) | (go_simp; rfl)); intro gb155 hg w13 hbox hb; have n0_ := Aside0.mk (blk_below (g := gb145) (o := .cells #[.int .i64 t136, .int .i64 t137, .int .i64 t138, .int .i64 t139, .int .i64 t140, .int .u32 t141, .int .u32 t142, .string t143] 24 (0, 0)) (by (with_reducible repeat (first | refine blk_drewN ?_ _ | refine blk_drew ?_ | refine blk_alloc ?_ _)); exact BK145.out) hb); have n1_ := Aside0.mk (below_step (by repeat (first | (with_reducible first | exact HB.out | apply below_alloc | apply pw_below_drewN | apply below_drew1 | refine below_set ?_ GE145.out) | exact HB.out)) hb); have n2_ := Aside0.mk (hbox); have n3_ := Aside0.mk ((by rw [hg]; exact (below_size (by repeat (first | (with_reducible first | exact HB.out | apply below_alloc | apply pw_below_drewN | apply below_drew1 | refine below_set ?_ GE145.out) | exact HB.out))) : w.heap.size ≤ gb155)); have n4_ := Aside0.mk ((by rw [hg]; exact (below_size (by repeat (first | (with_reducible first | exact HB.out | apply below_alloc | apply pw_below_drewN | apply below_drew1 | refine below_set ?_ GE145.out) | exact HB.out))) : w.heap.size ≤ gb155)); have n5_ := Aside0.mk ((by rw [hg]; exact Nat.ne_of_lt (blk_lt (g := gb145) (o := .cells #[.int .i64 t136, .int .i64 t137, .int .i64 t138, .int .i64 t139, .int .i64 t140, .int .u32 t141, .int .u32 t142, .string t143] 24 (0, 0)) (by (with_reducible repeat (first | refine blk_drewN ?_ _ | refine blk_drew ?_ | refine blk_alloc ?_ _)); exact BK145.out)) : gb145 ≠ gb155)); have n6_ := Aside0.mk ((by rw [hg]; exact Nat.ne_of_gt (blk_lt (g := gb145) (o := .cells #[.int .i64 t136, .int .i64 t137, .int .i64 t138, .int .i64 t139, .int .i64 t140, .int .u32 t141, .int .u32 t142, .string t143] 24 (0, 0)) (by (with_reducible repeat (first | refine blk_drewN ?_ _ | refine blk_drew ?_ | refine blk_alloc ?_ _)); exact BK145.out)) : gb155 ≠ gb145)); clear BK145; clear HB; have BK145 := n0_; have HB := n1_; have BK155 := n2_; have GW155 := n3_; have GE155 := n4_; have NB145_155 := n5_; have NB155_145 := n6_; clear n0_ n1_ n2_ n3_ n4_ n5_ n6_; clear hb hbox hg; have hnb14 := NB155_145.out; have hnc14 := NB145_155.out; have hcz15_0 : w13.cell? ⟨gb155, 0, none⟩ = some (.int .i64 0) := (blk_cell BK155.out 0).trans rfl; have hcz15_1 : w13.cell? ⟨gb155, 1, none⟩ = some (.int .i64 0) := (blk_cell BK155.out 1).trans rfl; have hcz15_2 : w13.cell? ⟨gb155, 2, none⟩ = some (.int .i64 0) := (blk_cell BK155.out 2).trans rfl; have hcz15_3 : w13.cell? ⟨gb155, 3, none⟩ = some (.int .i64 0) := (blk_cell BK155.out 3).trans rfl; have hcz15_4 : w13.cell? ⟨gb155, 4, none⟩ = some (.int .i64 0) := (blk_cell BK155.out 4).trans rfl; have hcz15_5 : w13.cell? ⟨gb155, 5, none⟩ = some (.int .u32 0) := (blk_cell BK155.out 5).trans rfl; have hcz15_6 : w13.cell? ⟨gb155, 6, none⟩ = some (.int .u32 0) := (blk_cell BK155.out 6).trans rfl; have hcz15_7 : w13.cell? ⟨gb155, 7, none⟩ = some (.string (⟨#[]⟩ : ByteArray)) := (blk_cell BK155.out 7).trans rfl; have hfz15_0 := blk_frozen BK155.out 0; have hfz15_1 := blk_frozen BK155.out 1; have hfz15_2 := blk_frozen BK155.out 2; have hfz15_3 := blk_frozen BK155.out 3; have hfz15_4 := blk_frozen BK155.out 4; have hfz15_5 := blk_frozen BK155.out 5; have hfz15_6 := blk_frozen BK155.out 6; have hfz15_7 := blk_frozen BK155.out 7) | ((with_reducible refine gate_callee (f := 17) rfl ?_); refine goesL_ (some 23) rfl rfl Try.func17 (by kernel_rfl) rfl #[.string a0] rfl (by (try simp only [List.map_toArray, List.map_cons, List.map_nil]); first | done | rfl | (simp only [List.length_drop, List.length_take]; rfl)) ?_; (with_reducible refine (ipv4_Hop.calls k a0 t156 t157 _ A4.out).mono ?_); rintro e w16 ⟨rfl, hb⟩; refine ⟨_, rfl, ?_⟩; have n0_ := Aside0.mk (blk_below (g := gb145) (o := .cells #[.int .i64 t136, .int .i64 t137, .int .i64 t138, .int .i64 t139, .int .i64 t140, .int .u32 t141, .int .u32 t142, .string t143] 24 (0, 0)) (by (with_reducible repeat (first | refine blk_drewN ?_ _ | refine blk_drew ?_ | refine blk_alloc ?_ _)); refine blk_far ?_ NB145_155.out _; (with_reducible repeat (first | refine blk_drewN ?_ _ | refine blk_drew ?_ | refine blk_alloc ?_ _)); refine blk_far ?_ NB145_155.out _; (with_reducible repeat (first | refine blk_drewN ?_ _ | refine blk_drew ?_ | refine blk_alloc ?_ _)); refine blk_far ?_ NB145_155.out _; (with_reducible repeat (first | refine blk_drewN ?_ _ | refine blk_drew ?_ | refine blk_alloc ?_ _)); refine blk_far ?_ NB145_155.out _; (with_reducible repeat (first | refine blk_drewN ?_ _ | refine blk_drew ?_ | refine blk_alloc ?_ _)); refine blk_far ?_ NB145_155.out _; (with_reducible repeat (first | refine blk_drewN ?_ _ | refine blk_drew ?_ | refine blk_alloc ?_ _)); refine blk_far ?_ NB145_155.out _; (with_reducible repeat (first | refine blk_drewN ?_ _ | refine blk_drew ?_ | refine blk_alloc ?_ _)); refine blk_far ?_ NB145_155.out _; (with_reducible repeat (first | refine blk_drewN ?_ _ | refine blk_drew ?_ | refine blk_alloc ?_ _)); refine blk_far ?_ NB145_155.out _; (with_reducible repeat (first | refine blk_drewN ?_ _ | refine blk_drew ?_ | refine blk_alloc ?_ _)); exact BK145.out) hb); have n1_ := Aside0.mk (blk_below (g := gb155) (o := .cells #[.int .i64 t146, .int .i64 t147, .int .i64 t148, .int .i64 t149, .int .i64 t150, .int .u32 t151, .int .u32 t152, .string t153] 24 (0, 0)) (by (with_reducible repeat (first | refine blk_drewN ?_ _ | refine blk_drew ?_ | refine blk_alloc ?_ _)); refine blk_put (cs := #[.int .i64 t146, .int .i64 t147, .int .i64 t148, .int .i64 t149, .int .i64 t150, .int .u32 t151, .int .u32 t152, .string (⟨#[]⟩ : ByteArray)]) ?_ 7 _ rfl; (with_reducible repeat (first | refine blk_drewN ?_ _ | refine blk_drew ?_ | refine blk_alloc ?_ _)); refine blk_put (cs := #[.int .i64 t146, .int .i64 t147, .int .i64 t148, .int .i64 t149, .int .i64 t150, .int .u32 t151, .int .u32 0, .string (⟨#[]⟩ : ByteArray)]) ?_ 6 _ rfl; (with_reducible repeat (first | refine blk_drewN ?_ _ | refine blk_drew ?_ | refine blk_alloc ?_ _)); refine blk_put (cs := #[.int .i64 t146, .int .i64 t147, .int .i64 t148, .int .i64 t149, .int .i64 t150, .int .u32 0, .int .u32 0, .string (⟨#[]⟩ : ByteArray)]) ?_ 5 _ rfl; (with_reducible repeat (first | refine blk_drewN ?_ _ | refine blk_drew ?_ | refine blk_alloc ?_ _)); refine blk_put (cs := #[.int .i64 t146, .int .i64 t147, .int .i64 t148, .int .i64 t149, .int .i64 0, .int .u32 0, .int .u32 0, .string (⟨#[]⟩ : ByteArray)]) ?_ 4 _ rfl; (with_reducible repeat (first | refine blk_drewN ?_ _ | refine blk_drew ?_ | refine blk_alloc ?_ _)); refine blk_put (cs := #[.int .i64 t146, .int .i64 t147, .int .i64 t148, .int .i64 0, .int .i64 0, .int .u32 0, .int .u32 0, .string (⟨#[]⟩ : ByteArray)]) ?_ 3 _ rfl; (with_reducible repeat (first | refine blk_drewN ?_ _ | refine blk_drew ?_ | refine blk_alloc ?_ _)); refine blk_put (cs := #[.int .i64 t146, .int .i64 t147, .int .i64 0, .int .i64 0, .int .i64 0, .int .u32 0, .int .u32 0, .string (⟨#[]⟩ : ByteArray)]) ?_ 2 _ rfl; (with_reducible repeat (first | refine blk_drewN ?_ _ | refine blk_drew ?_ | refine blk_alloc ?_ _)); refine blk_put (cs := #[.int .i64 t146, .int .i64 0, .int .i64 0, .int .i64 0, .int .i64 0, .int .u32 0, .int .u32 0, .string (⟨#[]⟩ : ByteArray)]) ?_ 1 _ rfl; (with_reducible repeat (first | refine blk_drewN ?_ _ | refine blk_drew ?_ | refine blk_alloc ?_ _)); refine blk_put (cs := #[.int .i64 0, .int .i64 0, .int .i64 0, .int .i64 0, .int .i64 0, .int .u32 0, .int .u32 0, .string (⟨#[]⟩ : ByteArray)]) ?_ 0 _ rfl; (with_reducible repeat (first | refine blk_drewN ?_ _ | refine blk_drew ?_ | refine blk_alloc ?_ _)); exact BK155.out) hb); have n2_ := Aside0.mk (below_step (by repeat (first | (with_reducible first | exact HB.out | apply below_alloc | apply pw_below_drewN | apply below_drew1 | refine below_set ?_ GE145.out | refine below_set ?_ GE155.out) | exact HB.out)) hb); clear BK145; clear BK155; clear HB; have BK145 := n0_; have BK155 := n1_; have HB := n2_; clear n0_ n1_ n2_; (try clear hb); (try clear hb2); (try clear hk); (try clear hi)) | ((with_reducible refine gate_callee (f := 18) rfl ?_); refine goesL_ (some 28) rfl rfl Try.func18 (by kernel_rfl) rfl #[.string a0] rfl (by (try simp only [List.map_toArray, List.map_cons, List.map_nil]); first | done | rfl | (simp only [List.length_drop, List.length_take]; rfl)) ?_; (with_reducible refine (vizardref02_Hop.calls k a0 t158 t159 _ A5.out).mono ?_); rintro e w17 ⟨rfl, hb⟩; refine ⟨_, rfl, ?_⟩; have n0_ := Aside0.mk (blk_below (g := gb145) (o := .cells #[.int .i64 t136, .int .i64 t137, .int .i64 t138, .int .i64 t139, .int .i64 t140, .int .u32 t141, .int .u32 t142, .string t143] 24 (0, 0)) (by (with_reducible repeat (first | refine blk_drewN ?_ _ | refine blk_drew ?_ | refine blk_alloc ?_ _)); exact BK145.out) hb); have n1_ := Aside0.mk (blk_below (g := gb155) (o := .cells #[.int .i64 t146, .int .i64 t147, .int .i64 t148, .int .i64 t149, .int .i64 t150, .int .u32 t151, .int .u32 t152, .string t153] 24 (0, 0)) (by (with_reducible repeat (first | refine blk_drewN ?_ _ | refine blk_drew ?_ | refine blk_alloc ?_ _)); exact BK155.out) hb); have n2_ := Aside0.mk (below_step (by repeat (first | (with_reducible first | exact HB.out | apply below_alloc | apply pw_below_drewN | apply below_drew1 | refine below_set ?_ GE145.out | refine below_set ?_ GE155.out) | exact HB.out)) hb); clear BK145; clear BK155; clear HB; have BK145 := n0_; have BK155 := n1_; have HB := n2_; clear n0_ n1_ n2_; (try clear hb); (try clear hb2); (try clear hk); (try clear hi); have hcz18_0 : w17.cell? ⟨gb145, 0, none⟩ = some (.int .i64 t136) := (blk_cell BK145.out 0).trans rfl; have hcz18_1 : w17.cell? ⟨gb145, 1, none⟩ = some (.int .i64 t137) := (blk_cell BK145.out 1).trans rfl; have hcz18_2 : w17.cell? ⟨gb145, 2, none⟩ = some (.int .i64 t138) := (blk_cell BK145.out 2).trans rfl; have hcz18_3 : w17.cell? ⟨gb145, 3, none⟩ = some (.int .i64 t139) := (blk_cell BK145.out 3).trans rfl; have hcz18_4 : w17.cell? ⟨gb145, 4, none⟩ = some (.int .i64 t140) := (blk_cell BK145.out 4).trans rfl; have hcz18_5 : w17.cell? ⟨gb145, 5, none⟩ = some (.int .u32 t141) := (blk_cell BK145.out 5).trans rfl; have hcz18_6 : w17.cell? ⟨gb145, 6, none⟩ = some (.int .u32 t142) := (blk_cell BK145.out 6).trans rfl; have hcz18_7 : w17.cell? ⟨gb145, 7, none⟩ = some (.string t143) := (blk_cell BK145.out 7).trans rfl; have hfz18_0 := blk_frozen BK145.out 0; have hfz18_1 := blk_frozen BK145.out 1; have hfz18_2 := blk_frozen BK145.out 2; have hfz18_3 := blk_frozen BK145.out 3; have hfz18_4 := blk_frozen BK145.out 4; have hfz18_5 := blk_frozen BK145.out 5; have hfz18_6 := blk_frozen BK145.out 6; have hfz18_7 := blk_frozen BK145.out 7; have hcz19_0 : w17.cell? ⟨gb155, 0, none⟩ = some (.int .i64 t146) := (blk_cell BK155.out 0).trans rfl; have hcz19_1 : w17.cell? ⟨gb155, 1, none⟩ = some (.int .i64 t147) := (blk_cell BK155.out 1).trans rfl; have hcz19_2 : w17.cell? ⟨gb155, 2, none⟩ = some (.int .i64 t148) := (blk_cell BK155.out 2).trans rfl; have hcz19_3 : w17.cell? ⟨gb155, 3, none⟩ = some (.int .i64 t149) := (blk_cell BK155.out 3).trans rfl; have hcz19_4 : w17.cell? ⟨gb155, 4, none⟩ = some (.int .i64 t150) := (blk_cell BK155.out 4).trans rfl; have hcz19_5 : w17.cell? ⟨gb155, 5, none⟩ = some (.int .u32 t151) := (blk_cell BK155.out 5).trans rfl; have hcz19_6 : w17.cell? ⟨gb155, 6, none⟩ = some (.int .u32 t152) := (blk_cell BK155.out 6).trans rfl; have hcz19_7 : w17.cell? ⟨gb155, 7, none⟩ = some (.string t153) := (blk_cell BK155.out 7).trans rfl; have hfz19_0 := blk_frozen BK155.out 0; have hfz19_1 := blk_frozen BK155.out 1; have hfz19_2 := blk_frozen BK155.out 2; have hfz19_3 := blk_frozen BK155.out 3; have hfz19_4 := blk_frozen BK155.out 4; have hfz19_5 := blk_frozen BK155.out 5; have hfz19_6 := blk_frozen BK155.out 6; have hfz19_7 := blk_frozen BK155.out 7))
        go_ret
        exact ⟨by first | rfl | (simp [errW_none, errW_some] <;> rfl) | (simp [*, errW_none, errW_some] <;> rfl), by repeat (first | (with_reducible first | exact HB.out | apply below_alloc | apply pw_below_drewN | apply below_drew1 | refine below_set ?_ GE145.out | refine below_set ?_ GE155.out) | exact HB.out)⟩
      · rw [if_neg c8] at H
        have c8b0 : (t156.toList == t158.toList) = false := beq_eq_false_iff_ne.mpr c8
        have c8b1 : (t156.toList != t158.toList) = true := bne_iff_ne.mpr c8
        obtain rfl := Option.some.inj H
        go_enter Try.func8, Try.ntmps8
        go_wp2_with (first | ((with_reducible refine gate_callee (f := 15) rfl ?_); refine goesL_ (some 13) rfl rfl Try.func15 (by kernel_rfl) rfl #[.string a0] rfl (by (try simp only [List.map_toArray, List.map_cons, List.map_nil]); first | done | rfl | (simp only [List.length_drop, List.length_take]; rfl)) ?_; (with_reducible refine (ipv4_Parse.calls k a0 t136 t137 t138 t139 t140 t141 t142 t143 t144 _ A2.out).mono ?_); rintro e w20 ⟨rfl, hb⟩; refine ⟨_, rfl, ?_⟩; have n0_ := Aside0.mk (below_step (by repeat (first | (with_reducible first | exact HB.out | apply below_alloc | apply pw_below_drewN | apply below_drew1) | exact HB.out)) hb); clear HB; have HB := n0_; clear n0_; (try clear hb); (try clear hb2); (try clear hk); (try clear hi)) | ((with_reducible refine gate_dst (N := 3) rfl ?_); refine box_event ?hg (N := 3) ?hd (cs := #[.int .i64 0, .int .i64 0, .int .i64 0, .int .i64 0, .int .i64 0, .int .u32 0, .int .u32 0, .string (⟨#[]⟩ : ByteArray)]) (t := 24) ?hr ?_; (case hd => rfl); (case hg => rfl); (case hr => first | (go_simp; done) | (go_simp; rfl)); intro gb145 hg w21 hbox hb; have n0_ := Aside0.mk (below_step (by repeat (first | (with_reducible first | exact HB.out | apply below_alloc | apply pw_below_drewN | apply below_drew1) | exact HB.out)) hb); have n1_ := Aside0.mk (hbox); have n2_ := Aside0.mk ((by rw [hg]; exact (below_size (by repeat (first | (with_reducible first | exact HB.out | apply below_alloc | apply pw_below_drewN | apply below_drew1) | exact HB.out))) : w.heap.size ≤ gb145)); have n3_ := Aside0.mk ((by rw [hg]; exact (below_size (by repeat (first | (with_reducible first | exact HB.out | apply below_alloc | apply pw_below_drewN | apply below_drew1) | exact HB.out))) : w.heap.size ≤ gb145)); clear HB; have HB := n0_; have BK145 := n1_; have GW145 := n2_; have GE145 := n3_; clear n0_ n1_ n2_ n3_; clear hb hbox hg; have hcz22_0 : w21.cell? ⟨gb145, 0, none⟩ = some (.int .i64 0) := (blk_cell BK145.out 0).trans rfl; have hcz22_1 : w21.cell? ⟨gb145, 1, none⟩ = some (.int .i64 0) := (blk_cell BK145.out 1).trans rfl; have hcz22_2 : w21.cell? ⟨gb145, 2, none⟩ = some (.int .i64 0) := (blk_cell BK145.out 2).trans rfl; have hcz22_3 : w21.cell? ⟨gb145, 3, none⟩ = some (.int .i64 0) := (blk_cell BK145.out 3).trans rfl; have hcz22_4 : w21.cell? ⟨gb145, 4, none⟩ = some (.int .i64 0) := (blk_cell BK145.out 4).trans rfl; have hcz22_5 : w21.cell? ⟨gb145, 5, none⟩ = some (.int .u32 0) := (blk_cell BK145.out 5).trans rfl; have hcz22_6 : w21.cell? ⟨gb145, 6, none⟩ = some (.int .u32 0) := (blk_cell BK145.out 6).trans rfl; have hcz22_7 : w21.cell? ⟨gb145, 7, none⟩ = some (.string (⟨#[]⟩ : ByteArray)) := (blk_cell BK145.out 7).trans rfl; have hfz22_0 := blk_frozen BK145.out 0; have hfz22_1 := blk_frozen BK145.out 1; have hfz22_2 := blk_frozen BK145.out 2; have hfz22_3 := blk_frozen BK145.out 3; have hfz22_4 := blk_frozen BK145.out 4; have hfz22_5 := blk_frozen BK145.out 5; have hfz22_6 := blk_frozen BK145.out 6; have hfz22_7 := blk_frozen BK145.out 7) | ((with_reducible refine gate_callee (f := 16) rfl ?_); refine goesL_ (some 18) rfl rfl Try.func16 (by kernel_rfl) rfl #[.string a0] rfl (by (try simp only [List.map_toArray, List.map_cons, List.map_nil]); first | done | rfl | (simp only [List.length_drop, List.length_take]; rfl)) ?_; (with_reducible refine (vizardref02_Parse.calls k a0 t146 t147 t148 t149 t150 t151 t152 t153 t154 _ A3.out).mono ?_); rintro e w23 ⟨rfl, hb⟩; refine ⟨_, rfl, ?_⟩; have n0_ := Aside0.mk (blk_below (g := gb145) (o := .cells #[.int .i64 t136, .int .i64 t137, .int .i64 t138, .int .i64 t139, .int .i64 t140, .int .u32 t141, .int .u32 t142, .string t143] 24 (0, 0)) (by (with_reducible repeat (first | refine blk_drewN ?_ _ | refine blk_drew ?_ | refine blk_alloc ?_ _)); refine blk_put (cs := #[.int .i64 t136, .int .i64 t137, .int .i64 t138, .int .i64 t139, .int .i64 t140, .int .u32 t141, .int .u32 t142, .string (⟨#[]⟩ : ByteArray)]) ?_ 7 _ rfl; (with_reducible repeat (first | refine blk_drewN ?_ _ | refine blk_drew ?_ | refine blk_alloc ?_ _)); refine blk_put (cs := #[.int .i64 t136, .int .i64 t137, .int .i64 t138, .int .i64 t139, .int .i64 t140, .int .u32 t141, .int .u32 0, .string (⟨#[]⟩ : ByteArray)]) ?_ 6 _ rfl; (with_reducible repeat (first | refine blk_drewN ?_ _ | refine blk_drew ?_ | refine blk_alloc ?_ _)); refine blk_put (cs := #[.int .i64 t136, .int .i64 t137, .int .i64 t138, .int .i64 t139, .int .i64 t140, .int .u32 0, .int .u32 0, .string (⟨#[]⟩ : ByteArray)]) ?_ 5 _ rfl; (with_reducible repeat (first | refine blk_drewN ?_ _ | refine blk_drew ?_ | refine blk_alloc ?_ _)); refine blk_put (cs := #[.int .i64 t136, .int .i64 t137, .int .i64 t138, .int .i64 t139, .int .i64 0, .int .u32 0, .int .u32 0, .string (⟨#[]⟩ : ByteArray)]) ?_ 4 _ rfl; (with_reducible repeat (first | refine blk_drewN ?_ _ | refine blk_drew ?_ | refine blk_alloc ?_ _)); refine blk_put (cs := #[.int .i64 t136, .int .i64 t137, .int .i64 t138, .int .i64 0, .int .i64 0, .int .u32 0, .int .u32 0, .string (⟨#[]⟩ : ByteArray)]) ?_ 3 _ rfl; (with_reducible repeat (first | refine blk_drewN ?_ _ | refine blk_drew ?_ | refine blk_alloc ?_ _)); refine blk_put (cs := #[.int .i64 t136, .int .i64 t137, .int .i64 0, .int .i64 0, .int .i64 0, .int .u32 0, .int .u32 0, .string (⟨#[]⟩ : ByteArray)]) ?_ 2 _ rfl; (with_reducible repeat (first | refine blk_drewN ?_ _ | refine blk_drew ?_ | refine blk_alloc ?_ _)); refine blk_put (cs := #[.int .i64 t136, .int .i64 0, .int .i64 0, .int .i64 0, .int .i64 0, .int .u32 0, .int .u32 0, .string (⟨#[]⟩ : ByteArray)]) ?_ 1 _ rfl; (with_reducible repeat (first | refine blk_drewN ?_ _ | refine blk_drew ?_ | refine blk_alloc ?_ _)); refine blk_put (cs := #[.int .i64 0, .int .i64 0, .int .i64 0, .int .i64 0, .int .i64 0, .int .u32 0, .int .u32 0, .string (⟨#[]⟩ : ByteArray)]) ?_ 0 _ rfl; (with_reducible repeat (first | refine blk_drewN ?_ _ | refine blk_drew ?_ | refine blk_alloc ?_ _)); exact BK145.out) hb); have n1_ := Aside0.mk (below_step (by repeat (first | (with_reducible first | exact HB.out | apply below_alloc | apply pw_below_drewN | apply below_drew1 | refine below_set ?_ GE145.out) | exact HB.out)) hb); clear BK145; clear HB; have BK145 := n0_; have HB := n1_; clear n0_ n1_; (try clear hb); (try clear hb2); (try clear hk); (try clear hi)) | ((with_reducible refine gate_dst (N := 5) rfl ?_); refine box_event ?hg (N := 5) ?hd (cs := #[.int .i64 0, .int .i64 0, .int .i64 0, .int .i64 0, .int .i64 0, .int .u32 0, .int .u32 0, .string (⟨#[]⟩ : ByteArray)]) (t := 24) ?hr ?_; (case hd => rfl); (case hg => rfl); (case hr => first | (go_simp; done) | (go_simp; rfl)); intro gb155 hg w24 hbox hb; have n0_ := Aside0.mk (blk_below (g := gb145) (o := .cells #[.int .i64 t136, .int .i64 t137, .int .i64 t138, .int .i64 t139, .int .i64 t140, .int .u32 t141, .int .u32 t142, .string t143] 24 (0, 0)) (by (with_reducible repeat (first | refine blk_drewN ?_ _ | refine blk_drew ?_ | refine blk_alloc ?_ _)); exact BK145.out) hb); have n1_ := Aside0.mk (below_step (by repeat (first | (with_reducible first | exact HB.out | apply below_alloc | apply pw_below_drewN | apply below_drew1 | refine below_set ?_ GE145.out) | exact HB.out)) hb); have n2_ := Aside0.mk (hbox); have n3_ := Aside0.mk ((by rw [hg]; exact (below_size (by repeat (first | (with_reducible first | exact HB.out | apply below_alloc | apply pw_below_drewN | apply below_drew1 | refine below_set ?_ GE145.out) | exact HB.out))) : w.heap.size ≤ gb155)); have n4_ := Aside0.mk ((by rw [hg]; exact (below_size (by repeat (first | (with_reducible first | exact HB.out | apply below_alloc | apply pw_below_drewN | apply below_drew1 | refine below_set ?_ GE145.out) | exact HB.out))) : w.heap.size ≤ gb155)); have n5_ := Aside0.mk ((by rw [hg]; exact Nat.ne_of_lt (blk_lt (g := gb145) (o := .cells #[.int .i64 t136, .int .i64 t137, .int .i64 t138, .int .i64 t139, .int .i64 t140, .int .u32 t141, .int .u32 t142, .string t143] 24 (0, 0)) (by (with_reducible repeat (first | refine blk_drewN ?_ _ | refine blk_drew ?_ | refine blk_alloc ?_ _)); exact BK145.out)) : gb145 ≠ gb155)); have n6_ := Aside0.mk ((by rw [hg]; exact Nat.ne_of_gt (blk_lt (g := gb145) (o := .cells #[.int .i64 t136, .int .i64 t137, .int .i64 t138, .int .i64 t139, .int .i64 t140, .int .u32 t141, .int .u32 t142, .string t143] 24 (0, 0)) (by (with_reducible repeat (first | refine blk_drewN ?_ _ | refine blk_drew ?_ | refine blk_alloc ?_ _)); exact BK145.out)) : gb155 ≠ gb145)); clear BK145; clear HB; have BK145 := n0_; have HB := n1_; have BK155 := n2_; have GW155 := n3_; have GE155 := n4_; have NB145_155 := n5_; have NB155_145 := n6_; clear n0_ n1_ n2_ n3_ n4_ n5_ n6_; clear hb hbox hg; have hnb25 := NB155_145.out; have hnc25 := NB145_155.out; have hcz26_0 : w24.cell? ⟨gb155, 0, none⟩ = some (.int .i64 0) := (blk_cell BK155.out 0).trans rfl; have hcz26_1 : w24.cell? ⟨gb155, 1, none⟩ = some (.int .i64 0) := (blk_cell BK155.out 1).trans rfl; have hcz26_2 : w24.cell? ⟨gb155, 2, none⟩ = some (.int .i64 0) := (blk_cell BK155.out 2).trans rfl; have hcz26_3 : w24.cell? ⟨gb155, 3, none⟩ = some (.int .i64 0) := (blk_cell BK155.out 3).trans rfl; have hcz26_4 : w24.cell? ⟨gb155, 4, none⟩ = some (.int .i64 0) := (blk_cell BK155.out 4).trans rfl; have hcz26_5 : w24.cell? ⟨gb155, 5, none⟩ = some (.int .u32 0) := (blk_cell BK155.out 5).trans rfl; have hcz26_6 : w24.cell? ⟨gb155, 6, none⟩ = some (.int .u32 0) := (blk_cell BK155.out 6).trans rfl; have hcz26_7 : w24.cell? ⟨gb155, 7, none⟩ = some (.string (⟨#[]⟩ : ByteArray)) := (blk_cell BK155.out 7).trans rfl; have hfz26_0 := blk_frozen BK155.out 0; have hfz26_1 := blk_frozen BK155.out 1; have hfz26_2 := blk_frozen BK155.out 2; have hfz26_3 := blk_frozen BK155.out 3; have hfz26_4 := blk_frozen BK155.out 4; have hfz26_5 := blk_frozen BK155.out 5; have hfz26_6 := blk_frozen BK155.out 6; have hfz26_7 := blk_frozen BK155.out 7) | ((with_reducible refine gate_callee (f := 17) rfl ?_); refine goesL_ (some 23) rfl rfl Try.func17 (by kernel_rfl) rfl #[.string a0] rfl (by (try simp only [List.map_toArray, List.map_cons, List.map_nil]); first | done | rfl | (simp only [List.length_drop, List.length_take]; rfl)) ?_; (with_reducible refine (ipv4_Hop.calls k a0 t156 t157 _ A4.out).mono ?_); rintro e w27 ⟨rfl, hb⟩; refine ⟨_, rfl, ?_⟩; have n0_ := Aside0.mk (blk_below (g := gb145) (o := .cells #[.int .i64 t136, .int .i64 t137, .int .i64 t138, .int .i64 t139, .int .i64 t140, .int .u32 t141, .int .u32 t142, .string t143] 24 (0, 0)) (by (with_reducible repeat (first | refine blk_drewN ?_ _ | refine blk_drew ?_ | refine blk_alloc ?_ _)); refine blk_far ?_ NB145_155.out _; (with_reducible repeat (first | refine blk_drewN ?_ _ | refine blk_drew ?_ | refine blk_alloc ?_ _)); refine blk_far ?_ NB145_155.out _; (with_reducible repeat (first | refine blk_drewN ?_ _ | refine blk_drew ?_ | refine blk_alloc ?_ _)); refine blk_far ?_ NB145_155.out _; (with_reducible repeat (first | refine blk_drewN ?_ _ | refine blk_drew ?_ | refine blk_alloc ?_ _)); refine blk_far ?_ NB145_155.out _; (with_reducible repeat (first | refine blk_drewN ?_ _ | refine blk_drew ?_ | refine blk_alloc ?_ _)); refine blk_far ?_ NB145_155.out _; (with_reducible repeat (first | refine blk_drewN ?_ _ | refine blk_drew ?_ | refine blk_alloc ?_ _)); refine blk_far ?_ NB145_155.out _; (with_reducible repeat (first | refine blk_drewN ?_ _ | refine blk_drew ?_ | refine blk_alloc ?_ _)); refine blk_far ?_ NB145_155.out _; (with_reducible repeat (first | refine blk_drewN ?_ _ | refine blk_drew ?_ | refine blk_alloc ?_ _)); refine blk_far ?_ NB145_155.out _; (with_reducible repeat (first | refine blk_drewN ?_ _ | refine blk_drew ?_ | refine blk_alloc ?_ _)); exact BK145.out) hb); have n1_ := Aside0.mk (blk_below (g := gb155) (o := .cells #[.int .i64 t146, .int .i64 t147, .int .i64 t148, .int .i64 t149, .int .i64 t150, .int .u32 t151, .int .u32 t152, .string t153] 24 (0, 0)) (by (with_reducible repeat (first | refine blk_drewN ?_ _ | refine blk_drew ?_ | refine blk_alloc ?_ _)); refine blk_put (cs := #[.int .i64 t146, .int .i64 t147, .int .i64 t148, .int .i64 t149, .int .i64 t150, .int .u32 t151, .int .u32 t152, .string (⟨#[]⟩ : ByteArray)]) ?_ 7 _ rfl; (with_reducible repeat (first | refine blk_drewN ?_ _ | refine blk_drew ?_ | refine blk_alloc ?_ _)); refine blk_put (cs := #[.int .i64 t146, .int .i64 t147, .int .i64 t148, .int .i64 t149, .int .i64 t150, .int .u32 t151, .int .u32 0, .string (⟨#[]⟩ : ByteArray)]) ?_ 6 _ rfl; (with_reducible repeat (first | refine blk_drewN ?_ _ | refine blk_drew ?_ | refine blk_alloc ?_ _)); refine blk_put (cs := #[.int .i64 t146, .int .i64 t147, .int .i64 t148, .int .i64 t149, .int .i64 t150, .int .u32 0, .int .u32 0, .string (⟨#[]⟩ : ByteArray)]) ?_ 5 _ rfl; (with_reducible repeat (first | refine blk_drewN ?_ _ | refine blk_drew ?_ | refine blk_alloc ?_ _)); refine blk_put (cs := #[.int .i64 t146, .int .i64 t147, .int .i64 t148, .int .i64 t149, .int .i64 0, .int .u32 0, .int .u32 0, .string (⟨#[]⟩ : ByteArray)]) ?_ 4 _ rfl; (with_reducible repeat (first | refine blk_drewN ?_ _ | refine blk_drew ?_ | refine blk_alloc ?_ _)); refine blk_put (cs := #[.int .i64 t146, .int .i64 t147, .int .i64 t148, .int .i64 0, .int .i64 0, .int .u32 0, .int .u32 0, .string (⟨#[]⟩ : ByteArray)]) ?_ 3 _ rfl; (with_reducible repeat (first | refine blk_drewN ?_ _ | refine blk_drew ?_ | refine blk_alloc ?_ _)); refine blk_put (cs := #[.int .i64 t146, .int .i64 t147, .int .i64 0, .int .i64 0, .int .i64 0, .int .u32 0, .int .u32 0, .string (⟨#[]⟩ : ByteArray)]) ?_ 2 _ rfl; (with_reducible repeat (first | refine blk_drewN ?_ _ | refine blk_drew ?_ | refine blk_alloc ?_ _)); refine blk_put (cs := #[.int .i64 t146, .int .i64 0, .int .i64 0, .int .i64 0, .int .i64 0, .int .u32 0, .int .u32 0, .string (⟨#[]⟩ : ByteArray)]) ?_ 1 _ rfl; (with_reducible repeat (first | refine blk_drewN ?_ _ | refine blk_drew ?_ | refine blk_alloc ?_ _)); refine blk_put (cs := #[.int .i64 0, .int .i64 0, .int .i64 0, .int .i64 0, .int .i64 0, .int .u32 0, .int .u32 0, .string (⟨#[]⟩ : ByteArray)]) ?_ 0 _ rfl; (with_reducible repeat (first | refine blk_drewN ?_ _ | refine blk_drew ?_ | refine blk_alloc ?_ _)); exact BK155.out) hb); have n2_ := Aside0.mk (below_step (by repeat (first | (with_reducible first | exact HB.out | apply below_alloc | apply pw_below_drewN | apply below_drew1 | refine below_set ?_ GE145.out | refine below_set ?_ GE155.out) | exact HB.out)) hb); clear BK145; clear BK155; clear HB; have BK145 := n0_; have BK155 := n1_; have HB := n2_; clear n0_ n1_ n2_; (try clear hb); (try clear hb2); (try clear hk); (try clear hi)) | ((with_reducible refine gate_callee (f := 18) rfl ?_); refine goesL_ (some 28) rfl rfl Try.func18 (by kernel_rfl) rfl #[.string a0] rfl (by (try simp only [List.map_toArray, List.map_cons, List.map_nil]); first | done | rfl | (simp only [List.length_drop, List.length_take]; rfl)) ?_; (with_reducible refine (vizardref02_Hop.calls k a0 t158 t159 _ A5.out).mono ?_); rintro e w28 ⟨rfl, hb⟩; refine ⟨_, rfl, ?_⟩; have n0_ := Aside0.mk (blk_below (g := gb145) (o := .cells #[.int .i64 t136, .int .i64 t137, .int .i64 t138, .int .i64 t139, .int .i64 t140, .int .u32 t141, .int .u32 t142, .string t143] 24 (0, 0)) (by (with_reducible repeat (first | refine blk_drewN ?_ _ | refine blk_drew ?_ | refine blk_alloc ?_ _)); exact BK145.out) hb); have n1_ := Aside0.mk (blk_below (g := gb155) (o := .cells #[.int .i64 t146, .int .i64 t147, .int .i64 t148, .int .i64 t149, .int .i64 t150, .int .u32 t151, .int .u32 t152, .string t153] 24 (0, 0)) (by (with_reducible repeat (first | refine blk_drewN ?_ _ | refine blk_drew ?_ | refine blk_alloc ?_ _)); exact BK155.out) hb); have n2_ := Aside0.mk (below_step (by repeat (first | (with_reducible first | exact HB.out | apply below_alloc | apply pw_below_drewN | apply below_drew1 | refine below_set ?_ GE145.out | refine below_set ?_ GE155.out) | exact HB.out)) hb); clear BK145; clear BK155; clear HB; have BK145 := n0_; have BK155 := n1_; have HB := n2_; clear n0_ n1_ n2_; (try clear hb); (try clear hb2); (try clear hk); (try clear hi); have hcz29_0 : w28.cell? ⟨gb145, 0, none⟩ = some (.int .i64 t136) := (blk_cell BK145.out 0).trans rfl; have hcz29_1 : w28.cell? ⟨gb145, 1, none⟩ = some (.int .i64 t137) := (blk_cell BK145.out 1).trans rfl; have hcz29_2 : w28.cell? ⟨gb145, 2, none⟩ = some (.int .i64 t138) := (blk_cell BK145.out 2).trans rfl; have hcz29_3 : w28.cell? ⟨gb145, 3, none⟩ = some (.int .i64 t139) := (blk_cell BK145.out 3).trans rfl; have hcz29_4 : w28.cell? ⟨gb145, 4, none⟩ = some (.int .i64 t140) := (blk_cell BK145.out 4).trans rfl; have hcz29_5 : w28.cell? ⟨gb145, 5, none⟩ = some (.int .u32 t141) := (blk_cell BK145.out 5).trans rfl; have hcz29_6 : w28.cell? ⟨gb145, 6, none⟩ = some (.int .u32 t142) := (blk_cell BK145.out 6).trans rfl; have hcz29_7 : w28.cell? ⟨gb145, 7, none⟩ = some (.string t143) := (blk_cell BK145.out 7).trans rfl; have hfz29_0 := blk_frozen BK145.out 0; have hfz29_1 := blk_frozen BK145.out 1; have hfz29_2 := blk_frozen BK145.out 2; have hfz29_3 := blk_frozen BK145.out 3; have hfz29_4 := blk_frozen BK145.out 4; have hfz29_5 := blk_frozen BK145.out 5; have hfz29_6 := blk_frozen BK145.out 6; have hfz29_7 := blk_frozen BK145.out 7; have hcz30_0 : w28.cell? ⟨gb155, 0, none⟩ = some (.int .i64 t146) := (blk_cell BK155.out 0).trans rfl; have hcz30_1 : w28.cell? ⟨gb155, 1, none⟩ = some (.int .i64 t147) := (blk_cell BK155.out 1).trans rfl; have hcz30_2 : w28.cell? ⟨gb155, 2, none⟩ = some (.int .i64 t148) := (blk_cell BK155.out 2).trans rfl; have hcz30_3 : w28.cell? ⟨gb155, 3, none⟩ = some (.int .i64 t149) := (blk_cell BK155.out 3).trans rfl; have hcz30_4 : w28.cell? ⟨gb155, 4, none⟩ = some (.int .i64 t150) := (blk_cell BK155.out 4).trans rfl; have hcz30_5 : w28.cell? ⟨gb155, 5, none⟩ = some (.int .u32 t151) := (blk_cell BK155.out 5).trans rfl; have hcz30_6 : w28.cell? ⟨gb155, 6, none⟩ = some (.int .u32 t152) := (blk_cell BK155.out 6).trans rfl; have hcz30_7 : w28.cell? ⟨gb155, 7, none⟩ = some (.string t153) := (blk_cell BK155.out 7).trans rfl; have hfz30_0 := blk_frozen BK155.out 0; have hfz30_1 := blk_frozen BK155.out 1; have hfz30_2 := blk_frozen BK155.out 2; have hfz30_3 := blk_frozen BK155.out 3; have hfz30_4 := blk_frozen BK155.out 4; have hfz30_5 := blk_frozen BK155.out 5; have hfz30_6 := blk_frozen BK155.out 6; have hfz30_7 := blk_frozen BK155.out 7))
        go_ret
        exact ⟨by first | rfl | (simp [errW_none, errW_some] <;> rfl) | (simp [*, errW_none, errW_some] <;> rfl), by repeat (first | (with_reducible first | exact HB.out | apply below_alloc | apply pw_below_drewN | apply below_drew1 | refine below_set ?_ GE145.out | refine below_set ?_ GE155.out) | exact HB.out)⟩
    · rw [if_neg c7] at H
      have c7b0 : (t144 == t154) = false := beq_eq_false_iff_ne.mpr c7
      have c7b1 : (t144 != t154) = true := bne_iff_ne.mpr c7
      obtain rfl := Option.some.inj H
      go_enter Try.func8, Try.ntmps8
      go_wp2_with (first | ((with_reducible refine gate_callee (f := 15) rfl ?_); refine goesL_ (some 13) rfl rfl Try.func15 (by kernel_rfl) rfl #[.string a0] rfl (by (try simp only [List.map_toArray, List.map_cons, List.map_nil]); first | done | rfl | (simp only [List.length_drop, List.length_take]; rfl)) ?_; (with_reducible refine (ipv4_Parse.calls k a0 t136 t137 t138 t139 t140 t141 t142 t143 t144 _ A2.out).mono ?_); rintro e w31 ⟨rfl, hb⟩; refine ⟨_, rfl, ?_⟩; have n0_ := Aside0.mk (below_step (by repeat (first | (with_reducible first | exact HB.out | apply below_alloc | apply pw_below_drewN | apply below_drew1) | exact HB.out)) hb); clear HB; have HB := n0_; clear n0_; (try clear hb); (try clear hb2); (try clear hk); (try clear hi)) | ((with_reducible refine gate_dst (N := 3) rfl ?_); refine box_event ?hg (N := 3) ?hd (cs := #[.int .i64 0, .int .i64 0, .int .i64 0, .int .i64 0, .int .i64 0, .int .u32 0, .int .u32 0, .string (⟨#[]⟩ : ByteArray)]) (t := 24) ?hr ?_; (case hd => rfl); (case hg => rfl); (case hr => first | (go_simp; done) | (go_simp; rfl)); intro gb145 hg w32 hbox hb; have n0_ := Aside0.mk (below_step (by repeat (first | (with_reducible first | exact HB.out | apply below_alloc | apply pw_below_drewN | apply below_drew1) | exact HB.out)) hb); have n1_ := Aside0.mk (hbox); have n2_ := Aside0.mk ((by rw [hg]; exact (below_size (by repeat (first | (with_reducible first | exact HB.out | apply below_alloc | apply pw_below_drewN | apply below_drew1) | exact HB.out))) : w.heap.size ≤ gb145)); have n3_ := Aside0.mk ((by rw [hg]; exact (below_size (by repeat (first | (with_reducible first | exact HB.out | apply below_alloc | apply pw_below_drewN | apply below_drew1) | exact HB.out))) : w.heap.size ≤ gb145)); clear HB; have HB := n0_; have BK145 := n1_; have GW145 := n2_; have GE145 := n3_; clear n0_ n1_ n2_ n3_; clear hb hbox hg; have hcz33_0 : w32.cell? ⟨gb145, 0, none⟩ = some (.int .i64 0) := (blk_cell BK145.out 0).trans rfl; have hcz33_1 : w32.cell? ⟨gb145, 1, none⟩ = some (.int .i64 0) := (blk_cell BK145.out 1).trans rfl; have hcz33_2 : w32.cell? ⟨gb145, 2, none⟩ = some (.int .i64 0) := (blk_cell BK145.out 2).trans rfl; have hcz33_3 : w32.cell? ⟨gb145, 3, none⟩ = some (.int .i64 0) := (blk_cell BK145.out 3).trans rfl; have hcz33_4 : w32.cell? ⟨gb145, 4, none⟩ = some (.int .i64 0) := (blk_cell BK145.out 4).trans rfl; have hcz33_5 : w32.cell? ⟨gb145, 5, none⟩ = some (.int .u32 0) := (blk_cell BK145.out 5).trans rfl; have hcz33_6 : w32.cell? ⟨gb145, 6, none⟩ = some (.int .u32 0) := (blk_cell BK145.out 6).trans rfl; have hcz33_7 : w32.cell? ⟨gb145, 7, none⟩ = some (.string (⟨#[]⟩ : ByteArray)) := (blk_cell BK145.out 7).trans rfl; have hfz33_0 := blk_frozen BK145.out 0; have hfz33_1 := blk_frozen BK145.out 1; have hfz33_2 := blk_frozen BK145.out 2; have hfz33_3 := blk_frozen BK145.out 3; have hfz33_4 := blk_frozen BK145.out 4; have hfz33_5 := blk_frozen BK145.out 5; have hfz33_6 := blk_frozen BK145.out 6; have hfz33_7 := blk_frozen BK145.out 7) | ((with_reducible refine gate_callee (f := 16) rfl ?_); refine goesL_ (some 18) rfl rfl Try.func16 (by kernel_rfl) rfl #[.string a0] rfl (by (try simp only [List.map_toArray, List.map_cons, List.map_nil]); first | done | rfl | (simp only [List.length_drop, List.length_take]; rfl)) ?_; (with_reducible refine (vizardref02_Parse.calls k a0 t146 t147 t148 t149 t150 t151 t152 t153 t154 _ A3.out).mono ?_); rintro e w34 ⟨rfl, hb⟩; refine ⟨_, rfl, ?_⟩; have n0_ := Aside0.mk (blk_below (g := gb145) (o := .cells #[.int .i64 t136, .int .i64 t137, .int .i64 t138, .int .i64 t139, .int .i64 t140, .int .u32 t141, .int .u32 t142, .string t143] 24 (0, 0)) (by (with_reducible repeat (first | refine blk_drewN ?_ _ | refine blk_drew ?_ | refine blk_alloc ?_ _)); refine blk_put (cs := #[.int .i64 t136, .int .i64 t137, .int .i64 t138, .int .i64 t139, .int .i64 t140, .int .u32 t141, .int .u32 t142, .string (⟨#[]⟩ : ByteArray)]) ?_ 7 _ rfl; (with_reducible repeat (first | refine blk_drewN ?_ _ | refine blk_drew ?_ | refine blk_alloc ?_ _)); refine blk_put (cs := #[.int .i64 t136, .int .i64 t137, .int .i64 t138, .int .i64 t139, .int .i64 t140, .int .u32 t141, .int .u32 0, .string (⟨#[]⟩ : ByteArray)]) ?_ 6 _ rfl; (with_reducible repeat (first | refine blk_drewN ?_ _ | refine blk_drew ?_ | refine blk_alloc ?_ _)); refine blk_put (cs := #[.int .i64 t136, .int .i64 t137, .int .i64 t138, .int .i64 t139, .int .i64 t140, .int .u32 0, .int .u32 0, .string (⟨#[]⟩ : ByteArray)]) ?_ 5 _ rfl; (with_reducible repeat (first | refine blk_drewN ?_ _ | refine blk_drew ?_ | refine blk_alloc ?_ _)); refine blk_put (cs := #[.int .i64 t136, .int .i64 t137, .int .i64 t138, .int .i64 t139, .int .i64 0, .int .u32 0, .int .u32 0, .string (⟨#[]⟩ : ByteArray)]) ?_ 4 _ rfl; (with_reducible repeat (first | refine blk_drewN ?_ _ | refine blk_drew ?_ | refine blk_alloc ?_ _)); refine blk_put (cs := #[.int .i64 t136, .int .i64 t137, .int .i64 t138, .int .i64 0, .int .i64 0, .int .u32 0, .int .u32 0, .string (⟨#[]⟩ : ByteArray)]) ?_ 3 _ rfl; (with_reducible repeat (first | refine blk_drewN ?_ _ | refine blk_drew ?_ | refine blk_alloc ?_ _)); refine blk_put (cs := #[.int .i64 t136, .int .i64 t137, .int .i64 0, .int .i64 0, .int .i64 0, .int .u32 0, .int .u32 0, .string (⟨#[]⟩ : ByteArray)]) ?_ 2 _ rfl; (with_reducible repeat (first | refine blk_drewN ?_ _ | refine blk_drew ?_ | refine blk_alloc ?_ _)); refine blk_put (cs := #[.int .i64 t136, .int .i64 0, .int .i64 0, .int .i64 0, .int .i64 0, .int .u32 0, .int .u32 0, .string (⟨#[]⟩ : ByteArray)]) ?_ 1 _ rfl; (with_reducible repeat (first | refine blk_drewN ?_ _ | refine blk_drew ?_ | refine blk_alloc ?_ _)); refine blk_put (cs := #[.int .i64 0, .int .i64 0, .int .i64 0, .int .i64 0, .int .i64 0, .int .u32 0, .int .u32 0, .string (⟨#[]⟩ : ByteArray)]) ?_ 0 _ rfl; (with_reducible repeat (first | refine blk_drewN ?_ _ | refine blk_drew ?_ | refine blk_alloc ?_ _)); exact BK145.out) hb); have n1_ := Aside0.mk (below_step (by repeat (first | (with_reducible first | exact HB.out | apply below_alloc | apply pw_below_drewN | apply below_drew1 | refine below_set ?_ GE145.out) | exact HB.out)) hb); clear BK145; clear HB; have BK145 := n0_; have HB := n1_; clear n0_ n1_; (try clear hb); (try clear hb2); (try clear hk); (try clear hi)) | ((with_reducible refine gate_dst (N := 5) rfl ?_); refine box_event ?hg (N := 5) ?hd (cs := #[.int .i64 0, .int .i64 0, .int .i64 0, .int .i64 0, .int .i64 0, .int .u32 0, .int .u32 0, .string (⟨#[]⟩ : ByteArray)]) (t := 24) ?hr ?_; (case hd => rfl); (case hg => rfl); (case hr => first | (go_simp; done) | (go_simp; rfl)); intro gb155 hg w35 hbox hb; have n0_ := Aside0.mk (blk_below (g := gb145) (o := .cells #[.int .i64 t136, .int .i64 t137, .int .i64 t138, .int .i64 t139, .int .i64 t140, .int .u32 t141, .int .u32 t142, .string t143] 24 (0, 0)) (by (with_reducible repeat (first | refine blk_drewN ?_ _ | refine blk_drew ?_ | refine blk_alloc ?_ _)); exact BK145.out) hb); have n1_ := Aside0.mk (below_step (by repeat (first | (with_reducible first | exact HB.out | apply below_alloc | apply pw_below_drewN | apply below_drew1 | refine below_set ?_ GE145.out) | exact HB.out)) hb); have n2_ := Aside0.mk (hbox); have n3_ := Aside0.mk ((by rw [hg]; exact (below_size (by repeat (first | (with_reducible first | exact HB.out | apply below_alloc | apply pw_below_drewN | apply below_drew1 | refine below_set ?_ GE145.out) | exact HB.out))) : w.heap.size ≤ gb155)); have n4_ := Aside0.mk ((by rw [hg]; exact (below_size (by repeat (first | (with_reducible first | exact HB.out | apply below_alloc | apply pw_below_drewN | apply below_drew1 | refine below_set ?_ GE145.out) | exact HB.out))) : w.heap.size ≤ gb155)); have n5_ := Aside0.mk ((by rw [hg]; exact Nat.ne_of_lt (blk_lt (g := gb145) (o := .cells #[.int .i64 t136, .int .i64 t137, .int .i64 t138, .int .i64 t139, .int .i64 t140, .int .u32 t141, .int .u32 t142, .string t143] 24 (0, 0)) (by (with_reducible repeat (first | refine blk_drewN ?_ _ | refine blk_drew ?_ | refine blk_alloc ?_ _)); exact BK145.out)) : gb145 ≠ gb155)); have n6_ := Aside0.mk ((by rw [hg]; exact Nat.ne_of_gt (blk_lt (g := gb145) (o := .cells #[.int .i64 t136, .int .i64 t137, .int .i64 t138, .int .i64 t139, .int .i64 t140, .int .u32 t141, .int .u32 t142, .string t143] 24 (0, 0)) (by (with_reducible repeat (first | refine blk_drewN ?_ _ | refine blk_drew ?_ | refine blk_alloc ?_ _)); exact BK145.out)) : gb155 ≠ gb145)); clear BK145; clear HB; have BK145 := n0_; have HB := n1_; have BK155 := n2_; have GW155 := n3_; have GE155 := n4_; have NB145_155 := n5_; have NB155_145 := n6_; clear n0_ n1_ n2_ n3_ n4_ n5_ n6_; clear hb hbox hg; have hnb36 := NB155_145.out; have hnc36 := NB145_155.out; have hcz37_0 : w35.cell? ⟨gb155, 0, none⟩ = some (.int .i64 0) := (blk_cell BK155.out 0).trans rfl; have hcz37_1 : w35.cell? ⟨gb155, 1, none⟩ = some (.int .i64 0) := (blk_cell BK155.out 1).trans rfl; have hcz37_2 : w35.cell? ⟨gb155, 2, none⟩ = some (.int .i64 0) := (blk_cell BK155.out 2).trans rfl; have hcz37_3 : w35.cell? ⟨gb155, 3, none⟩ = some (.int .i64 0) := (blk_cell BK155.out 3).trans rfl; have hcz37_4 : w35.cell? ⟨gb155, 4, none⟩ = some (.int .i64 0) := (blk_cell BK155.out 4).trans rfl; have hcz37_5 : w35.cell? ⟨gb155, 5, none⟩ = some (.int .u32 0) := (blk_cell BK155.out 5).trans rfl; have hcz37_6 : w35.cell? ⟨gb155, 6, none⟩ = some (.int .u32 0) := (blk_cell BK155.out 6).trans rfl; have hcz37_7 : w35.cell? ⟨gb155, 7, none⟩ = some (.string (⟨#[]⟩ : ByteArray)) := (blk_cell BK155.out 7).trans rfl; have hfz37_0 := blk_frozen BK155.out 0; have hfz37_1 := blk_frozen BK155.out 1; have hfz37_2 := blk_frozen BK155.out 2; have hfz37_3 := blk_frozen BK155.out 3; have hfz37_4 := blk_frozen BK155.out 4; have hfz37_5 := blk_frozen BK155.out 5; have hfz37_6 := blk_frozen BK155.out 6; have hfz37_7 := blk_frozen BK155.out 7) | ((with_reducible refine gate_callee (f := 17) rfl ?_); refine goesL_ (some 23) rfl rfl Try.func17 (by kernel_rfl) rfl #[.string a0] rfl (by (try simp only [List.map_toArray, List.map_cons, List.map_nil]); first | done | rfl | (simp only [List.length_drop, List.length_take]; rfl)) ?_; (with_reducible refine (ipv4_Hop.calls k a0 t156 t157 _ A4.out).mono ?_); rintro e w38 ⟨rfl, hb⟩; refine ⟨_, rfl, ?_⟩; have n0_ := Aside0.mk (blk_below (g := gb145) (o := .cells #[.int .i64 t136, .int .i64 t137, .int .i64 t138, .int .i64 t139, .int .i64 t140, .int .u32 t141, .int .u32 t142, .string t143] 24 (0, 0)) (by (with_reducible repeat (first | refine blk_drewN ?_ _ | refine blk_drew ?_ | refine blk_alloc ?_ _)); refine blk_far ?_ NB145_155.out _; (with_reducible repeat (first | refine blk_drewN ?_ _ | refine blk_drew ?_ | refine blk_alloc ?_ _)); refine blk_far ?_ NB145_155.out _; (with_reducible repeat (first | refine blk_drewN ?_ _ | refine blk_drew ?_ | refine blk_alloc ?_ _)); refine blk_far ?_ NB145_155.out _; (with_reducible repeat (first | refine blk_drewN ?_ _ | refine blk_drew ?_ | refine blk_alloc ?_ _)); refine blk_far ?_ NB145_155.out _; (with_reducible repeat (first | refine blk_drewN ?_ _ | refine blk_drew ?_ | refine blk_alloc ?_ _)); refine blk_far ?_ NB145_155.out _; (with_reducible repeat (first | refine blk_drewN ?_ _ | refine blk_drew ?_ | refine blk_alloc ?_ _)); refine blk_far ?_ NB145_155.out _; (with_reducible repeat (first | refine blk_drewN ?_ _ | refine blk_drew ?_ | refine blk_alloc ?_ _)); refine blk_far ?_ NB145_155.out _; (with_reducible repeat (first | refine blk_drewN ?_ _ | refine blk_drew ?_ | refine blk_alloc ?_ _)); refine blk_far ?_ NB145_155.out _; (with_reducible repeat (first | refine blk_drewN ?_ _ | refine blk_drew ?_ | refine blk_alloc ?_ _)); exact BK145.out) hb); have n1_ := Aside0.mk (blk_below (g := gb155) (o := .cells #[.int .i64 t146, .int .i64 t147, .int .i64 t148, .int .i64 t149, .int .i64 t150, .int .u32 t151, .int .u32 t152, .string t153] 24 (0, 0)) (by (with_reducible repeat (first | refine blk_drewN ?_ _ | refine blk_drew ?_ | refine blk_alloc ?_ _)); refine blk_put (cs := #[.int .i64 t146, .int .i64 t147, .int .i64 t148, .int .i64 t149, .int .i64 t150, .int .u32 t151, .int .u32 t152, .string (⟨#[]⟩ : ByteArray)]) ?_ 7 _ rfl; (with_reducible repeat (first | refine blk_drewN ?_ _ | refine blk_drew ?_ | refine blk_alloc ?_ _)); refine blk_put (cs := #[.int .i64 t146, .int .i64 t147, .int .i64 t148, .int .i64 t149, .int .i64 t150, .int .u32 t151, .int .u32 0, .string (⟨#[]⟩ : ByteArray)]) ?_ 6 _ rfl; (with_reducible repeat (first | refine blk_drewN ?_ _ | refine blk_drew ?_ | refine blk_alloc ?_ _)); refine blk_put (cs := #[.int .i64 t146, .int .i64 t147, .int .i64 t148, .int .i64 t149, .int .i64 t150, .int .u32 0, .int .u32 0, .string (⟨#[]⟩ : ByteArray)]) ?_ 5 _ rfl; (with_reducible repeat (first | refine blk_drewN ?_ _ | refine blk_drew ?_ | refine blk_alloc ?_ _)); refine blk_put (cs := #[.int .i64 t146, .int .i64 t147, .int .i64 t148, .int .i64 t149, .int .i64 0, .int .u32 0, .int .u32 0, .string (⟨#[]⟩ : ByteArray)]) ?_ 4 _ rfl; (with_reducible repeat (first | refine blk_drewN ?_ _ | refine blk_drew ?_ | refine blk_alloc ?_ _)); refine blk_put (cs := #[.int .i64 t146, .int .i64 t147, .int .i64 t148, .int .i64 0, .int .i64 0, .int .u32 0, .int .u32 0, .string (⟨#[]⟩ : ByteArray)]) ?_ 3 _ rfl; (with_reducible repeat (first | refine blk_drewN ?_ _ | refine blk_drew ?_ | refine blk_alloc ?_ _)); refine blk_put (cs := #[.int .i64 t146, .int .i64 t147, .int .i64 0, .int .i64 0, .int .i64 0, .int .u32 0, .int .u32 0, .string (⟨#[]⟩ : ByteArray)]) ?_ 2 _ rfl; (with_reducible repeat (first | refine blk_drewN ?_ _ | refine blk_drew ?_ | refine blk_alloc ?_ _)); refine blk_put (cs := #[.int .i64 t146, .int .i64 0, .int .i64 0, .int .i64 0, .int .i64 0, .int .u32 0, .int .u32 0, .string (⟨#[]⟩ : ByteArray)]) ?_ 1 _ rfl; (with_reducible repeat (first | refine blk_drewN ?_ _ | refine blk_drew ?_ | refine blk_alloc ?_ _)); refine blk_put (cs := #[.int .i64 0, .int .i64 0, .int .i64 0, .int .i64 0, .int .i64 0, .int .u32 0, .int .u32 0, .string (⟨#[]⟩ : ByteArray)]) ?_ 0 _ rfl; (with_reducible repeat (first | refine blk_drewN ?_ _ | refine blk_drew ?_ | refine blk_alloc ?_ _)); exact BK155.out) hb); have n2_ := Aside0.mk (below_step (by repeat (first | (with_reducible first | exact HB.out | apply below_alloc | apply pw_below_drewN | apply below_drew1 | refine below_set ?_ GE145.out | refine below_set ?_ GE155.out) | exact HB.out)) hb); clear BK145; clear BK155; clear HB; have BK145 := n0_; have BK155 := n1_; have HB := n2_; clear n0_ n1_ n2_; (try clear hb); (try clear hb2); (try clear hk); (try clear hi)) | ((with_reducible refine gate_callee (f := 18) rfl ?_); refine goesL_ (some 28) rfl rfl Try.func18 (by kernel_rfl) rfl #[.string a0] rfl (by (try simp only [List.map_toArray, List.map_cons, List.map_nil]); first | done | rfl | (simp only [List.length_drop, List.length_take]; rfl)) ?_; (with_reducible refine (vizardref02_Hop.calls k a0 t158 t159 _ A5.out).mono ?_); rintro e w39 ⟨rfl, hb⟩; refine ⟨_, rfl, ?_⟩; have n0_ := Aside0.mk (blk_below (g := gb145) (o := .cells #[.int .i64 t136, .int .i64 t137, .int .i64 t138, .int .i64 t139, .int .i64 t140, .int .u32 t141, .int .u32 t142, .string t143] 24 (0, 0)) (by (with_reducible repeat (first | refine blk_drewN ?_ _ | refine blk_drew ?_ | refine blk_alloc ?_ _)); exact BK145.out) hb); have n1_ := Aside0.mk (blk_below (g := gb155) (o := .cells #[.int .i64 t146, .int .i64 t147, .int .i64 t148, .int .i64 t149, .int .i64 t150, .int .u32 t151, .int .u32 t152, .string t153] 24 (0, 0)) (by (with_reducible repeat (first | refine blk_drewN ?_ _ | refine blk_drew ?_ | refine blk_alloc ?_ _)); exact BK155.out) hb); have n2_ := Aside0.mk (below_step (by repeat (first | (with_reducible first | exact HB.out | apply below_alloc | apply pw_below_drewN | apply below_drew1 | refine below_set ?_ GE145.out | refine below_set ?_ GE155.out) | exact HB.out)) hb); clear BK145; clear BK155; clear HB; have BK145 := n0_; have BK155 := n1_; have HB := n2_; clear n0_ n1_ n2_; (try clear hb); (try clear hb2); (try clear hk); (try clear hi); have hcz40_0 : w39.cell? ⟨gb145, 0, none⟩ = some (.int .i64 t136) := (blk_cell BK145.out 0).trans rfl; have hcz40_1 : w39.cell? ⟨gb145, 1, none⟩ = some (.int .i64 t137) := (blk_cell BK145.out 1).trans rfl; have hcz40_2 : w39.cell? ⟨gb145, 2, none⟩ = some (.int .i64 t138) := (blk_cell BK145.out 2).trans rfl; have hcz40_3 : w39.cell? ⟨gb145, 3, none⟩ = some (.int .i64 t139) := (blk_cell BK145.out 3).trans rfl; have hcz40_4 : w39.cell? ⟨gb145, 4, none⟩ = some (.int .i64 t140) := (blk_cell BK145.out 4).trans rfl; have hcz40_5 : w39.cell? ⟨gb145, 5, none⟩ = some (.int .u32 t141) := (blk_cell BK145.out 5).trans rfl; have hcz40_6 : w39.cell? ⟨gb145, 6, none⟩ = some (.int .u32 t142) := (blk_cell BK145.out 6).trans rfl; have hcz40_7 : w39.cell? ⟨gb145, 7, none⟩ = some (.string t143) := (blk_cell BK145.out 7).trans rfl; have hfz40_0 := blk_frozen BK145.out 0; have hfz40_1 := blk_frozen BK145.out 1; have hfz40_2 := blk_frozen BK145.out 2; have hfz40_3 := blk_frozen BK145.out 3; have hfz40_4 := blk_frozen BK145.out 4; have hfz40_5 := blk_frozen BK145.out 5; have hfz40_6 := blk_frozen BK145.out 6; have hfz40_7 := blk_frozen BK145.out 7; have hcz41_0 : w39.cell? ⟨gb155, 0, none⟩ = some (.int .i64 t146) := (blk_cell BK155.out 0).trans rfl; have hcz41_1 : w39.cell? ⟨gb155, 1, none⟩ = some (.int .i64 t147) := (blk_cell BK155.out 1).trans rfl; have hcz41_2 : w39.cell? ⟨gb155, 2, none⟩ = some (.int .i64 t148) := (blk_cell BK155.out 2).trans rfl; have hcz41_3 : w39.cell? ⟨gb155, 3, none⟩ = some (.int .i64 t149) := (blk_cell BK155.out 3).trans rfl; have hcz41_4 : w39.cell? ⟨gb155, 4, none⟩ = some (.int .i64 t150) := (blk_cell BK155.out 4).trans rfl; have hcz41_5 : w39.cell? ⟨gb155, 5, none⟩ = some (.int .u32 t151) := (blk_cell BK155.out 5).trans rfl; have hcz41_6 : w39.cell? ⟨gb155, 6, none⟩ = some (.int .u32 t152) := (blk_cell BK155.out 6).trans rfl; have hcz41_7 : w39.cell? ⟨gb155, 7, none⟩ = some (.string t153) := (blk_cell BK155.out 7).trans rfl; have hfz41_0 := blk_frozen BK155.out 0; have hfz41_1 := blk_frozen BK155.out 1; have hfz41_2 := blk_frozen BK155.out 2; have hfz41_3 := blk_frozen BK155.out 3; have hfz41_4 := blk_frozen BK155.out 4; have hfz41_5 := blk_frozen BK155.out 5; have hfz41_6 := blk_frozen BK155.out 6; have hfz41_7 := blk_frozen BK155.out 7))
      go_ret
      exact ⟨by first | rfl | (simp [errW_none, errW_some] <;> rfl) | (simp [*, errW_none, errW_some] <;> rfl), by repeat (first | (with_reducible first | exact HB.out | apply below_alloc | apply pw_below_drewN | apply below_drew1 | refine below_set ?_ GE145.out | refine below_set ?_ GE155.out) | exact HB.out)⟩
  · rw [if_neg c6] at H
    have c6b0 : (t136 == t146 && (t137 == t147 && (t138 == t148 && (t139 == t149 && (t140 == t150 && (t141 == t151 && (t142 == t152 && (t143.toList == t153.toList)))))))) = false := by simpa using c6
    (try (have c6b1 : decide (t136 = t146 && (t137 == t147 && (t138 == t148 && (t139 == t149 && (t140 == t150 && (t141 == t151 && (t142 == t152 && (t143.toList == t153.toList)))))))) = false := by simpa using c6))
    (try (have c6b2 : (t136 == t146 && (t137 == t147 && (t138 == t148 && (t139 == t149 && (t140 == t150 && (t141 == t151 && (t142 == t152 && (t143.toList == t153.toList)))))))) = false := by simpa using c6))
    (try (have c6b3 : ¬ (t136 = t146 && (t137 == t147 && (t138 == t148 && (t139 == t149 && (t140 == t150 && (t141 == t151 && (t142 == t152 && (t143.toList == t153.toList)))))))) := by simpa using c6))
    clear c6
    obtain rfl := Option.some.inj H
    go_enter Try.func8, Try.ntmps8
    go_wp2_with (first | ((with_reducible refine gate_callee (f := 15) rfl ?_); refine goesL_ (some 13) rfl rfl Try.func15 (by kernel_rfl) rfl #[.string a0] rfl (by (try simp only [List.map_toArray, List.map_cons, List.map_nil]); first | done | rfl | (simp only [List.length_drop, List.length_take]; rfl)) ?_; (with_reducible refine (ipv4_Parse.calls k a0 t136 t137 t138 t139 t140 t141 t142 t143 t144 _ A2.out).mono ?_); rintro e w42 ⟨rfl, hb⟩; refine ⟨_, rfl, ?_⟩; have n0_ := Aside0.mk (below_step (by repeat (first | (with_reducible first | exact HB.out | apply below_alloc | apply pw_below_drewN | apply below_drew1) | exact HB.out)) hb); clear HB; have HB := n0_; clear n0_; (try clear hb); (try clear hb2); (try clear hk); (try clear hi)) | ((with_reducible refine gate_dst (N := 3) rfl ?_); refine box_event ?hg (N := 3) ?hd (cs := #[.int .i64 0, .int .i64 0, .int .i64 0, .int .i64 0, .int .i64 0, .int .u32 0, .int .u32 0, .string (⟨#[]⟩ : ByteArray)]) (t := 24) ?hr ?_; (case hd => rfl); (case hg => rfl); (case hr => first | (go_simp; done) | (go_simp; rfl)); intro gb145 hg w43 hbox hb; have n0_ := Aside0.mk (below_step (by repeat (first | (with_reducible first | exact HB.out | apply below_alloc | apply pw_below_drewN | apply below_drew1) | exact HB.out)) hb); have n1_ := Aside0.mk (hbox); have n2_ := Aside0.mk ((by rw [hg]; exact (below_size (by repeat (first | (with_reducible first | exact HB.out | apply below_alloc | apply pw_below_drewN | apply below_drew1) | exact HB.out))) : w.heap.size ≤ gb145)); have n3_ := Aside0.mk ((by rw [hg]; exact (below_size (by repeat (first | (with_reducible first | exact HB.out | apply below_alloc | apply pw_below_drewN | apply below_drew1) | exact HB.out))) : w.heap.size ≤ gb145)); clear HB; have HB := n0_; have BK145 := n1_; have GW145 := n2_; have GE145 := n3_; clear n0_ n1_ n2_ n3_; clear hb hbox hg; have hcz44_0 : w43.cell? ⟨gb145, 0, none⟩ = some (.int .i64 0) := (blk_cell BK145.out 0).trans rfl; have hcz44_1 : w43.cell? ⟨gb145, 1, none⟩ = some (.int .i64 0) := (blk_cell BK145.out 1).trans rfl; have hcz44_2 : w43.cell? ⟨gb145, 2, none⟩ = some (.int .i64 0) := (blk_cell BK145.out 2).trans rfl; have hcz44_3 : w43.cell? ⟨gb145, 3, none⟩ = some (.int .i64 0) := (blk_cell BK145.out 3).trans rfl; have hcz44_4 : w43.cell? ⟨gb145, 4, none⟩ = some (.int .i64 0) := (blk_cell BK145.out 4).trans rfl; have hcz44_5 : w43.cell? ⟨gb145, 5, none⟩ = some (.int .u32 0) := (blk_cell BK145.out 5).trans rfl; have hcz44_6 : w43.cell? ⟨gb145, 6, none⟩ = some (.int .u32 0) := (blk_cell BK145.out 6).trans rfl; have hcz44_7 : w43.cell? ⟨gb145, 7, none⟩ = some (.string (⟨#[]⟩ : ByteArray)) := (blk_cell BK145.out 7).trans rfl; have hfz44_0 := blk_frozen BK145.out 0; have hfz44_1 := blk_frozen BK145.out 1; have hfz44_2 := blk_frozen BK145.out 2; have hfz44_3 := blk_frozen BK145.out 3; have hfz44_4 := blk_frozen BK145.out 4; have hfz44_5 := blk_frozen BK145.out 5; have hfz44_6 := blk_frozen BK145.out 6; have hfz44_7 := blk_frozen BK145.out 7) | ((with_reducible refine gate_callee (f := 16) rfl ?_); refine goesL_ (some 18) rfl rfl Try.func16 (by kernel_rfl) rfl #[.string a0] rfl (by (try simp only [List.map_toArray, List.map_cons, List.map_nil]); first | done | rfl | (simp only [List.length_drop, List.length_take]; rfl)) ?_; (with_reducible refine (vizardref02_Parse.calls k a0 t146 t147 t148 t149 t150 t151 t152 t153 t154 _ A3.out).mono ?_); rintro e w45 ⟨rfl, hb⟩; refine ⟨_, rfl, ?_⟩; have n0_ := Aside0.mk (blk_below (g := gb145) (o := .cells #[.int .i64 t136, .int .i64 t137, .int .i64 t138, .int .i64 t139, .int .i64 t140, .int .u32 t141, .int .u32 t142, .string t143] 24 (0, 0)) (by (with_reducible repeat (first | refine blk_drewN ?_ _ | refine blk_drew ?_ | refine blk_alloc ?_ _)); refine blk_put (cs := #[.int .i64 t136, .int .i64 t137, .int .i64 t138, .int .i64 t139, .int .i64 t140, .int .u32 t141, .int .u32 t142, .string (⟨#[]⟩ : ByteArray)]) ?_ 7 _ rfl; (with_reducible repeat (first | refine blk_drewN ?_ _ | refine blk_drew ?_ | refine blk_alloc ?_ _)); refine blk_put (cs := #[.int .i64 t136, .int .i64 t137, .int .i64 t138, .int .i64 t139, .int .i64 t140, .int .u32 t141, .int .u32 0, .string (⟨#[]⟩ : ByteArray)]) ?_ 6 _ rfl; (with_reducible repeat (first | refine blk_drewN ?_ _ | refine blk_drew ?_ | refine blk_alloc ?_ _)); refine blk_put (cs := #[.int .i64 t136, .int .i64 t137, .int .i64 t138, .int .i64 t139, .int .i64 t140, .int .u32 0, .int .u32 0, .string (⟨#[]⟩ : ByteArray)]) ?_ 5 _ rfl; (with_reducible repeat (first | refine blk_drewN ?_ _ | refine blk_drew ?_ | refine blk_alloc ?_ _)); refine blk_put (cs := #[.int .i64 t136, .int .i64 t137, .int .i64 t138, .int .i64 t139, .int .i64 0, .int .u32 0, .int .u32 0, .string (⟨#[]⟩ : ByteArray)]) ?_ 4 _ rfl; (with_reducible repeat (first | refine blk_drewN ?_ _ | refine blk_drew ?_ | refine blk_alloc ?_ _)); refine blk_put (cs := #[.int .i64 t136, .int .i64 t137, .int .i64 t138, .int .i64 0, .int .i64 0, .int .u32 0, .int .u32 0, .string (⟨#[]⟩ : ByteArray)]) ?_ 3 _ rfl; (with_reducible repeat (first | refine blk_drewN ?_ _ | refine blk_drew ?_ | refine blk_alloc ?_ _)); refine blk_put (cs := #[.int .i64 t136, .int .i64 t137, .int .i64 0, .int .i64 0, .int .i64 0, .int .u32 0, .int .u32 0, .string (⟨#[]⟩ : ByteArray)]) ?_ 2 _ rfl; (with_reducible repeat (first | refine blk_drewN ?_ _ | refine blk_drew ?_ | refine blk_alloc ?_ _)); refine blk_put (cs := #[.int .i64 t136, .int .i64 0, .int .i64 0, .int .i64 0, .int .i64 0, .int .u32 0, .int .u32 0, .string (⟨#[]⟩ : ByteArray)]) ?_ 1 _ rfl; (with_reducible repeat (first | refine blk_drewN ?_ _ | refine blk_drew ?_ | refine blk_alloc ?_ _)); refine blk_put (cs := #[.int .i64 0, .int .i64 0, .int .i64 0, .int .i64 0, .int .i64 0, .int .u32 0, .int .u32 0, .string (⟨#[]⟩ : ByteArray)]) ?_ 0 _ rfl; (with_reducible repeat (first | refine blk_drewN ?_ _ | refine blk_drew ?_ | refine blk_alloc ?_ _)); exact BK145.out) hb); have n1_ := Aside0.mk (below_step (by repeat (first | (with_reducible first | exact HB.out | apply below_alloc | apply pw_below_drewN | apply below_drew1 | refine below_set ?_ GE145.out) | exact HB.out)) hb); clear BK145; clear HB; have BK145 := n0_; have HB := n1_; clear n0_ n1_; (try clear hb); (try clear hb2); (try clear hk); (try clear hi)) | ((with_reducible refine gate_dst (N := 5) rfl ?_); refine box_event ?hg (N := 5) ?hd (cs := #[.int .i64 0, .int .i64 0, .int .i64 0, .int .i64 0, .int .i64 0, .int .u32 0, .int .u32 0, .string (⟨#[]⟩ : ByteArray)]) (t := 24) ?hr ?_; (case hd => rfl); (case hg => rfl); (case hr => first | (go_simp; done) | (go_simp; rfl)); intro gb155 hg w46 hbox hb; have n0_ := Aside0.mk (blk_below (g := gb145) (o := .cells #[.int .i64 t136, .int .i64 t137, .int .i64 t138, .int .i64 t139, .int .i64 t140, .int .u32 t141, .int .u32 t142, .string t143] 24 (0, 0)) (by (with_reducible repeat (first | refine blk_drewN ?_ _ | refine blk_drew ?_ | refine blk_alloc ?_ _)); exact BK145.out) hb); have n1_ := Aside0.mk (below_step (by repeat (first | (with_reducible first | exact HB.out | apply below_alloc | apply pw_below_drewN | apply below_drew1 | refine below_set ?_ GE145.out) | exact HB.out)) hb); have n2_ := Aside0.mk (hbox); have n3_ := Aside0.mk ((by rw [hg]; exact (below_size (by repeat (first | (with_reducible first | exact HB.out | apply below_alloc | apply pw_below_drewN | apply below_drew1 | refine below_set ?_ GE145.out) | exact HB.out))) : w.heap.size ≤ gb155)); have n4_ := Aside0.mk ((by rw [hg]; exact (below_size (by repeat (first | (with_reducible first | exact HB.out | apply below_alloc | apply pw_below_drewN | apply below_drew1 | refine below_set ?_ GE145.out) | exact HB.out))) : w.heap.size ≤ gb155)); have n5_ := Aside0.mk ((by rw [hg]; exact Nat.ne_of_lt (blk_lt (g := gb145) (o := .cells #[.int .i64 t136, .int .i64 t137, .int .i64 t138, .int .i64 t139, .int .i64 t140, .int .u32 t141, .int .u32 t142, .string t143] 24 (0, 0)) (by (with_reducible repeat (first | refine blk_drewN ?_ _ | refine blk_drew ?_ | refine blk_alloc ?_ _)); exact BK145.out)) : gb145 ≠ gb155)); have n6_ := Aside0.mk ((by rw [hg]; exact Nat.ne_of_gt (blk_lt (g := gb145) (o := .cells #[.int .i64 t136, .int .i64 t137, .int .i64 t138, .int .i64 t139, .int .i64 t140, .int .u32 t141, .int .u32 t142, .string t143] 24 (0, 0)) (by (with_reducible repeat (first | refine blk_drewN ?_ _ | refine blk_drew ?_ | refine blk_alloc ?_ _)); exact BK145.out)) : gb155 ≠ gb145)); clear BK145; clear HB; have BK145 := n0_; have HB := n1_; have BK155 := n2_; have GW155 := n3_; have GE155 := n4_; have NB145_155 := n5_; have NB155_145 := n6_; clear n0_ n1_ n2_ n3_ n4_ n5_ n6_; clear hb hbox hg; have hnb47 := NB155_145.out; have hnc47 := NB145_155.out; have hcz48_0 : w46.cell? ⟨gb155, 0, none⟩ = some (.int .i64 0) := (blk_cell BK155.out 0).trans rfl; have hcz48_1 : w46.cell? ⟨gb155, 1, none⟩ = some (.int .i64 0) := (blk_cell BK155.out 1).trans rfl; have hcz48_2 : w46.cell? ⟨gb155, 2, none⟩ = some (.int .i64 0) := (blk_cell BK155.out 2).trans rfl; have hcz48_3 : w46.cell? ⟨gb155, 3, none⟩ = some (.int .i64 0) := (blk_cell BK155.out 3).trans rfl; have hcz48_4 : w46.cell? ⟨gb155, 4, none⟩ = some (.int .i64 0) := (blk_cell BK155.out 4).trans rfl; have hcz48_5 : w46.cell? ⟨gb155, 5, none⟩ = some (.int .u32 0) := (blk_cell BK155.out 5).trans rfl; have hcz48_6 : w46.cell? ⟨gb155, 6, none⟩ = some (.int .u32 0) := (blk_cell BK155.out 6).trans rfl; have hcz48_7 : w46.cell? ⟨gb155, 7, none⟩ = some (.string (⟨#[]⟩ : ByteArray)) := (blk_cell BK155.out 7).trans rfl; have hfz48_0 := blk_frozen BK155.out 0; have hfz48_1 := blk_frozen BK155.out 1; have hfz48_2 := blk_frozen BK155.out 2; have hfz48_3 := blk_frozen BK155.out 3; have hfz48_4 := blk_frozen BK155.out 4; have hfz48_5 := blk_frozen BK155.out 5; have hfz48_6 := blk_frozen BK155.out 6; have hfz48_7 := blk_frozen BK155.out 7) | ((with_reducible refine gate_callee (f := 17) rfl ?_); refine goesL_ (some 23) rfl rfl Try.func17 (by kernel_rfl) rfl #[.string a0] rfl (by (try simp only [List.map_toArray, List.map_cons, List.map_nil]); first | done | rfl | (simp only [List.length_drop, List.length_take]; rfl)) ?_; (with_reducible refine (ipv4_Hop.calls k a0 t156 t157 _ A4.out).mono ?_); rintro e w49 ⟨rfl, hb⟩; refine ⟨_, rfl, ?_⟩; have n0_ := Aside0.mk (blk_below (g := gb145) (o := .cells #[.int .i64 t136, .int .i64 t137, .int .i64 t138, .int .i64 t139, .int .i64 t140, .int .u32 t141, .int .u32 t142, .string t143] 24 (0, 0)) (by (with_reducible repeat (first | refine blk_drewN ?_ _ | refine blk_drew ?_ | refine blk_alloc ?_ _)); refine blk_far ?_ NB145_155.out _; (with_reducible repeat (first | refine blk_drewN ?_ _ | refine blk_drew ?_ | refine blk_alloc ?_ _)); refine blk_far ?_ NB145_155.out _; (with_reducible repeat (first | refine blk_drewN ?_ _ | refine blk_drew ?_ | refine blk_alloc ?_ _)); refine blk_far ?_ NB145_155.out _; (with_reducible repeat (first | refine blk_drewN ?_ _ | refine blk_drew ?_ | refine blk_alloc ?_ _)); refine blk_far ?_ NB145_155.out _; (with_reducible repeat (first | refine blk_drewN ?_ _ | refine blk_drew ?_ | refine blk_alloc ?_ _)); refine blk_far ?_ NB145_155.out _; (with_reducible repeat (first | refine blk_drewN ?_ _ | refine blk_drew ?_ | refine blk_alloc ?_ _)); refine blk_far ?_ NB145_155.out _; (with_reducible repeat (first | refine blk_drewN ?_ _ | refine blk_drew ?_ | refine blk_alloc ?_ _)); refine blk_far ?_ NB145_155.out _; (with_reducible repeat (first | refine blk_drewN ?_ _ | refine blk_drew ?_ | refine blk_alloc ?_ _)); refine blk_far ?_ NB145_155.out _; (with_reducible repeat (first | refine blk_drewN ?_ _ | refine blk_drew ?_ | refine blk_alloc ?_ _)); exact BK145.out) hb); have n1_ := Aside0.mk (blk_below (g := gb155) (o := .cells #[.int .i64 t146, .int .i64 t147, .int .i64 t148, .int .i64 t149, .int .i64 t150, .int .u32 t151, .int .u32 t152, .string t153] 24 (0, 0)) (by (with_reducible repeat (first | refine blk_drewN ?_ _ | refine blk_drew ?_ | refine blk_alloc ?_ _)); refine blk_put (cs := #[.int .i64 t146, .int .i64 t147, .int .i64 t148, .int .i64 t149, .int .i64 t150, .int .u32 t151, .int .u32 t152, .string (⟨#[]⟩ : ByteArray)]) ?_ 7 _ rfl; (with_reducible repeat (first | refine blk_drewN ?_ _ | refine blk_drew ?_ | refine blk_alloc ?_ _)); refine blk_put (cs := #[.int .i64 t146, .int .i64 t147, .int .i64 t148, .int .i64 t149, .int .i64 t150, .int .u32 t151, .int .u32 0, .string (⟨#[]⟩ : ByteArray)]) ?_ 6 _ rfl; (with_reducible repeat (first | refine blk_drewN ?_ _ | refine blk_drew ?_ | refine blk_alloc ?_ _)); refine blk_put (cs := #[.int .i64 t146, .int .i64 t147, .int .i64 t148, .int .i64 t149, .int .i64 t150, .int .u32 0, .int .u32 0, .string (⟨#[]⟩ : ByteArray)]) ?_ 5 _ rfl; (with_reducible repeat (first | refine blk_drewN ?_ _ | refine blk_drew ?_ | refine blk_alloc ?_ _)); refine blk_put (cs := #[.int .i64 t146, .int .i64 t147, .int .i64 t148, .int .i64 t149, .int .i64 0, .int .u32 0, .int .u32 0, .string (⟨#[]⟩ : ByteArray)]) ?_ 4 _ rfl; (with_reducible repeat (first | refine blk_drewN ?_ _ | refine blk_drew ?_ | refine blk_alloc ?_ _)); refine blk_put (cs := #[.int .i64 t146, .int .i64 t147, .int .i64 t148, .int .i64 0, .int .i64 0, .int .u32 0, .int .u32 0, .string (⟨#[]⟩ : ByteArray)]) ?_ 3 _ rfl; (with_reducible repeat (first | refine blk_drewN ?_ _ | refine blk_drew ?_ | refine blk_alloc ?_ _)); refine blk_put (cs := #[.int .i64 t146, .int .i64 t147, .int .i64 0, .int .i64 0, .int .i64 0, .int .u32 0, .int .u32 0, .string (⟨#[]⟩ : ByteArray)]) ?_ 2 _ rfl; (with_reducible repeat (first | refine blk_drewN ?_ _ | refine blk_drew ?_ | refine blk_alloc ?_ _)); refine blk_put (cs := #[.int .i64 t146, .int .i64 0, .int .i64 0, .int .i64 0, .int .i64 0, .int .u32 0, .int .u32 0, .string (⟨#[]⟩ : ByteArray)]) ?_ 1 _ rfl; (with_reducible repeat (first | refine blk_drewN ?_ _ | refine blk_drew ?_ | refine blk_alloc ?_ _)); refine blk_put (cs := #[.int .i64 0, .int .i64 0, .int .i64 0, .int .i64 0, .int .i64 0, .int .u32 0, .int .u32 0, .string (⟨#[]⟩ : ByteArray)]) ?_ 0 _ rfl; (with_reducible repeat (first | refine blk_drewN ?_ _ | refine blk_drew ?_ | refine blk_alloc ?_ _)); exact BK155.out) hb); have n2_ := Aside0.mk (below_step (by repeat (first | (with_reducible first | exact HB.out | apply below_alloc | apply pw_below_drewN | apply below_drew1 | refine below_set ?_ GE145.out | refine below_set ?_ GE155.out) | exact HB.out)) hb); clear BK145; clear BK155; clear HB; have BK145 := n0_; have BK155 := n1_; have HB := n2_; clear n0_ n1_ n2_; (try clear hb); (try clear hb2); (try clear hk); (try clear hi)) | ((with_reducible refine gate_callee (f := 18) rfl ?_); refine goesL_ (some 28) rfl rfl Try.func18 (by kernel_rfl) rfl #[.string a0] rfl (by (try simp only [List.map_toArray, List.map_cons, List.map_nil]); first | done | rfl | (simp only [List.length_drop, List.length_take]; rfl)) ?_; (with_reducible refine (vizardref02_Hop.calls k a0 t158 t159 _ A5.out).mono ?_); rintro e w50 ⟨rfl, hb⟩; refine ⟨_, rfl, ?_⟩; have n0_ := Aside0.mk (blk_below (g := gb145) (o := .cells #[.int .i64 t136, .int .i64 t137, .int .i64 t138, .int .i64 t139, .int .i64 t140, .int .u32 t141, .int .u32 t142, .string t143] 24 (0, 0)) (by (with_reducible repeat (first | refine blk_drewN ?_ _ | refine blk_drew ?_ | refine blk_alloc ?_ _)); exact BK145.out) hb); have n1_ := Aside0.mk (blk_below (g := gb155) (o := .cells #[.int .i64 t146, .int .i64 t147, .int .i64 t148, .int .i64 t149, .int .i64 t150, .int .u32 t151, .int .u32 t152, .string t153] 24 (0, 0)) (by (with_reducible repeat (first | refine blk_drewN ?_ _ | refine blk_drew ?_ | refine blk_alloc ?_ _)); exact BK155.out) hb); have n2_ := Aside0.mk (below_step (by repeat (first | (with_reducible first | exact HB.out | apply below_alloc | apply pw_below_drewN | apply below_drew1 | refine below_set ?_ GE145.out | refine below_set ?_ GE155.out) | exact HB.out)) hb); clear BK145; clear BK155; clear HB; have BK145 := n0_; have BK155 := n1_; have HB := n2_; clear n0_ n1_ n2_; (try clear hb); (try clear hb2); (try clear hk); (try clear hi); have hcz51_0 : w50.cell? ⟨gb145, 0, none⟩ = some (.int .i64 t136) := (blk_cell BK145.out 0).trans rfl; have hcz51_1 : w50.cell? ⟨gb145, 1, none⟩ = some (.int .i64 t137) := (blk_cell BK145.out 1).trans rfl; have hcz51_2 : w50.cell? ⟨gb145, 2, none⟩ = some (.int .i64 t138) := (blk_cell BK145.out 2).trans rfl; have hcz51_3 : w50.cell? ⟨gb145, 3, none⟩ = some (.int .i64 t139) := (blk_cell BK145.out 3).trans rfl; have hcz51_4 : w50.cell? ⟨gb145, 4, none⟩ = some (.int .i64 t140) := (blk_cell BK145.out 4).trans rfl; have hcz51_5 : w50.cell? ⟨gb145, 5, none⟩ = some (.int .u32 t141) := (blk_cell BK145.out 5).trans rfl; have hcz51_6 : w50.cell? ⟨gb145, 6, none⟩ = some (.int .u32 t142) := (blk_cell BK145.out 6).trans rfl; have hcz51_7 : w50.cell? ⟨gb145, 7, none⟩ = some (.string t143) := (blk_cell BK145.out 7).trans rfl; have hfz51_0 := blk_frozen BK145.out 0; have hfz51_1 := blk_frozen BK145.out 1; have hfz51_2 := blk_frozen BK145.out 2; have hfz51_3 := blk_frozen BK145.out 3; have hfz51_4 := blk_frozen BK145.out 4; have hfz51_5 := blk_frozen BK145.out 5; have hfz51_6 := blk_frozen BK145.out 6; have hfz51_7 := blk_frozen BK145.out 7; have hcz52_0 : w50.cell? ⟨gb155, 0, none⟩ = some (.int .i64 t146) := (blk_cell BK155.out 0).trans rfl; have hcz52_1 : w50.cell? ⟨gb155, 1, none⟩ = some (.int .i64 t147) := (blk_cell BK155.out 1).trans rfl; have hcz52_2 : w50.cell? ⟨gb155, 2, none⟩ = some (.int .i64 t148) := (blk_cell BK155.out 2).trans rfl; have hcz52_3 : w50.cell? ⟨gb155, 3, none⟩ = some (.int .i64 t149) := (blk_cell BK155.out 3).trans rfl; have hcz52_4 : w50.cell? ⟨gb155, 4, none⟩ = some (.int .i64 t150) := (blk_cell BK155.out 4).trans rfl; have hcz52_5 : w50.cell? ⟨gb155, 5, none⟩ = some (.int .u32 t151) := (blk_cell BK155.out 5).trans rfl; have hcz52_6 : w50.cell? ⟨gb155, 6, none⟩ = some (.int .u32 t152) := (blk_cell BK155.out 6).trans rfl; have hcz52_7 : w50.cell? ⟨gb155, 7, none⟩ = some (.string t153) := (blk_cell BK155.out 7).trans rfl; have hfz52_0 := blk_frozen BK155.out 0; have hfz52_1 := blk_frozen BK155.out 1; have hfz52_2 := blk_frozen BK155.out 2; have hfz52_3 := blk_frozen BK155.out 3; have hfz52_4 := blk_frozen BK155.out 4; have hfz52_5 := blk_frozen BK155.out 5; have hfz52_6 := blk_frozen BK155.out 6; have hfz52_7 := blk_frozen BK155.out 7))
    go_ret
    exact ⟨by first | rfl | (simp [errW_none, errW_some] <;> rfl) | (simp [*, errW_none, errW_some] <;> rfl), by repeat (first | (with_reducible first | exact HB.out | apply below_alloc | apply pw_below_drewN | apply below_drew1 | refine below_set ?_ GE145.out | refine below_set ?_ GE155.out) | exact HB.out)⟩

end Go.Proofs.Ytnmijielhmkggaa.PIpv4Parses
