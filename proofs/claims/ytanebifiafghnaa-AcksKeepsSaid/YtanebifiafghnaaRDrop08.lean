/- Layer 8: the ref's Drop. gen/mk_rdrop08.py writes this text. -/
import Derived.Test.YtanebifiafghnaaRAdd08
namespace Go.Proofs.Ytanebifiafghnaa.Ack
open Go.RowKit Go.Deep Go.Proofs.YtanebifiafghnaaW.PrintWords Go.Proofs.YtanebifiafghnaaW.PrintLast Go.Proofs.YtanebifiafghnaaW.PrintMore Go.Proofs.Ytanebifiafghnaa.PAcksRight Go.Proofs.Ytanebifiafghnaa
set_option linter.unusedVariables false
set_option linter.unusedSimpArgs false
attribute [local go_sem] max2_int min2_int max_two min_two
def rdropL (n : Int) (l : List S35) : List S35 := (l.filter (fun x => decide (n ≤ x.f1))).map (clampL n)
theorem rdrop_step {l : List S35} {i : Nat} (h : i < l.length) (n : Int) : rdropL n (l.take (i + 1)) = rdropL n (l.take i) ++ (if n ≤ (l.getD i z35).f1 then [clampL n (l.getD i z35)] else []) := by
  unfold rdropL
  rw [take_step35 h, List.filter_append, List.map_append]
  congr 1
  by_cases hd : n ≤ (l.getD i z35).f1
  · rw [if_pos hd, List.filter_cons_of_pos (by simpa using hd)]; rfl
  · rw [if_neg hd, List.filter_cons_of_neg (by simpa using hd)]; rfl
set_option maxHeartbeats 8000000 in
set_option maxRecDepth 100000 in
theorem rdrop_c (w0 w1 : World) (g : Nat) (v : Value) (l : List S35) (n : Int) (h : RG w0.heap.size w1 g l v) (hB : Below w0.heap.size w0 w1) (hg : w0.heap.size ≤ g) (hn : l.length ≤ 100000) :
    Calls Try.prog 17 #[.pointer (some ⟨g, 0, none⟩), .int .i64 n] w1 fun e w' => ∃ v', e = .returned (.tuple #[]) ∧ RQ w0 w1 w' g v v' (rdropL n l) := by
  obtain ⟨A, c, rfl⟩ := Kd.R_slice h.row
  have HL := Aside0.mk h
  have HB := Aside0.mk hB
  have HG := Aside0.mk hg
  have HN := Aside0.mk hn
  clear h hB hg hn
  go_enter Try.func17, Try.ntmps17
  go_wp2_with (fail)
  go_loopw [4, 5] (fun v4 v5 wr => ∃ (i : Nat) (o : List S35), v5 = .int .i64 (i : Int) ∧ Aside0 (i ≤ l.length) ∧ Aside0 (rdropL n (l.take i) = o) ∧ Aside0 (o.length ≤ i) ∧ Aside0 (Kd.R k35 35 wr w1.heap.size (fun _ => True) v4 o) ∧ Aside0 (Below w1.heap.size w1 wr)) (fun _ v5 _ => ((l.length : Int) - intOf v5).toNat)
  case atStart => exact ⟨0, [], rfl, ⟨Nat.zero_le _⟩, ⟨rfl⟩, ⟨Nat.le_refl _⟩, ⟨Kd.R_nil _ _ _ _ _⟩, ⟨Below.refl _ _⟩⟩
  case round =>
    obtain ⟨i, o, rfl, HI, HF, HO, HR, HBr⟩ := hrel
    have HLr := Aside0.mk (HL.out.below HBr.out)
    have c0 := (show _ = some (Value.slice A l.length c) from (blk_cell HLr.out.blk 0).trans rfl)
    by_cases d1 : i < l.length
    · have M1 : decide ((i : Int) < (l.length : Int)) = true := decide_eq_true (by omega)
      have M1' : decide (i < l.length) = true := decide_eq_true d1
      have hw1 : wrap64 ((i : Int) + 1) = ((i + 1 : Nat) : Int) := by have := HN.out; unfold wrap64; omega
      have hw2 : IntKind.i64.wrap ((i : Int) + 1) = ((i + 1 : Nat) : Int) := (i64_w _).trans hw1
      obtain ⟨ad, hA, x0, x1⟩ := at35 (Kd.R_reads' HLr.out.row).2.2 i d1
      subst hA
      have hst := rdrop_step d1 n
      generalize l.getD i z35 = x at x0 x1 hst
      obtain ⟨f0, f1⟩ := x
      dsimp only at x0 x1 hst
      have p1 : ((i : Int) < (l.length : Int)) = True := eq_true (by omega)
      have p3 := eq_true d1
      have p4 : ((0 : Int) ≤ (i : Int)) = True := eq_true (by omega)
      have HJ := Aside0.mk d1
      have HLEN := Aside0.mk (show o.length ≤ 100000 by have := HO.out; have := HI.out; have := HN.out; omega)
      have HBd := Aside0.mk (below_drew1 HBr.out)
      have HRd := Aside0.mk (Kd.R_below HR.out (below_drew1 (Below.refl wr.heap.size wr)))
      clear d1
      by_cases e1 : n ≤ f1
      · have E1 : decide (n ≤ f1) = true := decide_eq_true e1
        have E1' : decide (f1 ≥ n) = true := decide_eq_true e1
        obtain ⟨mx, hmx⟩ : ∃ q, max f0 n = q := ⟨_, rfl⟩
        have Hmx := Aside0.mk hmx
        have HST := Aside0.mk (show rdropL n (l.take (i + 1)) = o ++ [⟨mx, f1⟩] by rw [hst, if_pos e1, HF.out]; unfold clampL; dsimp only; rw [hmx])
        clear hmx hst e1
        have mx0 : max f0 n = mx := Hmx.out
        have mx1 : (if f0 ≤ n then n else f0) = mx := by rw [← Hmx.out]; split <;> omega
        have mx2 : (if f0 < n then n else f0) = mx := by rw [← Hmx.out]; split <;> omega
        have mx3 : (if n ≤ f0 then f0 else n) = mx := by rw [← Hmx.out]; split <;> omega
        have mx4 : (if n < f0 then f0 else n) = mx := by rw [← Hmx.out]; split <;> omega
        go_wp2_with (fail)
        refine Calm.wp_region_calmC [(4, fun w_ => w_.cell? ⟨g, 0, none⟩ = some (.slice (some ad) l.length c)), (8, fun w_ => w_.cell? (ad.add (i * 2)) = some (.int .i64 f0)), (14, fun w_ => w_.cell? ⟨g, 0, none⟩ = some (.slice (some ad) l.length c)), (18, fun w_ => w_.cell? ⟨(ad.add (i * 2)).block, (ad.add (i * 2)).off + 1, none⟩ = some (.int .i64 f1))] [0, 1, 2, 3, 4, 5, 6, 7, 8, 9, 10, 11, 12, 13, 14, 15, 16, 17, 18, 19] [20, 21, 22] (by kernel_rfl) (by kernel_rfl) (Calm.allC_cons (by exact c0) (Calm.allC_cons (by exact x0) (Calm.allC_cons (by exact c0) (Calm.allC_cons (by exact x1) Calm.allC_nil)))) ?_
        repeat (first
          | (refine Calm.g_value (v := ?_) (a' := ?_) rfl rfl (by rfl) ?_ ?_ ?_; rotate_left; (· rintro w' hS'; (try simp only [Calm.SC_cons, Calm.SC_nil, Nat.reduceEqDiff, forall_const, false_implies, and_true, true_and] at hS'); (try obtain ⟨hS1, hS2⟩ := hS'); go_simp; with_reducible rfl); rotate_left; (· simp only [Act.put, List.setIfInBounds_toArray, List.set_cons_zero, List.set_cons_succ, i64_w, i32_w]; rfl)))
        refine Calm.g_nil ?_
        refine Calm.c_value (v := ?_) (w1 := ?_) (a' := ?_) rfl rfl (by rfl) ?_ ?_ ?_ ?_
        rotate_left
        rotate_left
        · go_simp; first | (refine And.intro ?_ ?_ <;> rfl) | rfl
        · repeat (first | exact Calm.okC_nil | (refine Calm.okC_cons (Or.inl (by decide +kernel)) ?_) | (refine Calm.okC_cons (Or.inr (by (first | assumption | (go_simp; done)))) ?_))
        rotate_left
        · simp only [Act.put, List.setIfInBounds_toArray, List.set_cons_zero, List.set_cons_succ, i64_w, i32_w]; rfl
        refine Calm.c_law rfl ?_
        refine Kd.R_append_step k35 (w0 := wr.drew) w1.heap.size (by rfl) (.tmp 25) (.tmp 45) 22 35 (.agg #[.int .i64 0, .int .i64 0]) 16 rfl Try.underlying22 rinfo35_ rfl (by decide) (by omega) _ o ⟨mx, f1⟩ [.int .i64 mx, .int .i64 f1] (fun _ => True) (fun _ => False) rfl rfl ?aP (fun _ hk => hk.elim) (fun _ _ => trivial) HRd.out (Below.refl _ _) ?aS ?aL ?_
        case aP => exact k35_mkM _ _ _ _
        case aS => exact HBd.out.size
        case aL => have := HLEN.out; omega
        intro v6 w6 hR6 hB6 hg6 hat
        refine And.intro ?_ ?_
        · repeat (first | exact Calm.okC_nil | (refine Calm.okC_cons (Or.inl (by decide +kernel)) ?_) | (refine Calm.okC_cons (Or.inr (by (first | assumption | (go_simp; done)))) ?_))
        refine Calm.put_dst (a' := ?_) rfl ?_ ?_
        rotate_left
        · simp only [Act.put, List.setIfInBounds_toArray, List.set_cons_zero, List.set_cons_succ, i64_w, i32_w]; rfl
        refine Calm.c_value (v := ?_) (w1 := ?_) (a' := ?_) rfl rfl (by rfl) ?_ ?_ ?_ ?_
        rotate_left
        rotate_left
        · go_simp; first | (refine And.intro ?_ ?_ <;> rfl) | rfl
        · repeat (first | exact Calm.okC_nil | (refine Calm.okC_cons (Or.inl (by decide +kernel)) ?_) | (refine Calm.okC_cons (Or.inr (by (first | assumption | (go_simp; done)))) ?_))
        rotate_left
        · simp only [Act.put, List.setIfInBounds_toArray, List.set_cons_zero, List.set_cons_succ, i64_w, i32_w]; rfl
        refine Calm.h_nil ?_
        simp only [Exit.inBlock, Exit.then]
        go_wp2_with (fail)
        have HB6 := Aside0.mk (HBd.out.grown hg6 HBd.out.size (fun j hj => Kd.R_base HRd.out j hj))
        have HR6 := Aside0.mk hR6
        clear hR6 hB6 hg6 hat
        go_roundw
        case rel => exact ⟨i + 1, _, by first | rfl | simp, ⟨by have := HJ.out; omega⟩, HST, ⟨by rw [List.length_append]; exact Nat.succ_le_succ HO.out⟩, HR6, HB6⟩
        case measure => have := HJ.out; simp [intOf]; omega
      · have E1 : decide (n ≤ f1) = false := decide_eq_false e1
        have E1' : decide (f1 ≥ n) = false := decide_eq_false e1
        have HST := Aside0.mk (show rdropL n (l.take (i + 1)) = o by rw [hst, if_neg e1, HF.out, List.append_nil])
        clear hst e1
        go_wp2_with (fail)
        go_roundw
        case rel => exact ⟨i + 1, _, by first | rfl | simp, ⟨by have := HJ.out; omega⟩, HST, ⟨Nat.le_succ_of_le HO.out⟩, HR, HBr⟩
        case measure => have := HJ.out; simp [intOf]; omega
    · have hi : i = l.length := by have := HI.out; omega
      clear d1 HI
      subst hi
      have HRL := Aside0.mk (show rdropL n l = o by have h := HF.out; rwa [List.take_length] at h)
      obtain ⟨Ao, co, hvo⟩ := Kd.R_slice HR.out
      subst hvo
      have f7 := blk_frozen HLr.out.blk 0
      clear HF
      go_wp2_with (fail)
      first | go_end0 | ((try simp only [Exit.inBlock, Exit.then]); refine bodyPost_ret (results_none rfl _ _ _) rfl ?_)
      exact ⟨_, rfl, by rw [HRL.out]; exact RQ.make HL.out HB.out HG.out (Below.refl _ _) HR.out HBr.out⟩
end Go.Proofs.Ytanebifiafghnaa.Ack
