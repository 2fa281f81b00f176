/- The walk of FairFull. gen/mk_full20.py writes this text. -/
import Derived.Test.YtcieopcihbgfdaaAls20
namespace Go.Proofs.Ytcieopcihbgfdaa.Walk
open Go.RowKit Go.Proofs.YtcieopcihbgfdaaW.PrintWords Go.Proofs.YtcieopcihbgfdaaW.PrintLast Go.Proofs.YtcieopcihbgfdaaW.PrintMore Go.Proofs.Ytcieopcihbgfdaa.PFairDoes Go.Proofs.Ytcieopcihbgfdaa Go.Proofs.Ytcieopcihbgfdaa.Fair Go.Proofs.Ytcieopcihbgfdaa.Fq
set_option linter.unusedVariables false
set_option linter.unusedSimpArgs false
abbrev ch (b : UInt8) : ByteArray := ⟨#[b]⟩
def fs (a : Int) (k i : Nat) : FS := ⟨k, 9, if i = 0 then [] else [⟨a, List.replicate i (ch 120), 0⟩], false⟩
theorem fs_fi {a : Int} {k i : Nat} (hk : 1 ≤ k) (hk2 : k ≤ 40) (hi : i ≤ k) (ha : (Lit.int .i64 a).wf = true) : FI (fs a k i) := by
  by_cases h0 : i = 0
  · subst h0
    exact fi_new (show (1 : Int) ≤ (k : Int) by omega) (show (k : Int) ≤ 1048576 by omega) (by decide) (by decide)
  · have e : (fs a k i).st = [⟨a, List.replicate i (ch 120), 0⟩] := if_neg h0
    refine ⟨show (1 : Int) ≤ (k : Int) by omega, show (k : Int) ≤ 1048576 by omega, show (1 : Int) ≤ 9 by decide, show (9 : Int) ≤ 1048576 by decide, ?_, ?_, ?_, ?_⟩
    · unfold ids; rw [e]; simp
    · intro x hx
      rw [e] at hx
      obtain rfl := List.mem_singleton.1 hx
      refine ⟨by simp; omega, ?_, ?_, (by decide : (0 : Int) ≤ 0), (by decide : (0 : Int) ≤ 1114111), ha⟩
      · show ((List.replicate i (ch 120)).length : Int) ≤ (k : Int)
        rw [List.length_replicate]; omega
      · intro t ht
        rw [(List.mem_replicate.1 ht).2]
        decide
    · intro x hx; rw [e] at hx; cases hx
    · intro _ x hx
      rw [e] at hx
      obtain rfl := List.mem_singleton.1 hx
      exact (by decide : (0 : Int) ≤ 65535)
theorem fs_len (a : Int) (k i : Nat) : (fs a k i).st.length ≤ 100000 := by
  unfold fs
  dsimp only
  split
  · decide
  · exact (by decide : 1 ≤ 100000)
theorem fs_list (a : Int) (k i : Nat) : listOf (fs a k i).st a = List.replicate i (ch 120) := by
  unfold fs
  dsimp only
  split
  · subst_vars; rfl
  · unfold listOf; rw [if_pos rfl]
theorem fs_push {a : Int} {k i : Nat} (h : i < k) : pushE (fs a k i) a (ch 120) = 0 ∧ pushS (fs a k i) a (ch 120) = fs a k (i + 1) := by
  have h0 : ¬ 65535 < (ch 120).size := by decide
  have h1 : ¬ (((listOf (fs a k i).st a).length : Int) = (fs a k i).lim) := by
    rw [fs_list, List.length_replicate]
    show ¬ ((i : Int) = (k : Int))
    omega
  refine ⟨(if_neg h0).trans (if_neg h1), (if_neg h0).trans ((if_neg h1).trans ?_)⟩
  unfold fs
  dsimp only
  by_cases hi : i = 0
  · subst hi
    rfl
  · rw [if_neg hi, if_neg (by omega)]
    unfold addQ
    rw [if_pos rfl]
    dsimp only
    rw [List.replicate_succ']
theorem fs_full {a : Int} {k : Nat} : pushE (fs a k k) a (ch 120) = 4 ∧ pushS (fs a k k) a (ch 120) = fs a k k := by
  have h0 : ¬ 65535 < (ch 120).size := by decide
  have h1 : (((listOf (fs a k k).st a).length : Int) = (fs a k k).lim) := by
    rw [fs_list, List.length_replicate]
    rfl
  exact ⟨(if_neg h0).trans (if_pos h1), (if_neg h0).trans (if_pos h1)⟩
theorem fs_count (a : Int) (k i : Nat) : countL (fs a k i).st = i := by
  unfold fs
  dsimp only
  split
  · subst_vars; rfl
  · simp [countL]
theorem fs_drop {a : Int} {k : Nat} (hk : 1 ≤ k) : dropE (fs a k k) a = k ∧ dropS (fs a k k) a = fs a k 0 := by
  refine ⟨by unfold dropE; rw [fs_list, List.length_replicate], ?_⟩
  have e : (fs a k k).st = [⟨a, List.replicate k (ch 120), 0⟩] := if_neg (by omega)
  have hm : a ∈ ids (fs a k k) := by unfold ids; rw [e]; simp
  unfold dropS
  rw [if_pos hm]
  unfold leaveS
  rw [e]
  unfold delQ headIs
  rw [if_pos rfl]
  simp [fs]
def two (a b : Int) (k : Nat) : FS := ⟨k, 9, [⟨a, List.replicate k (ch 120), 0⟩, ⟨b, [ch 121], 0⟩], false⟩
def one (b : Int) (k : Nat) : FS := ⟨k, 9, [⟨b, [ch 121], 0⟩], false⟩
theorem two_len (a b : Int) (k : Nat) : (two a b k).st.length ≤ 100000 := (by decide : 2 ≤ 100000)
theorem one_len (b : Int) (k : Nat) : (one b k).st.length ≤ 100000 := (by decide : 1 ≤ 100000)
theorem one_count (b : Int) (k : Nat) : countL (one b k).st = 1 := rfl
theorem two_push {a b : Int} {k : Nat} (hk : 1 ≤ k) (hab : a ≠ b) : pushE (fs a k k) b (ch 121) = 0 ∧ pushS (fs a k k) b (ch 121) = two a b k := by
  have e : (fs a k k).st = [⟨a, List.replicate k (ch 120), 0⟩] := if_neg (by omega)
  have h0 : ¬ 65535 < (ch 121).size := by decide
  have hl : listOf (fs a k k).st b = [] := by rw [e]; unfold listOf; rw [if_neg hab]; rfl
  have h1 : ¬ (((listOf (fs a k k).st b).length : Int) = (fs a k k).lim) := by
    rw [hl]
    show ¬ ((0 : Int) = (k : Int))
    omega
  refine ⟨(if_neg h0).trans (if_neg h1), (if_neg h0).trans ((if_neg h1).trans ?_)⟩
  rw [e]
  unfold addQ
  rw [if_neg hab]
  rfl
theorem two_drop {a b : Int} {k : Nat} (hab : a ≠ b) : dropE (two a b k) a = k ∧ dropS (two a b k) a = one b k := by
  refine ⟨by unfold dropE two listOf; rw [if_pos rfl, List.length_replicate], ?_⟩
  have hm : a ∈ ids (two a b k) := by unfold ids two; simp
  unfold dropS
  rw [if_pos hm]
  unfold leaveS two delQ headIs
  dsimp only
  rw [if_pos rfl]
  simp [one]
theorem one_drop {a b : Int} {k : Nat} (hab : a ≠ b) : dropE (one b k) a = 0 ∧ dropS (one b k) a = one b k := by
  refine ⟨by unfold dropE one listOf; rw [if_neg (fun e => hab e.symm)]; rfl, if_neg ?_⟩
  unfold ids one
  simp [hab]
theorem u_range (y : Int) : 0 ≤ Int.tmod (IntKind.u64.wrap y) 40 ∧ Int.tmod (IntKind.u64.wrap y) 40 < 40 := by
  have h0 : 0 ≤ IntKind.u64.wrap y := by
    show 0 ≤ y % 18446744073709551616
    omega
  rw [Int.tmod_eq_emod_of_nonneg h0]
  omega
theorem m_facts {m : Int} (h0 : 0 ≤ m) (h1 : m < 1000) : wrap64 m = m ∧ IntKind.i64.wrap m = m ∧ wrap64 (1 + m) = ((m + 1).toNat : Int) ∧ IntKind.i64.wrap (1 + m) = ((m + 1).toNat : Int) := by
  have h : wrap64 m = m := by unfold wrap64; omega
  have h2 : wrap64 (1 + m) = ((m + 1).toNat : Int) := by unfold wrap64; omega
  exact ⟨h, (i64_w _).trans h, h2, (i64_w _).trans h2⟩
theorem i_facts {i k : Nat} (h : i < k) (h2 : k ≤ 1000) : wrap64 ((i : Int) + 1) = ((i + 1 : Nat) : Int) ∧ IntKind.i64.wrap ((i : Int) + 1) = ((i + 1 : Nat) : Int) ∧ decide ((i : Int) < (k : Int)) = true ∧ decide (i < k) = true := by
  have hw : wrap64 ((i : Int) + 1) = ((i + 1 : Nat) : Int) := by unfold wrap64; omega
  exact ⟨hw, (i64_w _).trans hw, decide_eq_true (by omega), decide_eq_true h⟩
theorem fs_start {a : Int} {k : Nat} {w w1 : World} {g : Nat} (hk : 1 ≤ k ∧ k ≤ 40) (h : FA w w1 g ⟨cutV (k : Int), cutV 9, [], false⟩) : FA w w1 g (fs a k 0) := by
  have e1 : cutV (k : Int) = k := cutV_id (by omega) (by omega)
  have e2 : cutV 9 = 9 := by decide
  rw [e1, e2] at h
  exact h
set_option maxHeartbeats 8000000 in
set_option maxRecDepth 100000 in
theorem fairFull_walk (a0 a b : Int) (w : World) (G0 : (Lit.int .i64 a0).wf = true) (G1 : (Lit.int .i64 a).wf = true) (G2 : (Lit.int .i64 b).wf = true) :
    Calls Try.prog 7 #[.int .i64 a0, .int .i64 a, .int .i64 b] w fun e w' => e = .returned (.bool true) ∧ Below w.heap.size w w' := by
  have hz := u_range a0
  have GA := Aside0.mk G1
  have GB := Aside0.mk G2
  clear G0 G1 G2
  obtain ⟨q, hq, hz⟩ : ∃ q, IntKind.u64.wrap a0 = q ∧ (0 ≤ Int.tmod q 40 ∧ Int.tmod q 40 < 40) := ⟨_, rfl, hz⟩
  obtain ⟨m, hm, hz⟩ : ∃ m, Int.tmod q 40 = m ∧ (0 ≤ m ∧ m < 40) := ⟨_, rfl, hz⟩
  have hmf := m_facts hz.1 (by omega)
  obtain ⟨k, hk, hkb⟩ : ∃ k, (m + 1).toNat = k ∧ (1 ≤ k ∧ k ≤ 40) := ⟨_, rfl, by clear hmf hm hq; omega⟩
  have HK := Aside0.mk hkb
  rw [hk] at hmf
  obtain ⟨m1, m2, m3, m4⟩ := hmf
  clear hz hk hkb
  go_enter Try.func7, Try.ntmps7
  go_wp2_with (first | (go_at_call 8; (with_reducible refine (works_c _).mono ?_); rintro e_ w0 ⟨rfl, hb⟩; have HB0 := Aside0.mk hb; clear hb) | (go_at_call 9; (with_reducible refine (new_a _ 9 w w0 HB0.out).mono ?_); rintro e_ w1 ⟨g, rfl, h_⟩; have H1 := Aside0.mk (fs_start (a := a) HK.out h_); clear h_))
  clear m1 m2 m3 m4 hq hm
  go_loopw [8] (fun v8 wr => ∃ i : Nat, v8 = .int .i64 (i : Int) ∧ Aside0 (i ≤ k) ∧ Aside0 (FA w wr g (fs a k i))) (fun v8 _ => ((k : Int) - intOf v8).toNat)
  case atStart => exact ⟨0, rfl, ⟨by omega⟩, H1⟩
  case round =>
    clear H1 HB0
    obtain ⟨i, rfl, HIK, HA⟩ := hrel
    by_cases d1 : i < k
    · have HD := Aside0.mk d1
      obtain ⟨i1, i2, i3, i4⟩ := i_facts d1 (by have := HK.out; omega)
      clear d1
      go_wp2_with (go_at_call 10; (with_reducible refine (push_b _ (ch 120) HA.out (fs_fi HK.out.1 HK.out.2 HIK.out GA.out) GA.out (fs_len _ _ _) (fs_push HD.out).1 (fs_push HD.out).2).mono ?_); rintro e_ w2 ⟨rfl, h_⟩; have H2 := Aside0.mk h_; clear h_)
      go_roundw
      case rel => exact ⟨i + 1, by first | rfl | simp, ⟨by have := HD.out; omega⟩, H2⟩
      case measure => clear i1 i2; have := HD.out; simp [intOf]; omega
    · have hik : i = k := by have := HIK.out; omega
      subst hik
      have M1 : decide ((i : Int) < (i : Int)) = false := decide_eq_false (by omega)
      have M2 : decide (i < i) = false := decide_eq_false (by omega)
      clear d1
      by_cases hab : a = b
      · subst hab
        have E1 : (a == a) = true := beq_self_eq_true _
        go_wp2_with (first | (go_at_call 10; (with_reducible refine (push_b _ (ch 120) HA.out (fs_fi HK.out.1 HK.out.2 (Nat.le_refl _) GA.out) GA.out (fs_len _ _ _) fs_full.1 fs_full.2).mono ?_); rintro e_ w2 ⟨rfl, h_⟩; have H2 := Aside0.mk h_; clear h_) | (go_at_call 12; (with_reducible refine (count_b H2.out (fs_fi HK.out.1 HK.out.2 (Nat.le_refl _) GA.out) (fs_len _ _ _) (fs_count _ _ _)).mono ?_); rintro e_ w3 ⟨rfl, h_⟩; have H3 := Aside0.mk h_; clear h_) | (go_at_call 16; (with_reducible refine (drop_b _ H3.out (fs_fi HK.out.1 HK.out.2 (Nat.le_refl _) GA.out) GA.out (fs_len _ _ _) (fs_drop HK.out.1).1 (fs_drop HK.out.1).2).mono ?_); rintro e_ w4 ⟨rfl, h_⟩; have H4 := Aside0.mk h_; clear h_) | (go_at_call 12; (with_reducible refine (count_b H4.out (fs_fi HK.out.1 HK.out.2 (Nat.zero_le _) GA.out) (fs_len _ _ _) (fs_count _ _ _)).mono ?_); rintro e_ w5 ⟨rfl, h_⟩; have H5 := Aside0.mk h_; clear h_))
        go_ret
        exact ⟨rfl, H5.out.bel⟩
      · have HAB := Aside0.mk hab
        have E1 : (a == b) = false := beq_eq_false_iff_ne.2 hab
        have HFI2 := Aside0.mk (show FI (two a b i) by rw [← (two_push HK.out.1 hab).2]; exact (fs_fi HK.out.1 HK.out.2 (Nat.le_refl _) GA.out).push GB.out)
        have HFI1 := Aside0.mk (show FI (one b i) by rw [← (two_drop (k := i) hab).2]; exact HFI2.out.drop a)
        clear hab
        go_wp2_with (first | (go_at_call 10; (with_reducible refine (push_b _ (ch 120) HA.out (fs_fi HK.out.1 HK.out.2 (Nat.le_refl _) GA.out) GA.out (fs_len _ _ _) fs_full.1 fs_full.2).mono ?_); rintro e_ w2 ⟨rfl, h_⟩; have H2 := Aside0.mk h_; clear h_) | (go_at_call 12; (with_reducible refine (count_b H2.out (fs_fi HK.out.1 HK.out.2 (Nat.le_refl _) GA.out) (fs_len _ _ _) (fs_count _ _ _)).mono ?_); rintro e_ w3 ⟨rfl, h_⟩; have H3 := Aside0.mk h_; clear h_) | (go_at_call 10; (with_reducible refine (push_b _ (ch 121) H3.out (fs_fi HK.out.1 HK.out.2 (Nat.le_refl _) GA.out) GB.out (fs_len _ _ _) (two_push HK.out.1 HAB.out).1 (two_push HK.out.1 HAB.out).2).mono ?_); rintro e_ w4 ⟨rfl, h_⟩; have H4 := Aside0.mk h_; clear h_) | (go_at_call 16; (with_reducible refine (drop_b _ H4.out HFI2.out GA.out (two_len _ _ _) (two_drop HAB.out).1 (two_drop HAB.out).2).mono ?_); rintro e_ w5 ⟨rfl, h_⟩; have H5 := Aside0.mk h_; clear h_) | (go_at_call 12; (with_reducible refine (count_b H5.out HFI1.out (one_len _ _) (one_count _ _)).mono ?_); rintro e_ w6 ⟨rfl, h_⟩; have H6 := Aside0.mk h_; clear h_) | (go_at_call 16; (with_reducible refine (drop_b _ H6.out HFI1.out GA.out (one_len _ _) (one_drop HAB.out).1 (one_drop HAB.out).2).mono ?_); rintro e_ w7 ⟨rfl, h_⟩; have H7 := Aside0.mk h_; clear h_))
        go_ret
        exact ⟨rfl, H7.out.bel⟩
end Go.Proofs.Ytcieopcihbgfdaa.Walk
