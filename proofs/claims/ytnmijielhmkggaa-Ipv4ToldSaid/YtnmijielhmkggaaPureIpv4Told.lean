/- The pure law Ipv4Told -/
import Derived.Test.YtnmijielhmkggaaGoodIpv4Told
namespace Go.Proofs.Ytnmijielhmkggaa.Pure
open Go.RowKit Go.Proofs.Ytnmijielhmkggaa.PIpv4Told Go.Proofs.YtnmijielhmkggaaW.PrintWords Go.Proofs.YtnmijielhmkggaaW.PrintLast Go.Proofs.Ytnmijielhmkggaa.Opening Go.Proofs.Ytnmijielhmkggaa.Hand
set_option linter.unusedVariables false
set_option linter.unusedSimpArgs false
theorem wrap_in (x : Int) (h0 : -9223372036854775808 ≤ x) (h1 : x ≤ 9223372036854775807) : wrap64 x = x := by
  unfold wrap64
  omega
theorem mx_eq (a b : Int) : mx a b = if a < b then b else a := rfl
theorem mn_eq (a b : Int) : mn a b = if b < a then b else a := rfl
theorem u64_eq (n : Int) : IntKind.u64.wrap n = n % 18446744073709551616 := by simp [IntKind.wrap, IntKind.bits, IntKind.signed]
theorem u64_range (n : Int) : 0 ≤ IntKind.u64.wrap n ∧ IntKind.u64.wrap n < 18446744073709551616 := by
  rw [u64_eq]
  omega
theorem u32_eq (n : Int) : IntKind.u32.wrap n = n % 4294967296 := by simp [IntKind.wrap, IntKind.bits, IntKind.signed]
theorem ev_p {α : Type} {c : Prop} [Decidable c] {f g : Nat → Option α} {v : α} (h : c) (e : Ev f v) : Ev (fun k => if c then f k else g k) v := Ev.congr (fun k => if_pos h) e
theorem ev_n {α : Type} {c : Prop} [Decidable c] {f g : Nat → Option α} {v : α} (h : ¬ c) (e : Ev g v) : Ev (fun k => if c then f k else g k) v := Ev.congr (fun k => if_neg h) e
/-! ### Numbers as bytes -/
/-- A number's last k bytes, the highest first. -/
def be : Int → Nat → List Int
  | _, 0 => []
  | n, k + 1 => be (n / 256) k ++ [n % 256]
theorem be_length : ∀ (k : Nat) (n : Int), (be n k).length = k
  | 0, _ => rfl
  | k + 1, n => by simp [be, be_length k]
theorem be_get : ∀ (k : Nat) (n : Int) (j : Nat), j < k → (be n k)[j]? = some (n / 256 ^ (k - 1 - j) % 256)
  | 0, _, j, h => by omega
  | k + 1, n, j, h => by
    simp only [be]
    by_cases hj : j < k
    · rw [List.getElem?_append_left (by rw [be_length]; exact hj), be_get k (n / 256) j hj]
      congr 1
      rw [Int.ediv_ediv_of_nonneg (by omega)]
      congr 1
      rw [show k + 1 - 1 - j = (k - 1 - j) + 1 by omega, Int.pow_succ, Int.mul_comm]
    · obtain rfl : j = k := by omega
      rw [List.getElem?_append_right (by rw [be_length]; omega), be_length]
      simp
theorem be_range (k : Nat) (n : Int) (x : Int) (h : x ∈ be n k) : 0 ≤ x ∧ x < 256 := by
  obtain ⟨j, hj⟩ := List.getElem?_of_mem h
  have hl : j < k := by
    have := (List.getElem?_eq_some_iff.1 hj).1
    rwa [be_length] at this
  rw [be_get k n j hl] at hj
  have := Option.some.inj hj
  omega
theorem strOfNums_append (a b : List Int) : strOfNums (a ++ b) = strOfNums a ++ strOfNums b := by
  apply ByteArray.ext
  simp [strOfNums]
/-- Bytes as a number, the highest first. -/
def bacc (s : ByteArray) : Nat → Int
  | 0 => 0
  | i + 1 => bacc s i * 256 + bt s (i : Int)
theorem bacc_range (s : ByteArray) : ∀ i : Nat, 0 ≤ bacc s i ∧ bacc s i < 256 ^ i
  | 0 => by simp [bacc]
  | i + 1 => by
    have h := bacc_range s i
    have hb := bt_range s (i : Int)
    simp only [bacc, Int.pow_succ]
    omega
theorem bt_extract (s : ByteArray) (a b i : Nat) (h : a + i < b) (hb : b ≤ s.size) : bt (s.extract a b) (i : Int) = bt s ((a + i : Nat) : Int) := by
  have h2 : (s.extract a b).size = b - a := by rw [ByteArray.size_extract]; omega
  simp only [bt, Int.toNat_natCast]
  rw [dif_pos (by omega), dif_pos (by omega), ByteArray.getElem_extract]
theorem and65535 (x : Int) (h0 : 0 ≤ x) (h1 : x < 9223372036854775808) : Go.bits .and .i64 x 65535 = x % 65536 :=
  bits_mask .i64 63 (by decide) (fun n h0 h1 => by rw [IntKind.wrap_i64]; omega) 16 (by decide) x h0 (by omega)
/-- The sum of the first words, the first byte of each the higher one. -/
def wsum (s : ByteArray) : Nat → Int
  | 0 => 0
  | i + 1 => wsum s i + bt s (i : Int) * (if i % 2 = 0 then 256 else 1)
theorem wsum_range (s : ByteArray) : ∀ i : Nat, 0 ≤ wsum s i ∧ wsum s i ≤ 65280 * (i : Int)
  | 0 => by simp [wsum]
  | i + 1 => by
    have h := wsum_range s i
    have hb := bt_range s (i : Int)
    simp only [wsum]
    split <;> omega
theorem wsum_range2 (s : ByteArray) : ∀ i : Nat, 2 * wsum s i ≤ 65535 * (i : Int) + (if i % 2 = 1 then 65025 else 0)
  | 0 => by simp [wsum]
  | i + 1 => by
    have h := wsum_range2 s i
    have hb := bt_range s (i : Int)
    simp only [wsum]
    by_cases e : i % 2 = 0
    · rw [if_pos e, if_pos (by omega)]
      rw [if_neg (by omega)] at h
      omega
    · rw [if_neg e, if_neg (by omega)]
      rw [if_pos (by omega)] at h
      omega
theorem wsum_small (s : ByteArray) (i : Nat) (h : i ≤ 281474976702466) : wsum s i < 9223372036854775808 - 65536 := by
  have := wsum_range2 s i
  split at this <;> omega
/-- Carries added till none is left. -/
def fold (x : Int) : Int := if x = 0 then 0 else (x - 1) % 65535 + 1
theorem fold_small (x : Int) (h0 : 0 ≤ x) (h1 : x ≤ 65535) : fold x = x := by
  unfold fold
  split <;> omega
theorem fold_step (x : Int) (h : x > 65535) : fold (x % 65536 + x / 65536) = fold x := by
  unfold fold
  rw [if_neg (by omega), if_neg (by omega)]
  omega
theorem fold_range (x : Int) (h : 0 ≤ x) : 0 ≤ fold x ∧ fold x ≤ 65535 := by
  unfold fold
  split <;> omega
def cks (s : ByteArray) : Int := 65535 - fold (wsum s s.size)
theorem cks_range (s : ByteArray) : 0 ≤ cks s ∧ cks s ≤ 65535 := by
  have := fold_range _ (wsum_range s s.size).1
  unfold cks
  omega
theorem sum_l1 (n : Nat) : ∀ x : Int, x.toNat ≤ n → 0 ≤ x → x < 9223372036854775808 → Ev (fun k => ipv4_Sum.l1 k x) (65535 - fold x) := by
  induction n using Nat.strongRecOn with
  | _ n ih =>
    intro x hn h0 h1
    by_cases h : x > 65535
    · refine Ev.step (fun k => ?_) ((fold_step x h) ▸ ih (x % 65536 + x / 65536).toNat (by omega) (x % 65536 + x / 65536) (Nat.le_refl _) (by omega) (by omega))
      simp only [ipv4_Sum.l1]
      rw [if_pos h, and65535 x h0 h1, wrap_in _ (by omega) (by omega)]
    · refine Ev.step (f := fun _ => some (65535 - fold x)) (fun k => ?_) (Ev.now _)
      simp only [ipv4_Sum.l1]
      rw [if_neg h, wrap_in _ (by omega) (by omega), fold_small x h0 (by omega)]
theorem sum_l0 (s : ByteArray) (hs : s.size ≤ 281474976702466) (d : Nat) : ∀ i : Nat, s.size - i = d → i ≤ s.size → Ev (fun k => ipv4_Sum.l0 k s (wsum s i) (s.size : Int) i) (cks s) := by
  induction d with
  | zero =>
    intro i hd hi
    obtain rfl : i = s.size := by omega
    have hw := wsum_range s s.size
    have hw2 := wsum_small s s.size hs
    refine Ev.step (fun k => ?_) (sum_l1 _ (wsum s s.size) (Nat.le_refl _) hw.1 (by omega))
    simp only [ipv4_Sum.l0]
    rw [if_neg (by omega)]
  | succ d ih =>
    intro i hd hi
    have hw := wsum_range s i
    have hw2 := wsum_small s i (by omega)
    have hb := bt_range s (i : Int)
    have ht : Int.tmod (i : Int) 2 = (i : Int) % 2 := Int.tmod_eq_emod_of_nonneg (by omega)
    refine Ev.step (fun k => ?_) (ih (i + 1) (by omega) (by omega))
    simp only [ipv4_Sum.l0]
    rw [if_pos (by omega), if_pos (by omega), if_pos (by omega), ht, wrap_in (1 - _) (by omega) (by omega), wrap_in (8 * _) (by omega) (by omega), if_pos (by omega), wrap_in (bt s i) (by omega) (by omega)]
    have es : shl .i64 (bt s i) (8 * (1 - (i : Int) % 2)) = bt s i * (if i % 2 = 0 then 256 else 1) := by
      unfold shl
      by_cases h : i % 2 = 0
      · rw [if_pos h, show 8 * (1 - (i : Int) % 2) = 8 by omega, show min (8 : Int).toNat IntKind.i64.bits = 8 from rfl, IntKind.wrap_i64]
        omega
      · rw [if_neg h, show 8 * (1 - (i : Int) % 2) = 0 by omega, show min (0 : Int).toNat IntKind.i64.bits = 0 from rfl, IntKind.wrap_i64]
        omega
    rw [es]
    have hstep : wsum s (i + 1) = wsum s i + bt s i * (if i % 2 = 0 then 256 else 1) := rfl
    have hr := wsum_range s (i + 1)
    have hr2 := wsum_small s (i + 1) (by omega)
    rw [← hstep, wrap_in _ (by omega) (by omega), wrap_in ((i : Int) + 1) (by omega) (by omega)]
    rfl
theorem sum_ev (s : ByteArray) (hs : s.size ≤ 281474976702466) : Ev (fun k => ipv4_Sum.f k s) (cks s) :=
  Ev.congr (fun k => by simp only [ipv4_Sum.f]; rfl) (sum_l0 s hs s.size 0 rfl (by omega))
theorem wsum_congr (s t : ByteArray) : ∀ n : Nat, (∀ i : Nat, i < n → bt s (i : Int) = bt t (i : Int)) → wsum s n = wsum t n
  | 0, _ => rfl
  | n + 1, h => by simp only [wsum]; rw [wsum_congr s t n (fun i hi => h i (by omega)), h n (by omega)]
theorem bt_app_left (a b : ByteArray) (i : Nat) (h : i < a.size) : bt (a ++ b) (i : Int) = bt a (i : Int) := by
  have h2 : (a ++ b).size = a.size + b.size := ByteArray.size_append
  simp only [bt, Int.toNat_natCast]
  rw [dif_pos (show i < (a ++ b).size by omega), dif_pos h, ByteArray.getElem_append_left h]
theorem bt_app_right (a b : ByteArray) (i : Nat) (h : i < b.size) : bt (a ++ b) ((a.size + i : Nat) : Int) = bt b (i : Int) := by
  have h2 : (a ++ b).size = a.size + b.size := ByteArray.size_append
  simp only [bt, Int.toNat_natCast]
  rw [dif_pos (show a.size + i < (a ++ b).size by omega), dif_pos h, ByteArray.getElem_append_right (by omega)]
  simp
theorem wsum_app_aux (a b : ByteArray) (ha : a.size % 2 = 0) : ∀ n : Nat, n ≤ b.size → wsum (a ++ b) (a.size + n) = wsum a a.size + wsum b n
  | 0, _ => by
    simp only [wsum, Nat.add_zero, Int.add_zero]
    exact wsum_congr _ _ a.size (fun i hi => bt_app_left a b i hi)
  | n + 1, h => by
    have ih := wsum_app_aux a b ha n (by omega)
    rw [show a.size + (n + 1) = (a.size + n) + 1 by omega]
    simp only [wsum]
    rw [ih, bt_app_right a b n (by omega)]
    by_cases h2 : n % 2 = 0
    · rw [if_pos (by omega), if_pos h2]; omega
    · rw [if_neg (by omega), if_neg h2]; omega
theorem wsum_app (a b : ByteArray) (ha : a.size % 2 = 0) : wsum (a ++ b) (a ++ b).size = wsum a a.size + wsum b b.size := by
  rw [ByteArray.size_append]
  exact wsum_app_aux a b ha b.size (Nat.le_refl _)
theorem bt_nums (l : List Int) (i : Nat) (x : Int) (h : l[i]? = some x) (h0 : 0 ≤ x) (h1 : x < 256) : bt (strOfNums l) (i : Int) = x := by
  have hl : i < l.length := (List.getElem?_eq_some_iff.1 h).1
  have hx : l[i] = x := (List.getElem?_eq_some_iff.1 h).2
  simp only [bt, Int.toNat_natCast]
  rw [dif_pos (by rw [strOfNums_size]; exact hl)]
  simp only [strOfNums]
  show (((l.map fun n => UInt8.ofNat n.toNat).toArray[i]'(by simpa using hl)).toNat : Int) = x
  simp [hx]
  omega
theorem wsum_be2 (x : Int) : wsum (strOfNums (be x 2)) (strOfNums (be x 2)).size = x % 65536 := by
  rw [strOfNums_size, be_length]
  have e0 := bt_nums (be x 2) 0 (x / 256 % 256) rfl (by omega) (by omega)
  have e1 := bt_nums (be x 2) 1 (x % 256) rfl (by omega) (by omega)
  have e : ∀ S : ByteArray, wsum S 2 = 0 + bt S ((0 : Nat) : Int) * 256 + bt S ((1 : Nat) : Int) * 1 := fun _ => rfl
  rw [e, e0, e1]
  omega
theorem wsum_be2_app (x : Int) (t : ByteArray) : wsum (strOfNums (be x 2) ++ t) (strOfNums (be x 2) ++ t).size = x % 65536 + wsum t t.size := by
  rw [wsum_app _ _ (by rw [strOfNums_size, be_length]), wsum_be2]
/-! ### A header's bytes, and what they are read as -/
theorem ba_ext (a b : ByteArray) (h : a.size = b.size) (h2 : ∀ i : Nat, i < a.size → bt a (i : Int) = bt b (i : Int)) : a = b := by
  apply ByteArray.ext
  refine Array.ext h (fun i hi1 hi2 => ?_)
  have h3 := h2 i hi1
  simp only [bt, Int.toNat_natCast] at h3
  rw [dif_pos (show i < a.size from hi1), dif_pos (show i < b.size from hi2)] at h3
  exact UInt8.toNat_inj.1 (by exact_mod_cast h3)
theorem tl_iff (a b : ByteArray) : (a.toList = b.toList) ↔ a = b := by
  rw [ByteArray.toList_eq, ByteArray.toList_eq]
  constructor
  · intro h
    exact ByteArray.ext (Array.toList_inj.1 h)
  · intro h
    rw [h]
def w2 (s : ByteArray) (i : Nat) : Int := bt s (i : Int) * 256 + bt s ((i + 1 : Nat) : Int)
def w4 (s : ByteArray) (i : Nat) : Int := w2 s i * 65536 + w2 s (i + 2)
theorem w2_range (s : ByteArray) (i : Nat) : 0 ≤ w2 s i ∧ w2 s i ≤ 65535 := by
  have h0 := bt_range s (i : Int)
  have h1 := bt_range s ((i + 1 : Nat) : Int)
  unfold w2
  omega
theorem w4_range (s : ByteArray) (i : Nat) : 0 ≤ w4 s i ∧ w4 s i < 4294967296 := by
  have h0 := w2_range s i
  have h1 := w2_range s (i + 2)
  unfold w4
  omega
theorem bacc2 (s : ByteArray) (a : Nat) (h : a + 2 ≤ s.size) : bacc (s.extract a (a + 2)) (s.extract a (a + 2)).size = w2 s a := by
  have h2 : (s.extract a (a + 2)).size = 2 := by rw [ByteArray.size_extract]; omega
  have e0 := bt_extract s a (a + 2) 0 (by omega) h
  have e1 := bt_extract s a (a + 2) 1 (by omega) h
  rw [h2]
  simp only [bacc]
  simp only [Nat.add_zero] at e0
  rw [e0, e1]
  unfold w2
  omega
theorem bacc4 (s : ByteArray) (a : Nat) (h : a + 4 ≤ s.size) : bacc (s.extract a (a + 4)) (s.extract a (a + 4)).size = w4 s a := by
  have h2 : (s.extract a (a + 4)).size = 4 := by rw [ByteArray.size_extract]; omega
  have e0 := bt_extract s a (a + 4) 0 (by omega) h
  have e1 := bt_extract s a (a + 4) 1 (by omega) h
  have e2 := bt_extract s a (a + 4) 2 (by omega) h
  have e3 := bt_extract s a (a + 4) 3 (by omega) h
  rw [h2]
  simp only [bacc]
  simp only [Nat.add_zero] at e0
  rw [e0, e1, e2, e3]
  unfold w4 w2
  have e4 : bt s ((a + 2 + 1 : Nat) : Int) = bt s ((a + 3 : Nat) : Int) := rfl
  rw [e4]
  omega
/-- Some bytes of a string, as numbers. -/
def cutL (s : ByteArray) (a n : Nat) : List Int := (List.range n).map fun j => bt s ((a + j : Nat) : Int)
theorem cutL_length (s : ByteArray) (a n : Nat) : (cutL s a n).length = n := by simp [cutL]
theorem cutL_str (s : ByteArray) (a n : Nat) (h : a + n ≤ s.size) : strOfNums (cutL s a n) = s.extract a (a + n) := by
  refine ba_ext _ _ (by rw [strOfNums_size, cutL_length, ByteArray.size_extract]; omega) (fun i hi => ?_)
  rw [strOfNums_size, cutL_length] at hi
  have hb := bt_range s ((a + i : Nat) : Int)
  rw [bt_nums (cutL s a n) i (bt s ((a + i : Nat) : Int)) (by simp [cutL, hi]) (by omega) (by omega), bt_extract s a (a + n) i (by omega) h]
theorem cut_app (s : ByteArray) (a b c : Nat) (h1 : a ≤ b) (h2 : b ≤ c) (h3 : c ≤ s.size) : s.extract a b ++ s.extract b c = s.extract a c := by
  have z1 : (s.extract a b).size = b - a := by rw [ByteArray.size_extract]; omega
  have z2 : (s.extract b c).size = c - b := by rw [ByteArray.size_extract]; omega
  have z3 : (s.extract a c).size = c - a := by rw [ByteArray.size_extract]; omega
  refine ba_ext _ _ (by rw [ByteArray.size_append]; omega) (fun i hi => ?_)
  rw [ByteArray.size_append] at hi
  by_cases hl : i < b - a
  · rw [bt_app_left _ _ i (by omega), bt_extract s a b i (by omega) (by omega), bt_extract s a c i (by omega) h3]
  · obtain ⟨j, rfl⟩ : ∃ j, i = (s.extract a b).size + j := ⟨i - (b - a), by omega⟩
    rw [bt_app_right _ _ j (by omega), bt_extract s b c j (by omega) h3, bt_extract s a c _ (by omega) h3]
    congr 2
    omega
theorem cut_whole (s : ByteArray) : s.extract 0 s.size = s := by
  refine ba_ext _ _ (by rw [ByteArray.size_extract]; omega) (fun i hi => ?_)
  rw [ByteArray.size_extract] at hi
  rw [bt_extract s 0 s.size i (by omega) (Nat.le_refl _), Nat.zero_add]
theorem hd_cut (s : ByteArray) (c : Int) (h0 : bt s 0 = 69) : ipv4_Build.hd (bt s 1) (w2 s 4) (w2 s 6) (bt s 8) (bt s 9) (w4 s 12) (w4 s 16) (w2 s 2) c = cutL s 0 10 ++ [c / 256 % 256, c % 256] ++ cutL s 12 8 := by
  have r := bt_range s
  have r2 := r 2
  have r3 := r 3
  have r4 := r 4
  have r5 := r 5
  have r6 := r 6
  have r7 := r 7
  have r12 := r 12
  have r13 := r 13
  have r14 := r 14
  have r15 := r 15
  have r16 := r 16
  have r17 := r 17
  have r18 := r 18
  have r19 := r 19
  clear r
  have e1 : cutL s 0 10 = [bt s 0, bt s 1, bt s 2, bt s 3, bt s 4, bt s 5, bt s 6, bt s 7, bt s 8, bt s 9] := rfl
  have e2 : cutL s 12 8 = [bt s 12, bt s 13, bt s 14, bt s 15, bt s 16, bt s 17, bt s 18, bt s 19] := rfl
  rw [e1, e2]
  unfold ipv4_Build.hd
  have w_2 : w2 s 2 = bt s 2 * 256 + bt s 3 := rfl
  have w_4 : w2 s 4 = bt s 4 * 256 + bt s 5 := rfl
  have w_6 : w2 s 6 = bt s 6 * 256 + bt s 7 := rfl
  have w_12 : w4 s 12 = (bt s 12 * 256 + bt s 13) * 65536 + (bt s 14 * 256 + bt s 15) := rfl
  have w_16 : w4 s 16 = (bt s 16 * 256 + bt s 17) * 65536 + (bt s 18 * 256 + bt s 19) := rfl
  rw [w_2, w_4, w_6, w_12, w_16, h0]
  simp only [List.cons_append, List.nil_append, List.cons.injEq, true_and, and_true]
  refine ⟨?_, ?_, ?_, ?_, ?_, ?_, ?_, ?_, ?_, ?_, ?_, ?_, ?_, ?_⟩ <;> omega
theorem hd_length (a0 a1 a2 a3 a4 a5 a6 n s : Int) : (ipv4_Build.hd a0 a1 a2 a3 a4 a5 a6 n s).length = 20 := rfl
def isum (a0 a1 a2 a3 a4 a5 a6 : Int) (d : ByteArray) : Int := cks (strOfNums (ipv4_Build.hd a0 a1 a2 a3 a4 a5 a6 (20 + d.size) 0))
def iok (a0 a1 a2 a3 a4 : Int) : Prop := 0 ≤ a0 ∧ a0 ≤ 255 ∧ 0 ≤ a3 ∧ a3 ≤ 255 ∧ 0 ≤ a4 ∧ a4 ≤ 255 ∧ 0 ≤ a1 ∧ a1 ≤ 65535 ∧ 0 ≤ a2 ∧ a2 ≤ 65535
instance (a0 a1 a2 a3 a4 : Int) : Decidable (iok a0 a1 a2 a3 a4) := by
  unfold iok
  exact inferInstance
def ibuilt (a0 a1 a2 a3 a4 a5 a6 : Int) (d : ByteArray) : ByteArray := strOfNums (ipv4_Build.hd a0 a1 a2 a3 a4 a5 a6 (20 + d.size) (isum a0 a1 a2 a3 a4 a5 a6 d)) ++ d
def ibv (a0 a1 a2 a3 a4 a5 a6 : Int) (d : ByteArray) : ByteArray × Int := if ¬ iok a0 a1 a2 a3 a4 then (⟨#[]⟩, 2) else if (d.size : Int) > 65515 then (⟨#[]⟩, 8) else (ibuilt a0 a1 a2 a3 a4 a5 a6 d, 0)
theorem ibuilt_size (a0 a1 a2 a3 a4 a5 a6 : Int) (d : ByteArray) : (ibuilt a0 a1 a2 a3 a4 a5 a6 d).size = 20 + d.size := by
  unfold ibuilt
  rw [ByteArray.size_append, strOfNums_size, hd_length]
theorem build_ev (a0 a1 a2 a3 a4 a5 a6 : Int) (d : ByteArray) : Ev (fun k => ipv4_Build.f k a0 a1 a2 a3 a4 a5 a6 d) (ibv a0 a1 a2 a3 a4 a5 a6 d) := by
  unfold ibv ipv4_Build.f
  by_cases h1 : iok a0 a1 a2 a3 a4
  rotate_left
  · rw [if_pos h1]
    exact ev_p h1 (Ev.now _)
  rw [if_neg (fun hh => hh h1)]
  refine ev_n (fun hh => hh h1) ?_
  by_cases h2 : (d.size : Int) > 65515
  · rw [if_pos h2]
    exact ev_p h2 (Ev.now _)
  rw [if_neg h2]
  refine ev_n h2 (Ev.bind (sum_ev _ (by rw [strOfNums_size, hd_length]; omega)) (Ev.now _))
theorem isum_range (a0 a1 a2 a3 a4 a5 a6 : Int) (d : ByteArray) : 0 ≤ isum a0 a1 a2 a3 a4 a5 a6 d ∧ isum a0 a1 a2 a3 a4 a5 a6 d ≤ 65535 := cks_range _
abbrev Hdr := Int × Int × Int × Int × Int × Int × Int × ByteArray × Int
def ibad (e : Int) : Hdr := (0, 0, 0, 0, 0, 0, 0, (⟨#[]⟩ : ByteArray), e)
def ipv (s : ByteArray) : Hdr :=
  if s.size < 20 then ibad 1 else if ¬ bt s 0 = 69 then ibad 3 else if w2 s 2 < 20 ∨ (s.size : Int) < w2 s 2 then ibad 1 else if ¬ (s.size : Int) = w2 s 2 then ibad 6 else
    if cks (s.extract 0 10 ++ (⟨#[0, 0]⟩ : ByteArray) ++ s.extract 12 20) = w2 s 10 then (bt s 1, w2 s 4, w2 s 6, bt s 8, bt s 9, w4 s 12, w4 s 16, s.extract 20 s.size, 0) else ibad 9
/-- A header that is built has the fields that it was built of. -/
theorem built_fields (a0 a1 a2 a3 a4 a5 a6 : Int) (d e : ByteArray) (h : iok a0 a1 a2 a3 a4) (h5 : 0 ≤ a5 ∧ a5 < 4294967296) (h6 : 0 ≤ a6 ∧ a6 < 4294967296) (hd : d.size ≤ 65515) :
    let t := ibuilt a0 a1 a2 a3 a4 a5 a6 d ++ e
    bt t 0 = 69 ∧ bt t 1 = a0 ∧ w2 t 2 = 20 + d.size ∧ w2 t 4 = a1 ∧ w2 t 6 = a2 ∧ bt t 8 = a3 ∧ bt t 9 = a4 ∧ w2 t 10 = isum a0 a1 a2 a3 a4 a5 a6 d ∧ w4 t 12 = a5 ∧ w4 t 16 = a6 := by
  intro t
  obtain ⟨b0, b1, b2, b3, b4, b5, b6, b7, b8, b9⟩ := h
  have hs := isum_range a0 a1 a2 a3 a4 a5 a6 d
  have hz := ibuilt_size a0 a1 a2 a3 a4 a5 a6 d
  have g : ∀ (i : Nat) (x : Int), (ipv4_Build.hd a0 a1 a2 a3 a4 a5 a6 (20 + d.size) (isum a0 a1 a2 a3 a4 a5 a6 d))[i]? = some x → 0 ≤ x → x < 256 → bt t (i : Int) = x := fun i x hx h0 h1 => by
    have hi : i < 20 := (List.getElem?_eq_some_iff.1 hx).1
    show bt (ibuilt a0 a1 a2 a3 a4 a5 a6 d ++ e) (i : Int) = x
    rw [bt_app_left _ _ i (by omega)]
    unfold ibuilt
    rw [bt_app_left _ _ i (by rw [strOfNums_size, hd_length]; omega)]
    exact bt_nums _ i x hx h0 h1
  have g0 := g 0 _ rfl (by omega) (by omega)
  have g1 := g 1 _ rfl (by omega) (by omega)
  have g2 := g 2 _ rfl (by omega) (by omega)
  have g3 := g 3 _ rfl (by omega) (by omega)
  have g4 := g 4 _ rfl (by omega) (by omega)
  have g5 := g 5 _ rfl (by omega) (by omega)
  have g6 := g 6 _ rfl (by omega) (by omega)
  have g7 := g 7 _ rfl (by omega) (by omega)
  have g8 := g 8 _ rfl (by omega) (by omega)
  have g9 := g 9 _ rfl (by omega) (by omega)
  have g10 := g 10 _ rfl (by omega) (by omega)
  have g11 := g 11 _ rfl (by omega) (by omega)
  have g12 := g 12 _ rfl (by omega) (by omega)
  have g13 := g 13 _ rfl (by omega) (by omega)
  have g14 := g 14 _ rfl (by omega) (by omega)
  have g15 := g 15 _ rfl (by omega) (by omega)
  have g16 := g 16 _ rfl (by omega) (by omega)
  have g17 := g 17 _ rfl (by omega) (by omega)
  have g18 := g 18 _ rfl (by omega) (by omega)
  have g19 := g 19 _ rfl (by omega) (by omega)
  clear g
  refine ⟨g0, g1, ?_, ?_, ?_, g8, g9, ?_, ?_, ?_⟩
  · show bt t ((2 : Nat) : Int) * 256 + bt t ((3 : Nat) : Int) = _
    rw [g2, g3]
    omega
  · show bt t ((4 : Nat) : Int) * 256 + bt t ((5 : Nat) : Int) = _
    rw [g4, g5]
    omega
  · show bt t ((6 : Nat) : Int) * 256 + bt t ((7 : Nat) : Int) = _
    rw [g6, g7]
    omega
  · show bt t ((10 : Nat) : Int) * 256 + bt t ((11 : Nat) : Int) = _
    rw [g10, g11]
    omega
  · show (bt t ((12 : Nat) : Int) * 256 + bt t ((13 : Nat) : Int)) * 65536 + (bt t ((14 : Nat) : Int) * 256 + bt t ((15 : Nat) : Int)) = _
    rw [g12, g13, g14, g15]
    omega
  · show (bt t ((16 : Nat) : Int) * 256 + bt t ((17 : Nat) : Int)) * 65536 + (bt t ((18 : Nat) : Int) * 256 + bt t ((19 : Nat) : Int)) = _
    rw [g16, g17, g18, g19]
    omega
theorem nosum (s : ByteArray) (h : 20 ≤ s.size) (h0 : bt s 0 = 69) :
    strOfNums (ipv4_Build.hd (bt s 1) (w2 s 4) (w2 s 6) (bt s 8) (bt s 9) (w4 s 12) (w4 s 16) (w2 s 2) 0) = s.extract 0 10 ++ (⟨#[0, 0]⟩ : ByteArray) ++ s.extract 12 20 := by
  rw [hd_cut s 0 h0, strOfNums_append, strOfNums_append, cutL_str s 0 10 (by omega), cutL_str s 12 8 (by omega)]
  rfl
theorem whole (s : ByteArray) (h : 20 ≤ s.size) (h0 : bt s 0 = 69) (c : Int) (hc : 0 ≤ c ∧ c ≤ 65535) :
    (strOfNums (ipv4_Build.hd (bt s 1) (w2 s 4) (w2 s 6) (bt s 8) (bt s 9) (w4 s 12) (w4 s 16) (w2 s 2) c) ++ s.extract 20 s.size = s) ↔ c = w2 s 10 := by
  rw [hd_cut s c h0, strOfNums_append, strOfNums_append, cutL_str s 0 10 (by omega), cutL_str s 12 8 (by omega)]
  constructor
  · intro hh
    have z0 : (s.extract 0 (0 + 10)).size = 10 := by rw [ByteArray.size_extract]; omega
    have zz : (s.extract 0 (0 + 10) ++ strOfNums [c / 256 % 256, c % 256]).size = 12 := by rw [ByteArray.size_append, z0, strOfNums_size]; rfl
    have e : ∀ (j : Nat) (x : Int), ([c / 256 % 256, c % 256] : List Int)[j]? = some x → 0 ≤ x → x < 256 → bt s ((10 + j : Nat) : Int) = x := fun j x hx hx0 hx1 => by
      have hj : j < 2 := (List.getElem?_eq_some_iff.1 hx).1
      rw [← hh, bt_app_left _ _ (10 + j) (by rw [ByteArray.size_append, zz]; omega), bt_app_left _ _ (10 + j) (by omega)]
      have := bt_app_right (s.extract 0 (0 + 10)) (strOfNums [c / 256 % 256, c % 256]) j (by rw [strOfNums_size]; exact hj)
      rw [z0] at this
      rw [this]
      exact bt_nums _ j x hx hx0 hx1
    have e0 := e 0 _ rfl (by omega) (by omega)
    have e1 := e 1 _ rfl (by omega) (by omega)
    show c = bt s ((10 : Nat) : Int) * 256 + bt s ((11 : Nat) : Int)
    rw [e0, e1]
    omega
  · intro hh
    have r0 := bt_range s ((10 : Nat) : Int)
    have r1 := bt_range s ((11 : Nat) : Int)
    have hw : c = bt s ((10 : Nat) : Int) * 256 + bt s ((11 : Nat) : Int) := hh
    have e : ([c / 256 % 256, c % 256] : List Int) = cutL s 10 2 := by
      show _ = [bt s ((10 : Nat) : Int), bt s ((11 : Nat) : Int)]
      rw [hw]
      simp only [List.cons.injEq, and_true]
      omega
    rw [e, cutL_str s 10 2 (by omega), cut_app s 0 (0 + 10) (10 + 2) (by omega) (by omega) (by omega), cut_app s 0 (10 + 2) (12 + 8) (by omega) (by omega) (by omega), cut_app s 0 (12 + 8) s.size (by omega) (by omega) (by omega), cut_whole]
/-- What is read, built again, is the bytes. -/
theorem read_built (s : ByteArray) (h : 20 ≤ s.size) (h0 : bt s 0 = 69) (hn : (s.size : Int) = w2 s 2) :
    ibv (bt s 1) (w2 s 4) (w2 s 6) (bt s 8) (bt s 9) (w4 s 12) (w4 s 16) (s.extract 20 s.size) =
      (strOfNums (ipv4_Build.hd (bt s 1) (w2 s 4) (w2 s 6) (bt s 8) (bt s 9) (w4 s 12) (w4 s 16) (w2 s 2) (cks (s.extract 0 10 ++ (⟨#[0, 0]⟩ : ByteArray) ++ s.extract 12 20))) ++ s.extract 20 s.size, 0) := by
  have hz : (s.extract 20 s.size).size = s.size - 20 := by rw [ByteArray.size_extract]; omega
  have r2 := w2_range s 2
  have r4 := w2_range s 4
  have r6 := w2_range s 6
  have r1 := bt_range s 1
  have r8 := bt_range s 8
  have r9 := bt_range s 9
  have en : (20 + ((s.extract 20 s.size).size : Int)) = w2 s 2 := by rw [hz]; omega
  unfold ibv
  rw [if_neg (fun hh => hh ⟨by omega, by omega, by omega, by omega, by omega, by omega, by omega, by omega, by omega, by omega⟩), if_neg (by omega)]
  unfold ibuilt isum
  rw [en, nosum s h h0]
theorem built_read (a0 a1 a2 a3 a4 a5 a6 : Int) (d : ByteArray) (h : iok a0 a1 a2 a3 a4) (h5 : 0 ≤ a5 ∧ a5 < 4294967296) (h6 : 0 ≤ a6 ∧ a6 < 4294967296) (hd : d.size ≤ 65515) :
    ipv (ibuilt a0 a1 a2 a3 a4 a5 a6 d) = (a0, a1, a2, a3, a4, a5, a6, d, 0) := by
  have hf := built_fields a0 a1 a2 a3 a4 a5 a6 d ⟨#[]⟩ h h5 h6 hd
  have ee : ibuilt a0 a1 a2 a3 a4 a5 a6 d ++ (⟨#[]⟩ : ByteArray) = ibuilt a0 a1 a2 a3 a4 a5 a6 d := ByteArray.append_empty
  simp only [ee] at hf
  obtain ⟨f0, f1, f2, f4, f6, f8, f9, f10, f12, f16⟩ := hf
  have hz := ibuilt_size a0 a1 a2 a3 a4 a5 a6 d
  have hx : (ibuilt a0 a1 a2 a3 a4 a5 a6 d).extract 20 (ibuilt a0 a1 a2 a3 a4 a5 a6 d).size = d := by
    refine ba_ext _ _ (by rw [ByteArray.size_extract]; omega) (fun i hi => ?_)
    rw [ByteArray.size_extract] at hi
    rw [bt_extract _ 20 _ i (by omega) (Nat.le_refl _)]
    unfold ibuilt
    have := bt_app_right (strOfNums (ipv4_Build.hd a0 a1 a2 a3 a4 a5 a6 (20 + d.size) (isum a0 a1 a2 a3 a4 a5 a6 d))) d i (by omega)
    rwa [strOfNums_size, hd_length] at this
  have hn := nosum (ibuilt a0 a1 a2 a3 a4 a5 a6 d) (by omega) f0
  rw [f1, f2, f4, f6, f8, f9, f12, f16] at hn
  unfold ipv
  rw [if_neg (by omega), if_neg (fun hh => hh f0), if_neg (by rw [f2, hz]; omega), if_neg (fun hh => hh (by rw [f2, hz]; omega)), ← hn, f10, show isum a0 a1 a2 a3 a4 a5 a6 d = cks (strOfNums (ipv4_Build.hd a0 a1 a2 a3 a4 a5 a6 (20 + d.size) 0)) from rfl, if_pos rfl, f1, f4, f6, f8, f9, f12, f16, hx]
theorem ibv_ok (a0 a1 a2 a3 a4 a5 a6 : Int) (d : ByteArray) (h : (ibv a0 a1 a2 a3 a4 a5 a6 d).2 = 0) : iok a0 a1 a2 a3 a4 ∧ d.size ≤ 65515 ∧ ibv a0 a1 a2 a3 a4 a5 a6 d = (ibuilt a0 a1 a2 a3 a4 a5 a6 d, 0) := by
  unfold ibv at h ⊢
  by_cases h1 : iok a0 a1 a2 a3 a4
  rotate_left
  · rw [if_pos h1] at h
    exact absurd h (by decide)
  rw [if_neg (fun hh => hh h1)] at h ⊢
  by_cases h2 : (d.size : Int) > 65515
  · rw [if_pos h2] at h
    exact absurd h (by decide)
  rw [if_neg h2] at h ⊢
  exact ⟨h1, by omega, rfl⟩
theorem ibv_bad (a0 a1 a2 a3 a4 a5 a6 : Int) (d : ByteArray) (h : (ibv a0 a1 a2 a3 a4 a5 a6 d).2 ≠ 0) : (ibv a0 a1 a2 a3 a4 a5 a6 d).1 = ⟨#[]⟩ := by
  unfold ibv at h ⊢
  by_cases h1 : iok a0 a1 a2 a3 a4
  rotate_left
  · rw [if_pos h1]
  rw [if_neg (fun hh => hh h1)] at h ⊢
  by_cases h2 : (d.size : Int) > 65515
  · rw [if_pos h2]
  rw [if_neg h2] at h
  exact absurd rfl h
theorem get_loop (s : ByteArray) (hs : s.size ≤ 4) (d : Nat) : ∀ i : Nat, s.size - i = d → i ≤ s.size → Ev (fun k => ipv4_get.l0 k s (bacc s i) (s.size : Int) i) (bacc s s.size) := by
  induction d with
  | zero =>
    intro i hd hi
    obtain rfl : i = s.size := by omega
    refine Ev.step (f := fun _ => some (bacc s s.size)) (fun k => ?_) (Ev.now _)
    simp only [ipv4_get.l0]
    rw [if_neg (by omega)]
  | succ d ih =>
    intro i hd hi
    have hr := bacc_range s i
    have hb := bt_range s (i : Int)
    have hp : (256 : Int) ^ i ≤ 16777216 := by
      have h6 : i = 0 ∨ i = 1 ∨ i = 2 ∨ i = 3 := by omega
      rcases h6 with rfl | rfl | rfl | rfl <;> decide
    refine Ev.step (fun k => ?_) (ih (i + 1) (by omega) (by omega))
    simp only [ipv4_get.l0]
    rw [if_pos (by omega), if_pos (by omega), if_pos (by omega), wrap_in ((i : Int) + 1) (by omega) (by omega), show bacc s i * 256 % 4294967296 = bacc s i * 256 by omega, show bt s (i : Int) % 4294967296 = bt s (i : Int) by omega]
    have := bits_join .u32 32 (by decide) (fun n h0 h1 => by rw [u32_eq]; omega) 8 (bacc s i * 256) (bt s (i : Int)) (by omega) (by omega) (by omega) hb.1 (by omega) (by omega)
    rw [this]
    rfl
theorem get_ev (s : ByteArray) (hs : s.size ≤ 4) : Ev (fun k => ipv4_get.f k s) (bacc s s.size) :=
  Ev.congr (fun k => by simp only [ipv4_get.f]; rfl) (get_loop s hs s.size 0 rfl (by omega))
theorem get2_ev (s : ByteArray) (a : Nat) (h : a + 2 ≤ s.size) : Ev (fun k => ipv4_get.f k (s.extract a (a + 2))) (w2 s a) := by
  have := get_ev (s.extract a (a + 2)) (by rw [ByteArray.size_extract]; omega)
  rwa [bacc2 s a h] at this
theorem get4_ev (s : ByteArray) (a : Nat) (h : a + 4 ≤ s.size) : Ev (fun k => ipv4_get.f k (s.extract a (a + 4))) (w4 s a) := by
  have := get_ev (s.extract a (a + 4)) (by rw [ByteArray.size_extract]; omega)
  rwa [bacc4 s a h] at this
theorem parse_ev (s : ByteArray) : Ev (fun k => ipv4_Parse.f k s) (ipv s) := by
  unfold ipv ipv4_Parse.f
  by_cases h0 : s.size < 20
  · rw [if_pos h0]
    exact ev_p h0 (Ev.now _)
  rw [if_neg h0]
  refine ev_n h0 ?_
  by_cases h1 : bt s 0 = 69
  rotate_left
  · rw [if_pos h1]
    exact ev_p h1 (Ev.now _)
  rw [if_neg (fun hh => hh h1)]
  have r2 := w2_range s 2
  have wr : ∀ i, wrap64 (w2 s i) = w2 s i := fun i => by
    have := w2_range s i
    exact wrap_in _ (by omega) (by omega)
  have wb : ∀ i : Int, wrap64 (bt s i) = bt s i := fun i => by
    have := bt_range s i
    exact wrap_in _ (by omega) (by omega)
  refine ev_n (fun hh => hh h1) (Ev.bind (get2_ev s 2 (by omega)) ?_)
  simp only [wr]
  by_cases h2 : w2 s 2 < 20 ∨ (s.size : Int) < w2 s 2
  · rw [if_pos h2]
    exact ev_p h2 (Ev.now _)
  rw [if_neg h2]
  refine ev_n h2 ?_
  by_cases h3 : (s.size : Int) = w2 s 2
  rotate_left
  · rw [if_pos h3]
    exact ev_p h3 (Ev.now _)
  rw [if_neg (fun hh => hh h3)]
  refine ev_n (fun hh => hh h3) (Ev.bind (get2_ev s 4 (by omega)) (Ev.bind (get2_ev s 6 (by omega)) (Ev.bind (get4_ev s 12 (by omega)) (Ev.bind (get4_ev s 16 (by omega)) (Ev.bind (sum_ev _ ?_) (Ev.bind (get2_ev s 10 (by omega)) ?_))))))
  · simp only [ByteArray.size_append, ByteArray.size_extract]
    have : (⟨#[0, 0]⟩ : ByteArray).size = 2 := rfl
    omega
  simp only [wr, wb]
  by_cases h4 : cks (s.extract 0 10 ++ (⟨#[0, 0]⟩ : ByteArray) ++ s.extract 12 20) = w2 s 10
  · refine ev_p h4 ?_
    rw [if_pos h4]
    exact Ev.now _
  · refine ev_n h4 ?_
    rw [if_neg h4]
    exact Ev.now _
theorem empty_tl : (⟨#[]⟩ : ByteArray).toList = ([] : List UInt8) := by rw [ByteArray.toList_eq]
theorem works_ev : Ev (fun k => vizardlaw02_works.f k) true := by
  have e1 : ibv 0 0 0 64 17 167772161 167772162 (⟨#[97, 98]⟩ : ByteArray) = ((⟨#[69, 0, 0, 22, 0, 0, 0, 0, 64, 17, 102, 213, 10, 0, 0, 1, 10, 0, 0, 2, 97, 98]⟩ : ByteArray), 0) := by decide +kernel
  have e4 : (ipv ((⟨#[69, 0, 0, 22, 0, 0, 0, 0, 64, 17, 102, 213, 10, 0, 0, 1, 10, 0, 0, 2, 97, 98]⟩ : ByteArray) ++ (⟨#[120]⟩ : ByteArray))).2.2.2.2.2.2.2.2 = 6 := by decide +kernel
  have e3 : cks (⟨#[0, 1, 242, 3, 244, 245, 246, 247]⟩ : ByteArray) = 8717 := by decide +kernel
  unfold vizardlaw02_works.f
  refine Ev.bind (build_ev _ _ _ _ _ _ _ _) ?_
  rw [e1]
  refine ev_p (by decide) (Ev.bind (parse_ev _) ?_)
  refine ev_p rfl ?_
  rw [show (⟨#[69, 0, 0, 22, 0, 0, 0, 0, 64, 17, 102, 213, 10, 0, 0, 1, 10, 0, 0, 2, 97, 98]⟩ : ByteArray).toList = ([69, 0, 0, 22, 0, 0, 0, 0, 64, 17, 102, 213, 10, 0, 0, 1, 10, 0, 0, 2, 97, 98] : List UInt8) by rw [ByteArray.toList_eq]]
  refine ev_p rfl (ev_p e4 (Ev.bind (sum_ev _ (by decide)) ?_))
  rw [e3]
  exact Ev.now _
theorem ipv_bad (s : ByteArray) (h : (ipv s).2.2.2.2.2.2.2.2 ≠ 0) : ∃ e, ipv s = ibad e := by
  unfold ipv at h ⊢
  repeat' split
  all_goals first | exact ⟨_, rfl⟩ | skip
  rename_i h1 h2 h3 h4 h5
  rw [if_neg h1, if_neg h2, if_neg h3, if_neg h4, if_pos h5] at h
  exact absurd rfl h
theorem ipv_good (s : ByteArray) (h : (ipv s).2.2.2.2.2.2.2.2 = 0) : 20 ≤ s.size ∧ bt s 0 = 69 ∧ (s.size : Int) = w2 s 2 ∧ cks (s.extract 0 10 ++ (⟨#[0, 0]⟩ : ByteArray) ++ s.extract 12 20) = w2 s 10 ∧
    ipv s = (bt s 1, w2 s 4, w2 s 6, bt s 8, bt s 9, w4 s 12, w4 s 16, s.extract 20 s.size, 0) := by
  unfold ipv at h ⊢
  by_cases h0 : s.size < 20
  · rw [if_pos h0] at h
    exact absurd h (by decide)
  rw [if_neg h0] at h ⊢
  by_cases h1 : bt s 0 = 69
  rotate_left
  · rw [if_pos h1] at h
    exact absurd h (by decide)
  rw [if_neg (fun hh => hh h1)] at h ⊢
  by_cases h2 : w2 s 2 < 20 ∨ (s.size : Int) < w2 s 2
  · rw [if_pos h2] at h
    exact absurd h (by decide)
  rw [if_neg h2] at h ⊢
  by_cases h3 : (s.size : Int) = w2 s 2
  rotate_left
  · rw [if_pos h3] at h
    exact absurd h (by decide)
  rw [if_neg (fun hh => hh h3)] at h ⊢
  by_cases h4 : cks (s.extract 0 10 ++ (⟨#[0, 0]⟩ : ByteArray) ++ s.extract 12 20) = w2 s 10
  rotate_left
  · rw [if_neg h4] at h
    exact absurd h (by decide)
  rw [if_pos h4]
  exact ⟨by omega, h1, h3, h4, rfl⟩
theorem read_back (s : ByteArray) (h : (ipv s).2.2.2.2.2.2.2.2 = 0) : ibv (ipv s).1 (ipv s).2.1 (ipv s).2.2.1 (ipv s).2.2.2.1 (ipv s).2.2.2.2.1 (ipv s).2.2.2.2.2.1 (ipv s).2.2.2.2.2.2.1 (ipv s).2.2.2.2.2.2.2.1 = (s, 0) := by
  obtain ⟨g1, g2, g3, g4, g5⟩ := ipv_good s h
  rw [g5]
  show ibv (bt s 1) (w2 s 4) (w2 s 6) (bt s 8) (bt s 9) (w4 s 12) (w4 s 16) (s.extract 20 s.size) = (s, 0)
  rw [read_built s g1 g2 g3, (whole s g1 g2 _ (cks_range _)).2 g4]
theorem hd_words (a0 a1 a2 a3 a4 a5 a6 n s : Int) (h : iok a0 a1 a2 a3 a4) :
    strOfNums (ipv4_Build.hd a0 a1 a2 a3 a4 a5 a6 n s) = strOfNums (be (69 * 256 + a0) 2) ++ (strOfNums (be n 2) ++ (strOfNums (be a1 2) ++ (strOfNums (be a2 2) ++ (strOfNums (be (a3 * 256 + a4) 2) ++ (strOfNums (be s 2) ++ (strOfNums (be (a5 / 65536) 2) ++ (strOfNums (be (a5 % 65536) 2) ++ (strOfNums (be (a6 / 65536) 2) ++ strOfNums (be (a6 % 65536) 2))))))))) := by
  obtain ⟨b0, b1, b2, b3, b4, b5, b6, b7, b8, b9⟩ := h
  simp only [← strOfNums_append]
  congr 1
  unfold ipv4_Build.hd
  simp only [be, List.nil_append, List.cons_append, List.append_nil, List.cons.injEq, and_true, true_and]
  omega
theorem hd_wsum (a0 a1 a2 a3 a4 a5 a6 n s : Int) (h : iok a0 a1 a2 a3 a4) :
    wsum (strOfNums (ipv4_Build.hd a0 a1 a2 a3 a4 a5 a6 n s)) (strOfNums (ipv4_Build.hd a0 a1 a2 a3 a4 a5 a6 n s)).size =
      (69 * 256 + a0) % 65536 + (n % 65536 + (a1 % 65536 + (a2 % 65536 + ((a3 * 256 + a4) % 65536 + (s % 65536 + (a5 / 65536 % 65536 + (a5 % 65536 % 65536 + (a6 / 65536 % 65536 + a6 % 65536 % 65536)))))))) := by
  rw [hd_words _ _ _ _ _ _ _ _ _ h]
  simp only [wsum_be2_app, wsum_be2]
theorem built_sum (a0 a1 a2 a3 a4 a5 a6 : Int) (d : ByteArray) (h : iok a0 a1 a2 a3 a4) : cks ((ibuilt a0 a1 a2 a3 a4 a5 a6 d).extract 0 20) = 0 := by
  have hx : (ibuilt a0 a1 a2 a3 a4 a5 a6 d).extract 0 20 = strOfNums (ipv4_Build.hd a0 a1 a2 a3 a4 a5 a6 (20 + d.size) (isum a0 a1 a2 a3 a4 a5 a6 d)) := by
    have hz := ibuilt_size a0 a1 a2 a3 a4 a5 a6 d
    refine ba_ext _ _ (by rw [ByteArray.size_extract, strOfNums_size, hd_length]; omega) (fun i hi => ?_)
    rw [ByteArray.size_extract] at hi
    rw [bt_extract _ 0 20 i (by omega) (by omega), Nat.zero_add]
    unfold ibuilt
    rw [bt_app_left _ _ i (by rw [strOfNums_size, hd_length]; omega)]
  rw [hx]
  have hs := isum_range a0 a1 a2 a3 a4 a5 a6 d
  have hi : isum a0 a1 a2 a3 a4 a5 a6 d = 65535 - fold (wsum (strOfNums (ipv4_Build.hd a0 a1 a2 a3 a4 a5 a6 (20 + d.size) 0)) (strOfNums (ipv4_Build.hd a0 a1 a2 a3 a4 a5 a6 (20 + d.size) 0)).size) := rfl
  have hw := wsum_range (strOfNums (ipv4_Build.hd a0 a1 a2 a3 a4 a5 a6 (20 + d.size) 0)) (strOfNums (ipv4_Build.hd a0 a1 a2 a3 a4 a5 a6 (20 + d.size) 0)).size
  have e0 := hd_wsum a0 a1 a2 a3 a4 a5 a6 (20 + d.size) 0 h
  have e1 := hd_wsum a0 a1 a2 a3 a4 a5 a6 (20 + d.size) (isum a0 a1 a2 a3 a4 a5 a6 d) h
  obtain ⟨b0, b1, b2, b3, b4, b5, b6, b7, b8, b9⟩ := h
  unfold cks
  generalize wsum (strOfNums (ipv4_Build.hd a0 a1 a2 a3 a4 a5 a6 (20 + d.size) 0)) (strOfNums (ipv4_Build.hd a0 a1 a2 a3 a4 a5 a6 (20 + d.size) 0)).size = T0 at *
  generalize wsum (strOfNums (ipv4_Build.hd a0 a1 a2 a3 a4 a5 a6 (20 + d.size) (isum a0 a1 a2 a3 a4 a5 a6 d))) (strOfNums (ipv4_Build.hd a0 a1 a2 a3 a4 a5 a6 (20 + d.size) (isum a0 a1 a2 a3 a4 a5 a6 d))).size = T1 at *
  have hT : T1 = T0 + isum a0 a1 a2 a3 a4 a5 a6 d := by omega
  have hp : 17664 ≤ T0 := by omega
  rw [hT, hi]
  clear e0 e1 hT hs
  unfold fold
  rw [if_neg (show ¬ T0 = 0 by omega), if_neg (by omega)]
  omega
/-! ### A byte that is turned -/
def toldStr (s : ByteArray) (K : Nat) (y : Int) : ByteArray := strOfNums ((bytesOf s).set K (Go.bits .xor .u8 (bt s (K : Int)) y))
theorem xor_nat (a b : Nat) (ha : a < 256) (hb : b < 256) : Go.bits .xor .u8 (a : Int) (b : Int) = ((a ^^^ b : Nat) : Int) := by
  have hx : a ^^^ b < 2 ^ 8 := Nat.xor_lt_two_pow ha hb
  have h1 : (BitVec.ofInt 8 (a : Int)).toNat = a := by
    rw [BitVec.ofInt_natCast, BitVec.toNat_ofNat]; exact Nat.mod_eq_of_lt ha
  have h2 : (BitVec.ofInt 8 (b : Int)).toNat = b := by
    rw [BitVec.ofInt_natCast, BitVec.toNat_ofNat]; exact Nat.mod_eq_of_lt hb
  show IntKind.u8.wrap ((BitVec.ofInt 8 (a : Int) ^^^ BitVec.ofInt 8 (b : Int)).toNat : Int) = _
  rw [BitVec.toNat_xor, h1, h2, show IntKind.u8.wrap ((a ^^^ b : Nat) : Int) = ((a ^^^ b : Nat) : Int) % 256 by simp [IntKind.wrap, IntKind.bits, IntKind.signed]]
  omega
theorem xor_turn (x y : Int) (hx0 : 0 ≤ x) (hx1 : x ≤ 255) (hy0 : 0 ≤ y) (hy1 : y ≤ 255) (hy : y ≠ 0) : 0 ≤ Go.bits .xor .u8 x y ∧ Go.bits .xor .u8 x y ≤ 255 ∧ Go.bits .xor .u8 x y ≠ x := by
  obtain ⟨a, rfl⟩ := Int.eq_ofNat_of_zero_le hx0
  obtain ⟨b, rfl⟩ := Int.eq_ofNat_of_zero_le hy0
  have hx : a ^^^ b < 2 ^ 8 := Nat.xor_lt_two_pow (by omega) (by omega)
  rw [xor_nat a b (by omega) (by omega)]
  refine ⟨by omega, by omega, fun e => hy ?_⟩
  have e2 : a ^^^ b = a := by omega
  have e3 : a ^^^ (a ^^^ b) = a ^^^ a := by rw [e2]
  rw [← Nat.xor_assoc, Nat.xor_self, Nat.zero_xor] at e3
  omega
theorem bytesOf_get (s : ByteArray) (i : Nat) (h : i < s.size) : (bytesOf s)[i]? = some (bt s (i : Int)) := by
  have h' : i < s.data.toList.length := by rw [data_length]; exact h
  simp only [bytesOf, List.getElem?_map, List.getElem?_eq_getElem h', Option.map_some, bt, Int.toNat_natCast, dif_pos h]
  rfl
theorem told_size (s : ByteArray) (K : Nat) (y : Int) : (toldStr s K y).size = s.size := by
  unfold toldStr
  rw [strOfNums_size, List.length_set, bytesOf_length]
theorem told_bt (s : ByteArray) (K : Nat) (y : Int) (hy0 : 0 ≤ y) (hy1 : y ≤ 255) (hy : y ≠ 0) (i : Nat) (h : i < s.size) : bt (toldStr s K y) (i : Int) = if i = K then Go.bits .xor .u8 (bt s (K : Int)) y else bt s (i : Int) := by
  have hb := bt_range s (i : Int)
  have hk := bt_range s (K : Int)
  have hx := xor_turn (bt s (K : Int)) y hk.1 hk.2 hy0 hy1 hy
  unfold toldStr
  by_cases e : i = K
  · subst e
    rw [if_pos rfl]
    exact bt_nums _ i _ (by rw [List.getElem?_set_self (by rw [bytesOf_length]; exact h)]) hx.1 (by omega)
  · rw [if_neg e]
    exact bt_nums _ i _ (by rw [List.getElem?_set_ne (fun h => e h.symm), bytesOf_get s i h]) hb.1 (by omega)
def iwords (s : ByteArray) : Int := (69 * 256 + bt s 1) % 65536 + (w2 s 2 % 65536 + (w2 s 4 % 65536 + (w2 s 6 % 65536 + ((bt s 8 * 256 + bt s 9) % 65536 + (0 % 65536 + (w4 s 12 / 65536 % 65536 + (w4 s 12 % 65536 % 65536 + (w4 s 16 / 65536 % 65536 + w4 s 16 % 65536 % 65536))))))))
theorem iok_of (s : ByteArray) : iok (bt s 1) (w2 s 4) (w2 s 6) (bt s 8) (bt s 9) := by
  have r1 := bt_range s 1
  have r8 := bt_range s 8
  have r9 := bt_range s 9
  have r4 := w2_range s 4
  have r6 := w2_range s 6
  exact ⟨by omega, by omega, by omega, by omega, by omega, by omega, by omega, by omega, by omega, by omega⟩
theorem nosum_words (s : ByteArray) (h : 20 ≤ s.size) (h0 : bt s 0 = 69) : cks (s.extract 0 10 ++ (⟨#[0, 0]⟩ : ByteArray) ++ s.extract 12 20) = 65535 - fold (iwords s) := by
  rw [← nosum s h h0]
  unfold cks
  rw [hd_wsum _ _ _ _ _ _ _ _ _ (iok_of s)]
  rfl
theorem iwords_lin (s : ByteArray) : iwords s = 17664 + bt s 1 + w2 s 2 + (bt s 4 * 256 + bt s 5) + (bt s 6 * 256 + bt s 7) + (bt s 8 * 256 + bt s 9) + (bt s 12 * 256 + bt s 13) + (bt s 14 * 256 + bt s 15) + (bt s 16 * 256 + bt s 17) + (bt s 18 * 256 + bt s 19) := by
  have r := bt_range s
  have r1 := r 1
  have r4 := r 4
  have r5 := r 5
  have r6 := r 6
  have r7 := r 7
  have r8 := r 8
  have r9 := r 9
  have r12 := r 12
  have r13 := r 13
  have r14 := r 14
  have r15 := r 15
  have r16 := r 16
  have r17 := r 17
  have r18 := r 18
  have r19 := r 19
  have q2 := w2_range s 2
  clear r
  have w_4 : w2 s 4 = bt s 4 * 256 + bt s 5 := rfl
  have w_6 : w2 s 6 = bt s 6 * 256 + bt s 7 := rfl
  have w_12 : w4 s 12 = (bt s 12 * 256 + bt s 13) * 65536 + (bt s 14 * 256 + bt s 15) := rfl
  have w_16 : w4 s 16 = (bt s 16 * 256 + bt s 17) * 65536 + (bt s 18 * 256 + bt s 19) := rfl
  unfold iwords
  rw [w_4, w_6, w_12, w_16]
  omega
theorem told_fold (A B c c' : Int) (hs : 65535 - fold A = c) (hh : 65535 - fold B = c') (hA : 0 < A) (hB : 0 < B) (h : (B = A ∧ c' ≠ c) ∨ (c' = c ∧ B ≠ A ∧ -65280 ≤ B - A ∧ B - A ≤ 65280)) : False := by
  unfold fold at hs hh
  rw [if_neg (by omega)] at hs hh
  omega
theorem told_ipv (t : ByteArray) (K : Nat) (y : Int) (hy0 : 0 ≤ y) (hy1 : y ≤ 255) (hy : y ≠ 0) (h20 : 20 ≤ t.size) (h0 : bt t 0 = 69) (hn : (t.size : Int) = w2 t 2) (hs : cks (t.extract 0 10 ++ (⟨#[0, 0]⟩ : ByteArray) ++ t.extract 12 20) = w2 t 10)
    (hK : K < 20) (k0 : K ≠ 0) (k2 : K ≠ 2) (k3 : K ≠ 3) : ipv (toldStr t K y) = ibad 9 := by
  have hz := told_size t K y
  have hb := told_bt t K y hy0 hy1 hy
  have hk := bt_range t (K : Int)
  have hx := xor_turn (bt t (K : Int)) y hk.1 hk.2 hy0 hy1 hy
  generalize Go.bits .xor .u8 (bt t (K : Int)) y = E at hb hx
  generalize toldStr t K y = T at hz hb
  have b0 := hb 0 (by omega)
  have b2 := hb 2 (by omega)
  have b3 := hb 3 (by omega)
  rw [if_neg (by omega)] at b0 b2 b3
  have e2 : w2 T 2 = w2 t 2 := by
    show bt T ((2 : Nat) : Int) * 256 + bt T ((3 : Nat) : Int) = bt t ((2 : Nat) : Int) * 256 + bt t ((3 : Nat) : Int)
    rw [b2, b3]
  unfold ipv
  rw [if_neg (by omega), if_neg (fun hh => hh (b0.trans h0)), if_neg (by rw [e2]; omega), if_neg (fun hh => hh (by rw [e2]; omega)), if_neg ?_]
  rw [nosum_words T (by omega) (b0.trans h0)]
  rw [nosum_words t h20 h0] at hs
  have b1 := hb 1 (by omega)
  have b4 := hb 4 (by omega)
  have b5 := hb 5 (by omega)
  have b6 := hb 6 (by omega)
  have b7 := hb 7 (by omega)
  have b8 := hb 8 (by omega)
  have b9 := hb 9 (by omega)
  have b10 := hb 10 (by omega)
  have b11 := hb 11 (by omega)
  have b12 := hb 12 (by omega)
  have b13 := hb 13 (by omega)
  have b14 := hb 14 (by omega)
  have b15 := hb 15 (by omega)
  have b16 := hb 16 (by omega)
  have b17 := hb 17 (by omega)
  have b18 := hb 18 (by omega)
  have b19 := hb 19 (by omega)
  have r := bt_range t
  have r1 := r 1
  have r4 := r 4
  have r5 := r 5
  have r6 := r 6
  have r7 := r 7
  have r8 := r 8
  have r9 := r 9
  have r10 := r 10
  have r11 := r 11
  have r12 := r 12
  have r13 := r 13
  have r14 := r 14
  have r15 := r 15
  have r16 := r 16
  have r17 := r 17
  have r18 := r 18
  have r19 := r 19
  have q2 := w2_range t 2
  clear r hb
  have fs : ∀ s : ByteArray, w2 s 10 = bt s 10 * 256 + bt s 11 := fun s => rfl
  rw [iwords_lin, fs] at hs
  rw [iwords_lin, fs, e2]
  have c1 : bt T 1 = if 1 = K then E else bt t 1 := b1
  have c4 : bt T 4 = if 4 = K then E else bt t 4 := b4
  have c5 : bt T 5 = if 5 = K then E else bt t 5 := b5
  have c6 : bt T 6 = if 6 = K then E else bt t 6 := b6
  have c7 : bt T 7 = if 7 = K then E else bt t 7 := b7
  have c8 : bt T 8 = if 8 = K then E else bt t 8 := b8
  have c9 : bt T 9 = if 9 = K then E else bt t 9 := b9
  have c10 : bt T 10 = if 10 = K then E else bt t 10 := b10
  have c11 : bt T 11 = if 11 = K then E else bt t 11 := b11
  have c12 : bt T 12 = if 12 = K then E else bt t 12 := b12
  have c13 : bt T 13 = if 13 = K then E else bt t 13 := b13
  have c14 : bt T 14 = if 14 = K then E else bt t 14 := b14
  have c15 : bt T 15 = if 15 = K then E else bt t 15 := b15
  have c16 : bt T 16 = if 16 = K then E else bt t 16 := b16
  have c17 : bt T 17 = if 17 = K then E else bt t 17 := b17
  have c18 : bt T 18 = if 18 = K then E else bt t 18 := b18
  have c19 : bt T 19 = if 19 = K then E else bt t 19 := b19
  clear b0 b1 b2 b3 b4 b5 b6 b7 b8 b9 b10 b11 b12 b13 b14 b15 b16 b17 b18 b19 fs
  rw [c1, c4, c5, c6, c7, c8, c9, c10, c11, c12, c13, c14, c15, c16, c17, c18, c19]
  clear c1 c4 c5 c6 c7 c8 c9 c10 c11 c12 c13 c14 c15 c16 c17 c18 c19
  have hc : K = 1 ∨ K = 4 ∨ K = 5 ∨ K = 6 ∨ K = 7 ∨ K = 8 ∨ K = 9 ∨ K = 10 ∨ K = 11 ∨ K = 12 ∨ K = 13 ∨ K = 14 ∨ K = 15 ∨ K = 16 ∨ K = 17 ∨ K = 18 ∨ K = 19 := by omega
  intro hh
  rcases hc with rfl | rfl | rfl | rfl | rfl | rfl | rfl | rfl | rfl | rfl | rfl | rfl | rfl | rfl | rfl | rfl | rfl
  all_goals
    simp only [reduceIte, Nat.reduceEqDiff] at hh
    simp only [Int.cast_ofNat_Int] at hx hk
    exact told_fold _ _ _ _ hs hh (by omega) (by omega) (by omega)

theorem u32_of {x : Int} (h : (Lit.int .u32 x).wf = true) : 0 ≤ x ∧ x < 4294967296 := by
  have h' : IntKind.u32.min ≤ x ∧ x ≤ IntKind.u32.max := by simpa [Lit.wf] using h
  have e0 : IntKind.u32.min = 0 := rfl
  have e1 : IntKind.u32.max = 4294967295 := rfl
  omega
theorem u8_of {x : Int} (h : (Lit.int .u8 x).wf = true) : 0 ≤ x ∧ x ≤ 255 := by
  have h' : IntKind.u8.min ≤ x ∧ x ≤ IntKind.u8.max := by simpa [Lit.wf] using h
  have e0 : IntKind.u8.min = 0 := rfl
  have e1 : IntKind.u8.max = 255 := rfl
  omega
theorem told_built (a0 a1 a2 a3 a4 a5 a6 : Int) (d : ByteArray) (h5 : 0 ≤ a5 ∧ a5 < 4294967296) (h6 : 0 ≤ a6 ∧ a6 < 4294967296) :
    (ibv a0 a1 a2 a3 a4 a5 a6 d).2 = 0 → 20 ≤ (ibv a0 a1 a2 a3 a4 a5 a6 d).1.size ∧ (ibv a0 a1 a2 a3 a4 a5 a6 d).1.size ≤ 65535 ∧ bt (ibv a0 a1 a2 a3 a4 a5 a6 d).1 0 = 69 ∧ ((ibv a0 a1 a2 a3 a4 a5 a6 d).1.size : Int) = w2 (ibv a0 a1 a2 a3 a4 a5 a6 d).1 2 ∧
      cks ((ibv a0 a1 a2 a3 a4 a5 a6 d).1.extract 0 10 ++ (⟨#[0, 0]⟩ : ByteArray) ++ (ibv a0 a1 a2 a3 a4 a5 a6 d).1.extract 12 20) = w2 (ibv a0 a1 a2 a3 a4 a5 a6 d).1 10 := by
  intro h
  unfold ibv at h ⊢
  by_cases h1 : iok a0 a1 a2 a3 a4
  rotate_left
  · rw [if_pos h1] at h; cases h
  rw [if_neg (fun hh => hh h1)] at h ⊢
  by_cases h2 : (d.size : Int) > 65515
  · rw [if_pos h2] at h; cases h
  rw [if_neg h2]
  have hg := ipv_good _ (show (ipv (ibuilt a0 a1 a2 a3 a4 a5 a6 d)).2.2.2.2.2.2.2.2 = 0 by rw [built_read _ _ _ _ _ _ _ _ h1 h5 h6 (by omega)])
  have hz := ibuilt_size a0 a1 a2 a3 a4 a5 a6 d
  exact ⟨hg.1, by show (ibuilt a0 a1 a2 a3 a4 a5 a6 d).size ≤ 65535; omega, hg.2.1, hg.2.2.1, hg.2.2.2.1⟩

end Go.Proofs.Ytnmijielhmkggaa.Pure
