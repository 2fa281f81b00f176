/- The pure law UdpBuilds -/
import Derived.Test.YtmgepidjeddapaaGoodUdpBuilds
namespace Go.Proofs.Ytmgepidjeddapaa.Pure
open Go.RowKit Go.Proofs.Ytmgepidjeddapaa.PUdpBuilds Go.Proofs.YtmgepidjeddapaaW.PrintWords Go.Proofs.YtmgepidjeddapaaW.PrintLast Go.Proofs.Ytmgepidjeddapaa.Opening
set_option linter.unusedVariables false
set_option linter.unusedSimpArgs false
theorem wrap_in (x : Int) (h0 : -9223372036854775808 ≤ x) (h1 : x ≤ 9223372036854775807) : wrap64 x = x := by
  unfold wrap64
  omega
theorem mx_eq (a b : Int) : mx a b = if a < b then b else a := rfl
theorem mn_eq (a b : Int) : mn a b = if b < a then b else a := rfl
theorem u64_eq (n : Int) : IntKind.u64.wrap n = n % 18446744073709551616 := by simp [IntKind.wrap, IntKind.bits, IntKind.signed]
theorem u64_range (n : Int) : 0 ≤ IntKind.u64.wrap n ∧ IntKind.u64.wrap n < 18446744073709551616 := by
  rw [u64_eq]
  omega
theorem u32_eq (n : Int) : IntKind.u32.wrap n = n % 4294967296 := by simp [IntKind.wrap, IntKind.bits, IntKind.signed]
theorem ev_p {α : Type} {c : Prop} [Decidable c] {f g : Nat → Option α} {v : α} (h : c) (e : Ev f v) : Ev (fun k => if c then f k else g k) v := Ev.congr (fun k => if_pos h) e
theorem ev_n {α : Type} {c : Prop} [Decidable c] {f g : Nat → Option α} {v : α} (h : ¬ c) (e : Ev g v) : Ev (fun k => if c then f k else g k) v := Ev.congr (fun k => if_neg h) e
/-! ### Numbers as bytes -/
/-- A number's last k bytes, the highest first. -/
def be : Int → Nat → List Int
  | _, 0 => []
  | n, k + 1 => be (n / 256) k ++ [n % 256]
theorem be_length : ∀ (k : Nat) (n : Int), (be n k).length = k
  | 0, _ => rfl
  | k + 1, n => by simp [be, be_length k]
theorem be_get : ∀ (k : Nat) (n : Int) (j : Nat), j < k → (be n k)[j]? = some (n / 256 ^ (k - 1 - j) % 256)
  | 0, _, j, h => by omega
  | k + 1, n, j, h => by
    simp only [be]
    by_cases hj : j < k
    · rw [List.getElem?_append_left (by rw [be_length]; exact hj), be_get k (n / 256) j hj]
      congr 1
      rw [Int.ediv_ediv_of_nonneg (by omega)]
      congr 1
      rw [show k + 1 - 1 - j = (k - 1 - j) + 1 by omega, Int.pow_succ, Int.mul_comm]
    · obtain rfl : j = k := by omega
      rw [List.getElem?_append_right (by rw [be_length]; omega), be_length]
      simp
theorem be_range (k : Nat) (n : Int) (x : Int) (h : x ∈ be n k) : 0 ≤ x ∧ x < 256 := by
  obtain ⟨j, hj⟩ := List.getElem?_of_mem h
  have hl : j < k := by
    have := (List.getElem?_eq_some_iff.1 hj).1
    rwa [be_length] at this
  rw [be_get k n j hl] at hj
  have := Option.some.inj hj
  omega
theorem strOfNums_append (a b : List Int) : strOfNums (a ++ b) = strOfNums a ++ strOfNums b := by
  apply ByteArray.ext
  simp [strOfNums]
theorem bytes_r : ∀ (K : Nat) (n : Int), 0 ≤ n → n < 9223372036854775808 → K ≤ 8 → Ev (fun k => vizardref01_Bytes.f k n K) (strOfNums (be n K))
  | 0, n, _, _, _ => by
    refine Ev.step (f := fun _ => some (⟨#[]⟩ : ByteArray)) (fun k => ?_) (Ev.now _)
    simp [vizardref01_Bytes.f]
  | K + 1, n, h0, h1, hK => by
    have e1 : Int.tdiv n 256 = n / 256 := Int.tdiv_eq_ediv_of_nonneg h0
    have e2 : Int.tmod n 256 = n % 256 := Int.tmod_eq_emod_of_nonneg h0
    refine Ev.step (f := fun k => (vizardref01_Bytes.f k (n / 256) K).bind fun t111 => ((some (([n % 256] : List Int) : List Int)).bind fun y112 => (if t111.size + (strOfNums y112).size ≤ 9223372036854775807 then (some (t111 ++ (strOfNums y112))) else (none)))) (fun k => ?_) (Ev.bind (bytes_r K (n / 256) (by omega) (by omega) (by omega)) (Ev.congr (f := fun _ => some (strOfNums (be n (K + 1)))) (fun _ => ?_) (Ev.now _)))
    · simp only [vizardref01_Bytes.f]
      rw [if_neg (by omega), e1, e2, wrap_in _ (by omega) (by omega), wrap_in _ (by omega) (by omega), show n % 256 % 256 = n % 256 by omega, show ((K + 1 : Nat) : Int) - 1 = K by omega]
    · simp only [Option.bind_some]
      rw [if_pos (by rw [strOfNums_size, strOfNums_size, be_length]; simp; omega)]
      congr 1
      simp only [be]
      exact (strOfNums_append _ _).symm
theorem bytesOf_be (n : Int) (K : Nat) : bytesOf (strOfNums (be n K)) = be n K := by
  unfold bytesOf
  rw [strOfNums_data, List.map_map]
  refine List.ext_getElem? (fun j => ?_)
  rw [List.getElem?_map]
  cases hv : (be n K)[j]? with
  | none => rfl
  | some x =>
    have := be_range K n x (List.mem_of_getElem? hv)
    simp
    omega
/-- Bytes as a number, the highest first. -/
def bacc (s : ByteArray) : Nat → Int
  | 0 => 0
  | i + 1 => bacc s i * 256 + bt s (i : Int)
theorem bacc_range (s : ByteArray) : ∀ i : Nat, 0 ≤ bacc s i ∧ bacc s i < 256 ^ i
  | 0 => by simp [bacc]
  | i + 1 => by
    have h := bacc_range s i
    have hb := bt_range s (i : Int)
    simp only [bacc, Int.pow_succ]
    omega
theorem number_loop (s : ByteArray) (hs : s.size ≤ 7) (d : Nat) : ∀ i : Nat, s.size - i = d → i ≤ s.size → Ev (fun k => vizardref01_Number.l0 k s (bacc s i) i) (bacc s s.size) := by
  induction d with
  | zero =>
    intro i hd hi
    obtain rfl : i = s.size := by omega
    refine Ev.step (f := fun _ => some (bacc s s.size)) (fun k => ?_) (Ev.now _)
    simp only [vizardref01_Number.l0]
    rw [if_neg (by omega)]
  | succ d ih =>
    intro i hd hi
    have hr := bacc_range s i
    have hb := bt_range s (i : Int)
    have hp : (256 : Int) ^ i ≤ 256 ^ 6 := by
      have : i ≤ 6 := by omega
      have h6 : i = 0 ∨ i = 1 ∨ i = 2 ∨ i = 3 ∨ i = 4 ∨ i = 5 ∨ i = 6 := by omega
      rcases h6 with rfl | rfl | rfl | rfl | rfl | rfl | rfl <;> decide
    refine Ev.step (fun k => ?_) (ih (i + 1) (by omega) (by omega))
    simp only [vizardref01_Number.l0]
    rw [if_pos (by omega), if_pos (by omega), wrap_in (bacc s i * 256) (by omega) (by omega), wrap_in (bt s i) (by omega) (by omega), wrap_in (_ + _) (by omega) (by omega), wrap_in _ (by omega) (by omega)]
    rfl
theorem number_ev (s : ByteArray) (hs : s.size ≤ 7) : Ev (fun k => vizardref01_Number.f k s) (bacc s s.size) :=
  Ev.congr (fun k => by simp only [vizardref01_Number.f]; rfl) (number_loop s hs s.size 0 rfl (by omega))
theorem bt_extract (s : ByteArray) (a b i : Nat) (h : a + i < b) (hb : b ≤ s.size) : bt (s.extract a b) (i : Int) = bt s ((a + i : Nat) : Int) := by
  have h2 : (s.extract a b).size = b - a := by rw [ByteArray.size_extract]; omega
  simp only [bt, Int.toNat_natCast]
  rw [dif_pos (by omega), dif_pos (by omega), ByteArray.getElem_extract]
theorem number2_ev (s : ByteArray) (a : Nat) (h : a + 2 ≤ s.size) : Ev (fun k => vizardref01_Number.f k (s.extract a (a + 2))) (bt s (a : Int) * 256 + bt s ((a + 1 : Nat) : Int)) := by
  have h2 : (s.extract a (a + 2)).size = 2 := by rw [ByteArray.size_extract]; omega
  have h3 := number_ev (s.extract a (a + 2)) (by omega)
  rw [h2] at h3
  have e : bacc (s.extract a (a + 2)) 2 = bt s (a : Int) * 256 + bt s ((a + 1 : Nat) : Int) := by
    have e0 := bt_extract s a (a + 2) 0 (by omega) h
    have e1 := bt_extract s a (a + 2) 1 (by omega) h
    simp only [bacc]
    simp only [Nat.add_zero] at e0
    rw [e0, e1]
    omega
  rwa [e] at h3
theorem and65535 (x : Int) (h0 : 0 ≤ x) (h1 : x < 9223372036854775808) : Go.bits .and .i64 x 65535 = x % 65536 :=
  bits_mask .i64 63 (by decide) (fun n h0 h1 => by rw [IntKind.wrap_i64]; omega) 16 (by decide) x h0 (by omega)
/-- The sum of the first words, the first byte of each the higher one. -/
def wsum (s : ByteArray) : Nat → Int
  | 0 => 0
  | i + 1 => wsum s i + bt s (i : Int) * (if i % 2 = 0 then 256 else 1)
theorem wsum_range (s : ByteArray) : ∀ i : Nat, 0 ≤ wsum s i ∧ wsum s i ≤ 65280 * (i : Int)
  | 0 => by simp [wsum]
  | i + 1 => by
    have h := wsum_range s i
    have hb := bt_range s (i : Int)
    simp only [wsum]
    split <;> omega
/-- Carries added till none is left. -/
def fold (x : Int) : Int := if x = 0 then 0 else (x - 1) % 65535 + 1
theorem fold_small (x : Int) (h0 : 0 ≤ x) (h1 : x ≤ 65535) : fold x = x := by
  unfold fold
  split <;> omega
theorem fold_step (x : Int) (h : x > 65535) : fold (x % 65536 + x / 65536) = fold x := by
  unfold fold
  rw [if_neg (by omega), if_neg (by omega)]
  omega
theorem fold_range (x : Int) (h : 0 ≤ x) : 0 ≤ fold x ∧ fold x ≤ 65535 := by
  unfold fold
  split <;> omega
def cks (s : ByteArray) : Int := 65535 - fold (wsum s s.size)
theorem cks_range (s : ByteArray) : 0 ≤ cks s ∧ cks s ≤ 65535 := by
  have := fold_range _ (wsum_range s s.size).1
  unfold cks
  omega
theorem sum_l1 (n : Nat) : ∀ x : Int, x.toNat ≤ n → 0 ≤ x → x < 9223372036854775808 → Ev (fun k => ipv4_Sum.l1 k x) (65535 - fold x) := by
  induction n using Nat.strongRecOn with
  | _ n ih =>
    intro x hn h0 h1
    by_cases h : x > 65535
    · refine Ev.step (fun k => ?_) ((fold_step x h) ▸ ih (x % 65536 + x / 65536).toNat (by omega) (x % 65536 + x / 65536) (Nat.le_refl _) (by omega) (by omega))
      simp only [ipv4_Sum.l1]
      rw [if_pos h, and65535 x h0 h1, wrap_in _ (by omega) (by omega)]
    · refine Ev.step (f := fun _ => some (65535 - fold x)) (fun k => ?_) (Ev.now _)
      simp only [ipv4_Sum.l1]
      rw [if_neg h, wrap_in _ (by omega) (by omega), fold_small x h0 (by omega)]
theorem sum_l0 (s : ByteArray) (hs : s.size ≤ 140737488355328) (d : Nat) : ∀ i : Nat, s.size - i = d → i ≤ s.size → Ev (fun k => ipv4_Sum.l0 k s (wsum s i) (s.size : Int) i) (cks s) := by
  induction d with
  | zero =>
    intro i hd hi
    obtain rfl : i = s.size := by omega
    have hw := wsum_range s s.size
    refine Ev.step (fun k => ?_) (sum_l1 _ (wsum s s.size) (Nat.le_refl _) hw.1 (by omega))
    simp only [ipv4_Sum.l0]
    rw [if_neg (by omega)]
  | succ d ih =>
    intro i hd hi
    have hw := wsum_range s i
    have hb := bt_range s (i : Int)
    have ht : Int.tmod (i : Int) 2 = (i : Int) % 2 := Int.tmod_eq_emod_of_nonneg (by omega)
    refine Ev.step (fun k => ?_) (ih (i + 1) (by omega) (by omega))
    simp only [ipv4_Sum.l0]
    rw [if_pos (by omega), if_pos (by omega), if_pos (by omega), ht, wrap_in (1 - _) (by omega) (by omega), wrap_in (8 * _) (by omega) (by omega), if_pos (by omega), wrap_in (bt s i) (by omega) (by omega)]
    have es : shl .i64 (bt s i) (8 * (1 - (i : Int) % 2)) = bt s i * (if i % 2 = 0 then 256 else 1) := by
      unfold shl
      by_cases h : i % 2 = 0
      · rw [if_pos h, show 8 * (1 - (i : Int) % 2) = 8 by omega, show min (8 : Int).toNat IntKind.i64.bits = 8 from rfl, IntKind.wrap_i64]
        omega
      · rw [if_neg h, show 8 * (1 - (i : Int) % 2) = 0 by omega, show min (0 : Int).toNat IntKind.i64.bits = 0 from rfl, IntKind.wrap_i64]
        omega
    rw [es]
    have hstep : wsum s (i + 1) = wsum s i + bt s i * (if i % 2 = 0 then 256 else 1) := rfl
    have hr := wsum_range s (i + 1)
    rw [← hstep, wrap_in _ (by omega) (by omega), wrap_in ((i : Int) + 1) (by omega) (by omega)]
    rfl
theorem sum_ev (s : ByteArray) (hs : s.size ≤ 140737488355328) : Ev (fun k => ipv4_Sum.f k s) (cks s) :=
  Ev.congr (fun k => by simp only [ipv4_Sum.f]; rfl) (sum_l0 s hs s.size 0 rfl (by omega))
theorem rsum_l1 (n : Nat) : ∀ x : Int, x.toNat ≤ n → 0 ≤ x → x < 9223372036854775808 → Ev (fun k => vizardref02_Sum.l1 k x) (65535 - fold x) := by
  induction n using Nat.strongRecOn with
  | _ n ih =>
    intro x hn h0 h1
    have e1 : Int.tdiv x 65536 = x / 65536 := Int.tdiv_eq_ediv_of_nonneg h0
    have e2 : Int.tmod x 65536 = x % 65536 := Int.tmod_eq_emod_of_nonneg h0
    by_cases h : x > 65535
    · refine Ev.step (fun k => ?_) ((fold_step x h) ▸ ih (x % 65536 + x / 65536).toNat (by omega) (x % 65536 + x / 65536) (Nat.le_refl _) (by omega) (by omega))
      simp only [vizardref02_Sum.l1]
      rw [if_pos h, e1, e2, wrap_in (x / 65536) (by omega) (by omega), wrap_in _ (by omega) (by omega)]
    · refine Ev.step (f := fun _ => some (65535 - fold x)) (fun k => ?_) (Ev.now _)
      simp only [vizardref02_Sum.l1]
      rw [if_neg h, wrap_in _ (by omega) (by omega), fold_small x h0 (by omega)]
theorem rsum_l0 (s : ByteArray) (hs : s.size ≤ 140737488355328) (he : s.size % 2 = 0) (d : Nat) : ∀ i : Nat, s.size - i = 2 * d → i ≤ s.size → i % 2 = 0 → Ev (fun k => vizardref02_Sum.l0 k s (wsum s i) i) (cks s) := by
  induction d with
  | zero =>
    intro i hd hi h2
    obtain rfl : i = s.size := by omega
    have hw := wsum_range s s.size
    refine Ev.step (fun k => ?_) (rsum_l1 _ (wsum s s.size) (Nat.le_refl _) hw.1 (by omega))
    simp only [vizardref02_Sum.l0]
    rw [wrap_in _ (by omega) (by omega), if_neg (by omega)]
  | succ d ih =>
    intro i hd hi h2
    have hw := wsum_range s i
    have hr := wsum_range s (i + 2)
    have hstep : wsum s (i + 2) = wsum s i + (bt s i * 256 + bt s ((i + 1 : Nat) : Int)) := by
      show wsum s i + bt s (i : Int) * (if i % 2 = 0 then 256 else 1) + bt s ((i + 1 : Nat) : Int) * (if (i + 1) % 2 = 0 then 256 else 1) = _
      rw [if_pos h2, if_neg (by omega)]
      omega
    refine Ev.step (f := fun k => (vizardref01_Number.f k (s.extract i (i + 2))).bind fun t => vizardref02_Sum.l0 k s (wrap64 (wsum s i + t)) ((i + 2 : Nat) : Int)) (fun k => ?_) (Ev.bind (number2_ev s i (by omega)) ?_)
    · simp only [vizardref02_Sum.l0]
      rw [wrap_in ((i : Int) + 1) (by omega) (by omega), if_pos (by omega), if_pos (by omega), wrap_in ((i : Int) + 2) (by omega) (by omega), if_pos (by omega), if_pos (by omega)]
      rfl
    · rw [← hstep, wrap_in _ (by omega) (by omega)]
      exact ih (i + 2) (by omega) (by omega) (by omega)
theorem wsum_congr (s t : ByteArray) : ∀ n : Nat, (∀ i : Nat, i < n → bt s (i : Int) = bt t (i : Int)) → wsum s n = wsum t n
  | 0, _ => rfl
  | n + 1, h => by simp only [wsum]; rw [wsum_congr s t n (fun i hi => h i (by omega)), h n (by omega)]
theorem bt_app_left (a b : ByteArray) (i : Nat) (h : i < a.size) : bt (a ++ b) (i : Int) = bt a (i : Int) := by
  have h2 : (a ++ b).size = a.size + b.size := ByteArray.size_append
  simp only [bt, Int.toNat_natCast]
  rw [dif_pos (show i < (a ++ b).size by omega), dif_pos h, ByteArray.getElem_append_left h]
theorem bt_app_right (a b : ByteArray) (i : Nat) (h : i < b.size) : bt (a ++ b) ((a.size + i : Nat) : Int) = bt b (i : Int) := by
  have h2 : (a ++ b).size = a.size + b.size := ByteArray.size_append
  simp only [bt, Int.toNat_natCast]
  rw [dif_pos (show a.size + i < (a ++ b).size by omega), dif_pos h, ByteArray.getElem_append_right (by omega)]
  simp
theorem rsum_ev (s : ByteArray) (hs : s.size ≤ 140737488355327) : Ev (fun k => vizardref02_Sum.f k s) (cks s) := by
  by_cases h : (s.size : Int) % 2 = 1
  · have hz : (s ++ (⟨#[0]⟩ : ByteArray)).size = s.size + 1 := by rw [ByteArray.size_append]; rfl
    have ec : cks (s ++ (⟨#[0]⟩ : ByteArray)) = cks s := by
      unfold cks
      rw [hz]
      have e0 := bt_app_right s (⟨#[0]⟩ : ByteArray) 0 (by decide)
      rw [show ((s.size + 0 : Nat) : Int) = (s.size : Int) by simp] at e0
      have e1 : bt (⟨#[0]⟩ : ByteArray) ((0 : Nat) : Int) = 0 := by decide +kernel
      simp only [wsum]
      rw [e0, e1, wsum_congr _ s s.size (fun i hi => bt_app_left _ _ i hi)]
      simp
    have := rsum_l0 (s ++ (⟨#[0]⟩ : ByteArray)) (by omega) (by omega) ((s.size + 1) / 2) 0 (by omega) (by omega) rfl
    rw [ec] at this
    refine ev_p h (ev_p (by omega) (Ev.step (fun k => by simp only [vizardref02_Sum.j0]; rfl) this))
  · exact ev_n h (Ev.step (fun k => by simp only [vizardref02_Sum.j0]; rfl) (rsum_l0 s (by omega) (by omega) (s.size / 2) 0 (by omega) (by omega) rfl))
/-! ### What words and Build write -/
def wcat (l : List Int) : List Int := l.flatMap fun n => be n 2
theorem be2 (n : Int) : be n 2 = [n / 256 % 256, n % 256] := rfl
theorem wcat_length (l : List Int) : (wcat l).length = 2 * l.length := by
  induction l with
  | nil => rfl
  | cons x l ih =>
    simp only [wcat, List.flatMap_cons, List.length_append, be_length, List.length_cons] at ih ⊢
    omega
theorem words_loop (l : List Int) (hl : l.length ≤ 1000) (d : Nat) : ∀ i : Nat, l.length - i = d → i ≤ l.length → Ev (fun k => udp_words.l0 k (wcat (l.take i)) l (l.length : Int) i) (strOfNums (wcat l)) := by
  induction d with
  | zero =>
    intro i hd hi
    obtain rfl : i = l.length := by omega
    refine Ev.step (f := fun _ => some (strOfNums (wcat l))) (fun k => ?_) (Ev.now _)
    simp only [udp_words.l0]
    rw [if_neg (by omega), List.take_length]
  | succ d ih =>
    intro i hd hi
    have hr : rd l (i : Int) = l[i]'(by omega) := by
      show l.getD (i : Int).toNat 0 = _
      rw [Int.toNat_natCast, List.getD_eq_getElem?_getD, List.getElem?_eq_getElem (by omega)]
      rfl
    have e : wcat (l.take (i + 1)) = wcat (l.take i) ++ [l[i]'(by omega) / 256 % 256, l[i]'(by omega) % 256] := by
      rw [← List.take_append_getElem (show i < l.length by omega)]
      simp only [wcat, List.flatMap_append, List.flatMap_cons, List.flatMap_nil, List.append_nil]
      rfl
    have hlen := wcat_length (l.take i)
    rw [List.length_take] at hlen
    refine Ev.step (fun k => ?_) (ih (i + 1) (by omega) (by omega))
    simp only [udp_words.l0, Option.bind_some]
    rw [if_pos (by omega), if_pos (by omega), if_pos (by omega), hr, ← e, wrap_in _ (by omega) (by omega), if_pos (by simp only [List.length_cons, List.length_nil]; omega)]
    rfl
theorem words_ev (l : List Int) (hl : l.length ≤ 1000) : Ev (fun k => udp_words.f k l) (strOfNums (wcat l)) :=
  Ev.congr (fun k => by simp only [udp_words.f]; rfl) (words_loop l hl l.length 0 rfl (by omega))
theorem and65535u (x : Int) (h0 : 0 ≤ x) (h1 : x < 4294967296) : Go.bits .and .u32 x 65535 = x % 65536 :=
  bits_mask .u32 32 (by decide) (fun n h0 h1 => by rw [u32_eq]; omega) 16 (by decide) x h0 (by omega)
theorem be4 (x : Int) : be x 4 = be (x / 65536) 2 ++ be (x % 65536) 2 := by
  simp only [be, List.nil_append, List.cons_append, List.append_nil]
  simp only [List.cons.injEq, and_true]
  omega
theorem ep (x : Int) (h0 : 0 ≤ x) (h1 : x < 4294967296) : wrap64 (x / 65536) = x / 65536 ∧ wrap64 (Go.bits .and .u32 x 65535) = x % 65536 := by
  rw [and65535u x h0 h1]
  exact ⟨wrap_in _ (by omega) (by omega), wrap_in _ (by omega) (by omega)⟩
def udpPseudo (src dst fr to_ : Int) (n : Int) : List Int := be src 4 ++ be dst 4 ++ be 17 2 ++ be n 2 ++ be fr 2 ++ be to_ 2 ++ be n 2 ++ be 0 2
def udpSum (src dst fr to_ : Int) (data : ByteArray) : Int :=
  if cks (strOfNums (udpPseudo src dst fr to_ (8 + data.size)) ++ data) = 0 then 65535 else cks (strOfNums (udpPseudo src dst fr to_ (8 + data.size)) ++ data)
def udpFront (fr to_ n c : Int) : List Int := be fr 2 ++ be to_ 2 ++ be n 2 ++ be c 2
def udpv (src dst fr to_ : Int) (data : ByteArray) : ByteArray × Int :=
  if ¬ (0 ≤ fr ∧ fr ≤ 65535 ∧ 0 ≤ to_ ∧ to_ ≤ 65535) then (⟨#[]⟩, 2) else if (data.size : Int) > 65507 then (⟨#[]⟩, 8) else
    (strOfNums (udpFront fr to_ (8 + data.size) (udpSum src dst fr to_ data)) ++ data, 0)
theorem pseudo_length (src dst fr to_ n : Int) : (udpPseudo src dst fr to_ n).length = 20 := by simp only [udpPseudo, List.length_append, be_length]
theorem front_length (fr to_ n c : Int) : (udpFront fr to_ n c).length = 8 := by simp only [udpFront, List.length_append, be_length]
theorem build_ev (src dst fr to_ : Int) (data : ByteArray) (hs : 0 ≤ src ∧ src < 4294967296) (hd : 0 ≤ dst ∧ dst < 4294967296) : Ev (fun k => udp_Build.f k src dst fr to_ data) (udpv src dst fr to_ data) := by
  unfold udpv udp_Build.f
  by_cases h1 : ¬ (0 ≤ fr ∧ fr ≤ 65535 ∧ 0 ≤ to_ ∧ to_ ≤ 65535)
  · rw [if_pos h1]
    exact ev_p h1 (Ev.now _)
  refine ev_n h1 ?_
  rw [if_neg h1]
  by_cases h2 : (data.size : Int) > 65507
  · rw [if_pos h2]
    exact ev_p h2 (Ev.now _)
  refine ev_n h2 ?_
  rw [if_neg h2]
  obtain ⟨a1, a2⟩ := ep src hs.1 hs.2
  obtain ⟨b1, b2⟩ := ep dst hd.1 hd.2
  rw [a1, a2, b1, b2]
  have e : wcat [src / 65536, src % 65536, dst / 65536, dst % 65536, 17, 8 + (data.size : Int), fr, to_, 8 + (data.size : Int), 0] = udpPseudo src dst fr to_ (8 + data.size) := by
    unfold udpPseudo
    rw [be4 src, be4 dst]
    simp [wcat, List.flatMap_cons, be2]
  refine Ev.bind (words_ev _ (by simp)) ?_
  rw [e]
  have hz := pseudo_length src dst fr to_ (8 + data.size)
  have hz2 : (strOfNums (udpPseudo src dst fr to_ (8 + data.size)) ++ data).size = 20 + data.size := by rw [ByteArray.size_append, strOfNums_size, hz]
  refine ev_p (by rw [strOfNums_size]; omega) (Ev.bind (sum_ev _ (by omega)) (Ev.bind (words_ev _ (by simp)) ?_))
  have e2 : wcat [fr, to_, 8 + (data.size : Int), if cks (strOfNums (udpPseudo src dst fr to_ (8 + data.size)) ++ data) = 0 then 65535 else cks (strOfNums (udpPseudo src dst fr to_ (8 + data.size)) ++ data)] = udpFront fr to_ (8 + data.size) (udpSum src dst fr to_ data) := by
    simp [wcat, List.flatMap_cons, be2, udpFront, udpSum]
  rw [e2]
  have hf := front_length fr to_ (8 + data.size) (udpSum src dst fr to_ data)
  exact ev_p (by rw [strOfNums_size]; omega) (Ev.now _)
theorem rword_ev (n : Int) (h0 : 0 ≤ n) (h1 : n < 65536) : Ev (fun k => vizardref03_word.f k n) (strOfNums (be n 2)) :=
  Ev.bind (bytes_r 2 n h0 (by omega) (by omega)) (Ev.now _)
theorem rport (x : Int) : vizardref03_port.f x = some (decide (0 ≤ x ∧ x ≤ 65535)) := by
  unfold vizardref03_port.f
  by_cases hx : x ≥ 0
  · rw [if_pos hx]
    simp [show 0 ≤ x from hx]
  · rw [if_neg hx]
    simp [hx]
theorem rbuild_ev (src dst fr to_ : Int) (data : ByteArray) (hs : 0 ≤ src ∧ src < 4294967296) (hd : 0 ≤ dst ∧ dst < 4294967296) : Ev (fun k => vizardref03_Build.f k src dst fr to_ data) (udpv src dst fr to_ data) := by
  unfold udpv vizardref03_Build.f
  have bad : Ev (fun k => vizardref03_Build.j0 k src dst fr to_ data true) ((⟨#[]⟩ : ByteArray), (2 : Int)) := Ev.step (f := fun _ => some ((⟨#[]⟩ : ByteArray), (2 : Int))) (fun k => by simp [vizardref03_Build.j0]) (Ev.now _)
  by_cases p2 : 0 ≤ fr ∧ fr ≤ 65535
  rotate_left
  · rw [if_pos (fun hh => p2 ⟨hh.1, hh.2.1⟩)]
    simp only [rport, Option.bind_some]
    rw [decide_eq_false p2]
    exact ev_n (by decide) bad
  by_cases p3 : 0 ≤ to_ ∧ to_ ≤ 65535
  rotate_left
  · rw [if_pos (fun hh => p3 ⟨hh.2.2.1, hh.2.2.2⟩)]
    simp only [rport, Option.bind_some]
    rw [decide_eq_true p2, decide_eq_false p3]
    exact ev_p rfl bad
  rw [if_neg (fun hh => hh ⟨p2.1, p2.2, p3.1, p3.2⟩)]
  simp only [rport, Option.bind_some]
  rw [decide_eq_true p2, decide_eq_true p3]
  refine ev_p rfl ?_
  by_cases h2 : (data.size : Int) > 65507
  · rw [if_pos h2]
    refine Ev.step (f := fun _ => some ((⟨#[]⟩ : ByteArray), (8 : Int))) (fun k => ?_) (Ev.now _)
    simp only [vizardref03_Build.j0]
    rw [if_neg (by decide), if_pos h2]
  rw [if_neg h2]
  have bz : ∀ (n : Int) (k : Nat), (strOfNums (be n k)).size = k := fun n k => by rw [strOfNums_size, be_length]
  refine Ev.step (fun k => by
    simp only [vizardref03_Build.j0]
    rw [if_neg (by decide), if_neg h2]) ?_
  rw [wrap_in (8 + (data.size : Int)) (by omega) (by omega), wrap_in src (by omega) (by omega), wrap_in dst (by omega) (by omega)]
  refine Ev.bind (rword_ev fr (by omega) (by omega)) (Ev.bind (rword_ev to_ (by omega) (by omega)) (ev_p (by rw [bz, bz]; omega) ?_))
  refine Ev.bind (rword_ev _ (by omega) (by omega)) (ev_p (by rw [ByteArray.size_append, bz, bz, bz]; omega) ?_)
  refine Ev.bind (bytes_r 4 src (by omega) (by omega) (by omega)) (Ev.bind (bytes_r 4 dst (by omega) (by omega) (by omega)) (ev_p (by rw [bz, bz]; omega) ?_))
  refine Ev.bind (rword_ev 17 (by omega) (by omega)) (ev_p (by rw [ByteArray.size_append, bz, bz, bz]; omega) ?_)
  refine Ev.bind (rword_ev _ (by omega) (by omega)) (ev_p (by simp only [ByteArray.size_append, bz]; omega) (ev_p (by simp only [ByteArray.size_append, bz]; omega) ?_))
  refine Ev.bind (rword_ev 0 (by omega) (by omega)) (ev_p (by simp only [ByteArray.size_append, bz]; omega) (ev_p (by simp only [ByteArray.size_append, bz]; omega) ?_))
  have e : (strOfNums (be src 4) ++ strOfNums (be dst 4) ++ strOfNums (be 17 2) ++ strOfNums (be (8 + (data.size : Int)) 2) ++ (strOfNums (be fr 2) ++ strOfNums (be to_ 2) ++ strOfNums (be (8 + (data.size : Int)) 2)) ++ strOfNums (be 0 2)) = strOfNums (udpPseudo src dst fr to_ (8 + data.size)) := by
    simp only [udpPseudo, strOfNums_append, ByteArray.append_assoc]
  rw [e]
  have hz := pseudo_length src dst fr to_ (8 + data.size)
  refine Ev.bind (rsum_ev _ (by rw [ByteArray.size_append, strOfNums_size]; omega)) ?_
  have hr := cks_range (strOfNums (udpPseudo src dst fr to_ (8 + data.size)) ++ data)
  have e2 : ∀ c : Int, strOfNums (be fr 2) ++ strOfNums (be to_ 2) ++ strOfNums (be (8 + (data.size : Int)) 2) ++ strOfNums (be c 2) = strOfNums (udpFront fr to_ (8 + data.size) c) := fun c => by
    simp only [udpFront, strOfNums_append]
  unfold udpSum
  by_cases c0 : cks (strOfNums (udpPseudo src dst fr to_ (8 + data.size)) ++ data) = 0
  · rw [if_pos c0]
    refine ev_p c0 (Ev.bind (rword_ev 65535 (by omega) (by omega)) (ev_p (by simp only [ByteArray.size_append, bz]; omega) (ev_p (by simp only [ByteArray.size_append, bz]; omega) ?_)))
    rw [e2]
    exact Ev.now _
  · rw [if_neg c0]
    refine ev_n c0 (Ev.bind (rword_ev _ (by omega) (by omega)) (ev_p (by simp only [ByteArray.size_append, bz]; omega) (ev_p (by simp only [ByteArray.size_append, bz]; omega) ?_)))
    rw [e2]
    exact Ev.now _
theorem UdpBuilds : Law.Pure := by
  intro g hg
  have h0 := wf_u32 hg.1
  have h1 := wf_u32 hg.2.1
  refine (Ev.bind (build_ev g.f0 g.f1 g.f2 g.f3 g.f4 (by omega) (by omega)) (Ev.bind (rbuild_ev g.f0 g.f1 g.f2 g.f3 g.f4 (by omega) (by omega)) ?_)).rounds
  simp only [if_true, beq_self_eq_true]
  exact Ev.now _

end Go.Proofs.Ytmgepidjeddapaa.Pure
