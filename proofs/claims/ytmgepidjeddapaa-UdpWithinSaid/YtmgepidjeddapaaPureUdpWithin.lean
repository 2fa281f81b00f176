/- The pure law UdpWithin -/
import Derived.Test.YtmgepidjeddapaaGoodUdpWithin
namespace Go.Proofs.Ytmgepidjeddapaa.Pure
open Go.RowKit Go.Proofs.Ytmgepidjeddapaa.PUdpWithin Go.Proofs.YtmgepidjeddapaaW.PrintWords Go.Proofs.YtmgepidjeddapaaW.PrintLast Go.Proofs.Ytmgepidjeddapaa.Opening Go.Proofs.Ytmgepidjeddapaa.Hand
set_option linter.unusedVariables false
set_option linter.unusedSimpArgs false
theorem wrap_in (x : Int) (h0 : -9223372036854775808 ≤ x) (h1 : x ≤ 9223372036854775807) : wrap64 x = x := by
  unfold wrap64
  omega
theorem mx_eq (a b : Int) : mx a b = if a < b then b else a := rfl
theorem mn_eq (a b : Int) : mn a b = if b < a then b else a := rfl
theorem u64_eq (n : Int) : IntKind.u64.wrap n = n % 18446744073709551616 := by simp [IntKind.wrap, IntKind.bits, IntKind.signed]
theorem u64_range (n : Int) : 0 ≤ IntKind.u64.wrap n ∧ IntKind.u64.wrap n < 18446744073709551616 := by
  rw [u64_eq]
  omega
theorem u32_eq (n : Int) : IntKind.u32.wrap n = n % 4294967296 := by simp [IntKind.wrap, IntKind.bits, IntKind.signed]
theorem ev_p {α : Type} {c : Prop} [Decidable c] {f g : Nat → Option α} {v : α} (h : c) (e : Ev f v) : Ev (fun k => if c then f k else g k) v := Ev.congr (fun k => if_pos h) e
theorem ev_n {α : Type} {c : Prop} [Decidable c] {f g : Nat → Option α} {v : α} (h : ¬ c) (e : Ev g v) : Ev (fun k => if c then f k else g k) v := Ev.congr (fun k => if_neg h) e
/-! ### Numbers as bytes -/
/-- A number's last k bytes, the highest first. -/
def be : Int → Nat → List Int
  | _, 0 => []
  | n, k + 1 => be (n / 256) k ++ [n % 256]
theorem be_length : ∀ (k : Nat) (n : Int), (be n k).length = k
  | 0, _ => rfl
  | k + 1, n => by simp [be, be_length k]
theorem be_get : ∀ (k : Nat) (n : Int) (j : Nat), j < k → (be n k)[j]? = some (n / 256 ^ (k - 1 - j) % 256)
  | 0, _, j, h => by omega
  | k + 1, n, j, h => by
    simp only [be]
    by_cases hj : j < k
    · rw [List.getElem?_append_left (by rw [be_length]; exact hj), be_get k (n / 256) j hj]
      congr 1
      rw [Int.ediv_ediv_of_nonneg (by omega)]
      congr 1
      rw [show k + 1 - 1 - j = (k - 1 - j) + 1 by omega, Int.pow_succ, Int.mul_comm]
    · obtain rfl : j = k := by omega
      rw [List.getElem?_append_right (by rw [be_length]; omega), be_length]
      simp
theorem be_range (k : Nat) (n : Int) (x : Int) (h : x ∈ be n k) : 0 ≤ x ∧ x < 256 := by
  obtain ⟨j, hj⟩ := List.getElem?_of_mem h
  have hl : j < k := by
    have := (List.getElem?_eq_some_iff.1 hj).1
    rwa [be_length] at this
  rw [be_get k n j hl] at hj
  have := Option.some.inj hj
  omega
theorem strOfNums_append (a b : List Int) : strOfNums (a ++ b) = strOfNums a ++ strOfNums b := by
  apply ByteArray.ext
  simp [strOfNums]
/-- Bytes as a number, the highest first. -/
def bacc (s : ByteArray) : Nat → Int
  | 0 => 0
  | i + 1 => bacc s i * 256 + bt s (i : Int)
theorem bacc_range (s : ByteArray) : ∀ i : Nat, 0 ≤ bacc s i ∧ bacc s i < 256 ^ i
  | 0 => by simp [bacc]
  | i + 1 => by
    have h := bacc_range s i
    have hb := bt_range s (i : Int)
    simp only [bacc, Int.pow_succ]
    omega
theorem bt_extract (s : ByteArray) (a b i : Nat) (h : a + i < b) (hb : b ≤ s.size) : bt (s.extract a b) (i : Int) = bt s ((a + i : Nat) : Int) := by
  have h2 : (s.extract a b).size = b - a := by rw [ByteArray.size_extract]; omega
  simp only [bt, Int.toNat_natCast]
  rw [dif_pos (by omega), dif_pos (by omega), ByteArray.getElem_extract]
theorem and65535 (x : Int) (h0 : 0 ≤ x) (h1 : x < 9223372036854775808) : Go.bits .and .i64 x 65535 = x % 65536 :=
  bits_mask .i64 63 (by decide) (fun n h0 h1 => by rw [IntKind.wrap_i64]; omega) 16 (by decide) x h0 (by omega)
/-- The sum of the first words, the first byte of each the higher one. -/
def wsum (s : ByteArray) : Nat → Int
  | 0 => 0
  | i + 1 => wsum s i + bt s (i : Int) * (if i % 2 = 0 then 256 else 1)
theorem wsum_range (s : ByteArray) : ∀ i : Nat, 0 ≤ wsum s i ∧ wsum s i ≤ 65280 * (i : Int)
  | 0 => by simp [wsum]
  | i + 1 => by
    have h := wsum_range s i
    have hb := bt_range s (i : Int)
    simp only [wsum]
    split <;> omega
theorem wsum_range2 (s : ByteArray) : ∀ i : Nat, 2 * wsum s i ≤ 65535 * (i : Int) + (if i % 2 = 1 then 65025 else 0)
  | 0 => by simp [wsum]
  | i + 1 => by
    have h := wsum_range2 s i
    have hb := bt_range s (i : Int)
    simp only [wsum]
    by_cases e : i % 2 = 0
    · rw [if_pos e, if_pos (by omega)]
      rw [if_neg (by omega)] at h
      omega
    · rw [if_neg e, if_neg (by omega)]
      rw [if_pos (by omega)] at h
      omega
theorem wsum_small (s : ByteArray) (i : Nat) (h : i ≤ 281474976702466) : wsum s i < 9223372036854775808 - 65536 := by
  have := wsum_range2 s i
  split at this <;> omega
/-- Carries added till none is left. -/
def fold (x : Int) : Int := if x = 0 then 0 else (x - 1) % 65535 + 1
theorem fold_small (x : Int) (h0 : 0 ≤ x) (h1 : x ≤ 65535) : fold x = x := by
  unfold fold
  split <;> omega
theorem fold_step (x : Int) (h : x > 65535) : fold (x % 65536 + x / 65536) = fold x := by
  unfold fold
  rw [if_neg (by omega), if_neg (by omega)]
  omega
theorem fold_range (x : Int) (h : 0 ≤ x) : 0 ≤ fold x ∧ fold x ≤ 65535 := by
  unfold fold
  split <;> omega
def cks (s : ByteArray) : Int := 65535 - fold (wsum s s.size)
theorem cks_range (s : ByteArray) : 0 ≤ cks s ∧ cks s ≤ 65535 := by
  have := fold_range _ (wsum_range s s.size).1
  unfold cks
  omega
theorem sum_l1 (n : Nat) : ∀ x : Int, x.toNat ≤ n → 0 ≤ x → x < 9223372036854775808 → Ev (fun k => ipv4_Sum.l1 k x) (65535 - fold x) := by
  induction n using Nat.strongRecOn with
  | _ n ih =>
    intro x hn h0 h1
    by_cases h : x > 65535
    · refine Ev.step (fun k => ?_) ((fold_step x h) ▸ ih (x % 65536 + x / 65536).toNat (by omega) (x % 65536 + x / 65536) (Nat.le_refl _) (by omega) (by omega))
      simp only [ipv4_Sum.l1]
      rw [if_pos h, and65535 x h0 h1, wrap_in _ (by omega) (by omega)]
    · refine Ev.step (f := fun _ => some (65535 - fold x)) (fun k => ?_) (Ev.now _)
      simp only [ipv4_Sum.l1]
      rw [if_neg h, wrap_in _ (by omega) (by omega), fold_small x h0 (by omega)]
theorem sum_l0 (s : ByteArray) (hs : s.size ≤ 281474976702466) (d : Nat) : ∀ i : Nat, s.size - i = d → i ≤ s.size → Ev (fun k => ipv4_Sum.l0 k s (wsum s i) (s.size : Int) i) (cks s) := by
  induction d with
  | zero =>
    intro i hd hi
    obtain rfl : i = s.size := by omega
    have hw := wsum_range s s.size
    have hw2 := wsum_small s s.size hs
    refine Ev.step (fun k => ?_) (sum_l1 _ (wsum s s.size) (Nat.le_refl _) hw.1 (by omega))
    simp only [ipv4_Sum.l0]
    rw [if_neg (by omega)]
  | succ d ih =>
    intro i hd hi
    have hw := wsum_range s i
    have hw2 := wsum_small s i (by omega)
    have hb := bt_range s (i : Int)
    have ht : Int.tmod (i : Int) 2 = (i : Int) % 2 := Int.tmod_eq_emod_of_nonneg (by omega)
    refine Ev.step (fun k => ?_) (ih (i + 1) (by omega) (by omega))
    simp only [ipv4_Sum.l0]
    rw [if_pos (by omega), if_pos (by omega), if_pos (by omega), ht, wrap_in (1 - _) (by omega) (by omega), wrap_in (8 * _) (by omega) (by omega), if_pos (by omega), wrap_in (bt s i) (by omega) (by omega)]
    have es : shl .i64 (bt s i) (8 * (1 - (i : Int) % 2)) = bt s i * (if i % 2 = 0 then 256 else 1) := by
      unfold shl
      by_cases h : i % 2 = 0
      · rw [if_pos h, show 8 * (1 - (i : Int) % 2) = 8 by omega, show min (8 : Int).toNat IntKind.i64.bits = 8 from rfl, IntKind.wrap_i64]
        omega
      · rw [if_neg h, show 8 * (1 - (i : Int) % 2) = 0 by omega, show min (0 : Int).toNat IntKind.i64.bits = 0 from rfl, IntKind.wrap_i64]
        omega
    rw [es]
    have hstep : wsum s (i + 1) = wsum s i + bt s i * (if i % 2 = 0 then 256 else 1) := rfl
    have hr := wsum_range s (i + 1)
    have hr2 := wsum_small s (i + 1) (by omega)
    rw [← hstep, wrap_in _ (by omega) (by omega), wrap_in ((i : Int) + 1) (by omega) (by omega)]
    rfl
theorem sum_ev (s : ByteArray) (hs : s.size ≤ 281474976702466) : Ev (fun k => ipv4_Sum.f k s) (cks s) :=
  Ev.congr (fun k => by simp only [ipv4_Sum.f]; rfl) (sum_l0 s hs s.size 0 rfl (by omega))
theorem wsum_congr (s t : ByteArray) : ∀ n : Nat, (∀ i : Nat, i < n → bt s (i : Int) = bt t (i : Int)) → wsum s n = wsum t n
  | 0, _ => rfl
  | n + 1, h => by simp only [wsum]; rw [wsum_congr s t n (fun i hi => h i (by omega)), h n (by omega)]
theorem bt_app_left (a b : ByteArray) (i : Nat) (h : i < a.size) : bt (a ++ b) (i : Int) = bt a (i : Int) := by
  have h2 : (a ++ b).size = a.size + b.size := ByteArray.size_append
  simp only [bt, Int.toNat_natCast]
  rw [dif_pos (show i < (a ++ b).size by omega), dif_pos h, ByteArray.getElem_append_left h]
theorem bt_app_right (a b : ByteArray) (i : Nat) (h : i < b.size) : bt (a ++ b) ((a.size + i : Nat) : Int) = bt b (i : Int) := by
  have h2 : (a ++ b).size = a.size + b.size := ByteArray.size_append
  simp only [bt, Int.toNat_natCast]
  rw [dif_pos (show a.size + i < (a ++ b).size by omega), dif_pos h, ByteArray.getElem_append_right (by omega)]
  simp
theorem wsum_app_aux (a b : ByteArray) (ha : a.size % 2 = 0) : ∀ n : Nat, n ≤ b.size → wsum (a ++ b) (a.size + n) = wsum a a.size + wsum b n
  | 0, _ => by
    simp only [wsum, Nat.add_zero, Int.add_zero]
    exact wsum_congr _ _ a.size (fun i hi => bt_app_left a b i hi)
  | n + 1, h => by
    have ih := wsum_app_aux a b ha n (by omega)
    rw [show a.size + (n + 1) = (a.size + n) + 1 by omega]
    simp only [wsum]
    rw [ih, bt_app_right a b n (by omega)]
    by_cases h2 : n % 2 = 0
    · rw [if_pos (by omega), if_pos h2]; omega
    · rw [if_neg (by omega), if_neg h2]; omega
theorem wsum_app (a b : ByteArray) (ha : a.size % 2 = 0) : wsum (a ++ b) (a ++ b).size = wsum a a.size + wsum b b.size := by
  rw [ByteArray.size_append]
  exact wsum_app_aux a b ha b.size (Nat.le_refl _)
theorem bt_nums (l : List Int) (i : Nat) (x : Int) (h : l[i]? = some x) (h0 : 0 ≤ x) (h1 : x < 256) : bt (strOfNums l) (i : Int) = x := by
  have hl : i < l.length := (List.getElem?_eq_some_iff.1 h).1
  have hx : l[i] = x := (List.getElem?_eq_some_iff.1 h).2
  simp only [bt, Int.toNat_natCast]
  rw [dif_pos (by rw [strOfNums_size]; exact hl)]
  simp only [strOfNums]
  show (((l.map fun n => UInt8.ofNat n.toNat).toArray[i]'(by simpa using hl)).toNat : Int) = x
  simp [hx]
  omega
theorem wsum_be2 (x : Int) : wsum (strOfNums (be x 2)) (strOfNums (be x 2)).size = x % 65536 := by
  rw [strOfNums_size, be_length]
  have e0 := bt_nums (be x 2) 0 (x / 256 % 256) rfl (by omega) (by omega)
  have e1 := bt_nums (be x 2) 1 (x % 256) rfl (by omega) (by omega)
  have e : ∀ S : ByteArray, wsum S 2 = 0 + bt S ((0 : Nat) : Int) * 256 + bt S ((1 : Nat) : Int) * 1 := fun _ => rfl
  rw [e, e0, e1]
  omega
theorem wsum_be2_app (x : Int) (t : ByteArray) : wsum (strOfNums (be x 2) ++ t) (strOfNums (be x 2) ++ t).size = x % 65536 + wsum t t.size := by
  rw [wsum_app _ _ (by rw [strOfNums_size, be_length]), wsum_be2]
/-! ### What words and Build write -/
def wcat (l : List Int) : List Int := l.flatMap fun n => be n 2
theorem be2 (n : Int) : be n 2 = [n / 256 % 256, n % 256] := rfl
theorem wcat_length (l : List Int) : (wcat l).length = 2 * l.length := by
  induction l with
  | nil => rfl
  | cons x l ih =>
    simp only [wcat, List.flatMap_cons, List.length_append, be_length, List.length_cons] at ih ⊢
    omega
theorem words_loop (l : List Int) (hl : l.length ≤ 1000) (d : Nat) : ∀ i : Nat, l.length - i = d → i ≤ l.length → Ev (fun k => udp_words.l0 k (wcat (l.take i)) l (l.length : Int) i) (strOfNums (wcat l)) := by
  induction d with
  | zero =>
    intro i hd hi
    obtain rfl : i = l.length := by omega
    refine Ev.step (f := fun _ => some (strOfNums (wcat l))) (fun k => ?_) (Ev.now _)
    simp only [udp_words.l0]
    rw [if_neg (by omega), List.take_length]
  | succ d ih =>
    intro i hd hi
    have hr : rd l (i : Int) = l[i]'(by omega) := by
      show l.getD (i : Int).toNat 0 = _
      rw [Int.toNat_natCast, List.getD_eq_getElem?_getD, List.getElem?_eq_getElem (by omega)]
      rfl
    have e : wcat (l.take (i + 1)) = wcat (l.take i) ++ [l[i]'(by omega) / 256 % 256, l[i]'(by omega) % 256] := by
      rw [← List.take_append_getElem (show i < l.length by omega)]
      simp only [wcat, List.flatMap_append, List.flatMap_cons, List.flatMap_nil, List.append_nil]
      rfl
    have hlen := wcat_length (l.take i)
    rw [List.length_take] at hlen
    refine Ev.step (fun k => ?_) (ih (i + 1) (by omega) (by omega))
    simp only [udp_words.l0, Option.bind_some]
    rw [if_pos (by omega), if_pos (by omega), if_pos (by omega), hr, ← e, wrap_in _ (by omega) (by omega), if_pos (by simp only [List.length_cons, List.length_nil]; omega)]
    rfl
theorem words_ev (l : List Int) (hl : l.length ≤ 1000) : Ev (fun k => udp_words.f k l) (strOfNums (wcat l)) :=
  Ev.congr (fun k => by simp only [udp_words.f]; rfl) (words_loop l hl l.length 0 rfl (by omega))
theorem and65535u (x : Int) (h0 : 0 ≤ x) (h1 : x < 4294967296) : Go.bits .and .u32 x 65535 = x % 65536 :=
  bits_mask .u32 32 (by decide) (fun n h0 h1 => by rw [u32_eq]; omega) 16 (by decide) x h0 (by omega)
theorem be4 (x : Int) : be x 4 = be (x / 65536) 2 ++ be (x % 65536) 2 := by
  simp only [be, List.nil_append, List.cons_append, List.append_nil]
  simp only [List.cons.injEq, and_true]
  omega
theorem ep (x : Int) (h0 : 0 ≤ x) (h1 : x < 4294967296) : wrap64 (x / 65536) = x / 65536 ∧ wrap64 (Go.bits .and .u32 x 65535) = x % 65536 := by
  rw [and65535u x h0 h1]
  exact ⟨wrap_in _ (by omega) (by omega), wrap_in _ (by omega) (by omega)⟩
def udpPseudo (src dst fr to_ : Int) (n : Int) : List Int := be src 4 ++ be dst 4 ++ be 17 2 ++ be n 2 ++ be fr 2 ++ be to_ 2 ++ be n 2 ++ be 0 2
def udpSum (src dst fr to_ : Int) (data : ByteArray) : Int :=
  if cks (strOfNums (udpPseudo src dst fr to_ (8 + data.size)) ++ data) = 0 then 65535 else cks (strOfNums (udpPseudo src dst fr to_ (8 + data.size)) ++ data)
def udpFront (fr to_ n c : Int) : List Int := be fr 2 ++ be to_ 2 ++ be n 2 ++ be c 2
def udpv (src dst fr to_ : Int) (data : ByteArray) : ByteArray × Int :=
  if ¬ (0 ≤ fr ∧ fr ≤ 65535 ∧ 0 ≤ to_ ∧ to_ ≤ 65535) then (⟨#[]⟩, 2) else if (data.size : Int) > 65507 then (⟨#[]⟩, 8) else
    (strOfNums (udpFront fr to_ (8 + data.size) (udpSum src dst fr to_ data)) ++ data, 0)
theorem pseudo_length (src dst fr to_ n : Int) : (udpPseudo src dst fr to_ n).length = 20 := by simp only [udpPseudo, List.length_append, be_length]
theorem front_length (fr to_ n c : Int) : (udpFront fr to_ n c).length = 8 := by simp only [udpFront, List.length_append, be_length]
theorem build_ev (src dst fr to_ : Int) (data : ByteArray) (hs : 0 ≤ src ∧ src < 4294967296) (hd : 0 ≤ dst ∧ dst < 4294967296) : Ev (fun k => udp_Build.f k src dst fr to_ data) (udpv src dst fr to_ data) := by
  unfold udpv udp_Build.f
  by_cases h1 : ¬ (0 ≤ fr ∧ fr ≤ 65535 ∧ 0 ≤ to_ ∧ to_ ≤ 65535)
  · rw [if_pos h1]
    exact ev_p h1 (Ev.now _)
  refine ev_n h1 ?_
  rw [if_neg h1]
  by_cases h2 : (data.size : Int) > 65507
  · rw [if_pos h2]
    exact ev_p h2 (Ev.now _)
  refine ev_n h2 ?_
  rw [if_neg h2]
  obtain ⟨a1, a2⟩ := ep src hs.1 hs.2
  obtain ⟨b1, b2⟩ := ep dst hd.1 hd.2
  rw [a1, a2, b1, b2]
  have e : wcat [src / 65536, src % 65536, dst / 65536, dst % 65536, 17, 8 + (data.size : Int), fr, to_, 8 + (data.size : Int), 0] = udpPseudo src dst fr to_ (8 + data.size) := by
    unfold udpPseudo
    rw [be4 src, be4 dst]
    simp [wcat, List.flatMap_cons, be2]
  refine Ev.bind (words_ev _ (by simp)) ?_
  rw [e]
  have hz := pseudo_length src dst fr to_ (8 + data.size)
  have hz2 : (strOfNums (udpPseudo src dst fr to_ (8 + data.size)) ++ data).size = 20 + data.size := by rw [ByteArray.size_append, strOfNums_size, hz]
  refine ev_p (by rw [strOfNums_size]; omega) (Ev.bind (sum_ev _ (by omega)) (Ev.bind (words_ev _ (by simp)) ?_))
  have e2 : wcat [fr, to_, 8 + (data.size : Int), if cks (strOfNums (udpPseudo src dst fr to_ (8 + data.size)) ++ data) = 0 then 65535 else cks (strOfNums (udpPseudo src dst fr to_ (8 + data.size)) ++ data)] = udpFront fr to_ (8 + data.size) (udpSum src dst fr to_ data) := by
    simp [wcat, List.flatMap_cons, be2, udpFront, udpSum]
  rw [e2]
  have hf := front_length fr to_ (8 + data.size) (udpSum src dst fr to_ data)
  exact ev_p (by rw [strOfNums_size]; omega) (Ev.now _)
/-- What the words of the pseudo header, the header without its sum and the data come to. -/
def udpTot (src dst fr to_ : Int) (data : ByteArray) : Int := src / 65536 % 65536 + src % 65536 + dst / 65536 % 65536 + dst % 65536 + 17 + (8 + (data.size : Int)) % 65536 + fr % 65536 + to_ % 65536 + (8 + (data.size : Int)) % 65536 + wsum data data.size
theorem pseudo_sum (src dst fr to_ : Int) (data : ByteArray) : wsum (strOfNums (udpPseudo src dst fr to_ (8 + data.size)) ++ data) (strOfNums (udpPseudo src dst fr to_ (8 + data.size)) ++ data).size = udpTot src dst fr to_ data := by
  simp only [udpPseudo, be4, strOfNums_append, ByteArray.append_assoc, wsum_be2_app]
  unfold udpTot
  omega
theorem cks_tot (src dst fr to_ : Int) (data : ByteArray) : cks (strOfNums (udpPseudo src dst fr to_ (8 + data.size)) ++ data) = 65535 - fold (udpTot src dst fr to_ data) := by
  unfold cks
  rw [pseudo_sum]
theorem udpSum_eq (src dst fr to_ : Int) (data : ByteArray) : udpSum src dst fr to_ data = if fold (udpTot src dst fr to_ data) = 65535 then 65535 else 65535 - fold (udpTot src dst fr to_ data) := by
  unfold udpSum
  rw [cks_tot]
  split <;> split <;> omega
theorem udpv_turned (src dst fr to_ : Int) (data : ByteArray) : udpv src dst fr to_ data = udpv dst src fr to_ data := by
  have e : udpTot src dst fr to_ data = udpTot dst src fr to_ data := by
    unfold udpTot
    omega
  unfold udpv
  rw [udpSum_eq, udpSum_eq, e]
def word16 (s : ByteArray) (i : Nat) : Int := bt s (i : Int) * 256 + bt s ((i + 1 : Nat) : Int)
theorem word_ev (s : ByteArray) (h : 2 ≤ s.size) : udp_word.f s = some (word16 s 0) := by
  have h0 := bt_range s 0
  have h1 := bt_range s 1
  simp only [udp_word.f]
  rw [if_pos (by omega), if_pos (by omega), wrap_in (bt s 0) (by omega) (by omega), wrap_in (bt s 0 * 256) (by omega) (by omega), wrap_in (bt s 1) (by omega) (by omega)]
  have := bits_join .i64 63 (by decide) (fun n h0 h1 => by rw [IntKind.wrap_i64]; omega) 8 (bt s 0 * 256) (bt s 1) (by omega) (by omega) (by omega) h1.1 (by omega) (by omega)
  rw [this]
  rfl
theorem word_cut (s : ByteArray) (a : Nat) (h : a + 2 ≤ s.size) : udp_word.f (s.extract a s.size) = some (word16 s a) := by
  rw [word_ev _ (by rw [ByteArray.size_extract]; omega)]
  unfold word16
  have e0 := bt_extract s a s.size 0 (by omega) (Nat.le_refl _)
  have e1 := bt_extract s a s.size 1 (by omega) (Nat.le_refl _)
  rw [e0, e1]
  rfl
def udpP (src dst : Int) (s : ByteArray) : Int × Int × ByteArray × Int :=
  if s.size < 8 then (0, 0, (⟨#[]⟩ : ByteArray), 1) else if word16 s 4 < 8 ∨ (s.size : Int) < word16 s 4 then (0, 0, (⟨#[]⟩ : ByteArray), 1) else if (s.size : Int) > word16 s 4 then (0, 0, (⟨#[]⟩ : ByteArray), 6) else
    if (udpv src dst (word16 s 0) (word16 s 2) (s.extract 8 s.size)).1 = s then (word16 s 0, word16 s 2, s.extract 8 s.size, 0) else (0, 0, (⟨#[]⟩ : ByteArray), 9)
theorem tl_inj (a b : ByteArray) : (a.toList = b.toList) ↔ a = b := by
  rw [ByteArray.toList_eq, ByteArray.toList_eq]
  constructor
  · intro h
    exact ByteArray.ext (Array.toList_inj.1 h)
  · intro h; rw [h]
theorem parse_ev (src dst : Int) (s : ByteArray) (hs : 0 ≤ src ∧ src < 4294967296) (hd : 0 ≤ dst ∧ dst < 4294967296) : Ev (fun k => udp_Parse.f k src dst s) (udpP src dst s) := by
  unfold udpP udp_Parse.f
  by_cases h0 : s.size < 8
  · rw [if_pos h0]
    exact ev_p (by omega) (Ev.now _)
  rw [if_neg h0]
  refine ev_n (by omega) (ev_p (by omega) ?_)
  rw [word_cut s 4 (by omega)]
  simp only [Option.bind_some]
  have bad : Ev (fun k => udp_Parse.j0 k src dst s (word16 s 4) true) (0, 0, (⟨#[]⟩ : ByteArray), 1) := Ev.step (f := fun _ => some (0, 0, (⟨#[]⟩ : ByteArray), 1)) (fun k => by simp [udp_Parse.j0]) (Ev.now _)
  by_cases h1 : word16 s 4 < 8
  · rw [if_pos (Or.inl h1)]
    exact ev_p h1 bad
  refine ev_n h1 ?_
  by_cases h2 : (s.size : Int) < word16 s 4
  · rw [if_pos (Or.inr h2), decide_eq_true h2]
    exact bad
  rw [if_neg (fun hh => hh.elim h1 h2), decide_eq_false h2]
  by_cases h3 : (s.size : Int) > word16 s 4
  · rw [if_pos h3]
    refine Ev.step (f := fun _ => some (0, 0, (⟨#[]⟩ : ByteArray), 6)) (fun k => ?_) (Ev.now _)
    simp only [udp_Parse.j0]
    rw [if_neg (by decide), if_pos h3]
  rw [if_neg h3]
  refine Ev.step (f := fun k => (udp_Build.f k src dst (word16 s 0) (word16 s 2) (s.extract 8 s.size)).bind fun b => if b.1.toList = s.toList then some (word16 s 0, word16 s 2, s.extract 8 s.size, 0) else some (0, 0, (⟨#[]⟩ : ByteArray), 9)) (fun k => ?_) ?_
  · simp only [udp_Parse.j0]
    rw [if_neg (by decide), if_neg h3, word_ev s (by omega), word_cut s 2 (by omega)]
    simp only [Option.bind_some]
    rw [if_pos (by omega), if_pos (by omega)]
  refine Ev.bind (build_ev _ _ _ _ _ hs hd) ?_
  by_cases h4 : (udpv src dst (word16 s 0) (word16 s 2) (s.extract 8 s.size)).1 = s
  · rw [if_pos h4]
    exact ev_p ((tl_inj _ _).2 h4) (Ev.now _)
  · rw [if_neg h4]
    exact ev_n (fun hh => h4 ((tl_inj _ _).1 hh)) (Ev.now _)
theorem works_ev : Ev (fun k => vizardlaw03_works.f k) true := by
  have e1 : udpv 167772161 167772162 1 2 (⟨#[97, 98]⟩ : ByteArray) = ((⟨#[0, 1, 0, 2, 0, 10, 138, 114, 97, 98]⟩ : ByteArray), 0) := by decide +kernel
  have e2 : udpP 167772161 167772163 (⟨#[0, 1, 0, 2, 0, 10, 138, 114, 97, 98]⟩ : ByteArray) = (0, 0, (⟨#[]⟩ : ByteArray), 9) := by decide +kernel
  refine Ev.bind (build_ev _ _ _ _ _ (by omega) (by omega)) ?_
  rw [e1]
  refine Ev.bind (parse_ev _ _ _ (by omega) (by omega)) ?_
  rw [e2]
  simp only [if_true, beq_self_eq_true]
  rw [show (⟨#[0, 1, 0, 2, 0, 10, 138, 114, 97, 98]⟩ : ByteArray).toList = ([0, 1, 0, 2, 0, 10, 138, 114, 97, 98] : List UInt8) by rw [ByteArray.toList_eq]]
  exact ev_p rfl (Ev.now _)
theorem word16_range (S : ByteArray) (i : Nat) : 0 ≤ word16 S i ∧ word16 S i ≤ 65535 := by
  have h0 := bt_range S (i : Int)
  have h1 := bt_range S ((i + 1 : Nat) : Int)
  unfold word16
  omega
theorem front_words (a b n c : Int) (d : ByteArray) (ha : 0 ≤ a ∧ a ≤ 65535) (hb : 0 ≤ b ∧ b ≤ 65535) (hn : 0 ≤ n ∧ n ≤ 65535) (hc : 0 ≤ c ∧ c ≤ 65535) :
    word16 (strOfNums (udpFront a b n c) ++ d) 0 = a ∧ word16 (strOfNums (udpFront a b n c) ++ d) 2 = b ∧ word16 (strOfNums (udpFront a b n c) ++ d) 4 = n ∧ word16 (strOfNums (udpFront a b n c) ++ d) 6 = c := by
  have hl : udpFront a b n c = [a / 256 % 256, a % 256, b / 256 % 256, b % 256, n / 256 % 256, n % 256, c / 256 % 256, c % 256] := rfl
  have hz : (strOfNums (udpFront a b n c)).size = 8 := by rw [strOfNums_size, front_length]
  have g : ∀ (i : Nat) (x : Int), (udpFront a b n c)[i]? = some x → 0 ≤ x → x < 256 → i < 8 → bt (strOfNums (udpFront a b n c) ++ d) (i : Int) = x := fun i x h h0 h1 hi => by
    rw [bt_app_left _ _ i (by omega)]
    exact bt_nums _ i x h h0 h1
  unfold word16
  rw [g 0 (a / 256 % 256) (by rw [hl]; rfl) (by omega) (by omega) (by omega), g (0 + 1) (a % 256) (by rw [hl]; rfl) (by omega) (by omega) (by omega), g 2 (b / 256 % 256) (by rw [hl]; rfl) (by omega) (by omega) (by omega), g (2 + 1) (b % 256) (by rw [hl]; rfl) (by omega) (by omega) (by omega),
    g 4 (n / 256 % 256) (by rw [hl]; rfl) (by omega) (by omega) (by omega), g (4 + 1) (n % 256) (by rw [hl]; rfl) (by omega) (by omega) (by omega), g 6 (c / 256 % 256) (by rw [hl]; rfl) (by omega) (by omega) (by omega), g (6 + 1) (c % 256) (by rw [hl]; rfl) (by omega) (by omega) (by omega)]
  omega
theorem front_rest (a b n c : Int) (d : ByteArray) : (strOfNums (udpFront a b n c) ++ d).extract 8 (strOfNums (udpFront a b n c) ++ d).size = d := by
  have hz : (strOfNums (udpFront a b n c)).size = 8 := by rw [strOfNums_size, front_length]
  rw [ByteArray.size_append, hz]
  apply ByteArray.ext
  apply Array.toList_inj.1
  have h1 : (strOfNums (udpFront a b n c)).data.toList.length = 8 := by simpa using hz
  simp only [ByteArray.data_extract, ByteArray.data_append, Array.toList_extract, Array.toList_append, List.extract_eq_take_drop]
  rw [← h1, List.drop_left, List.take_of_length_le (by simp)]
theorem udpSum_range (src dst fr to_ : Int) (d : ByteArray) (h : 0 < udpTot src dst fr to_ d) : 1 ≤ udpSum src dst fr to_ d ∧ udpSum src dst fr to_ d ≤ 65535 := by
  rw [udpSum_eq]
  have := fold_range _ (show 0 ≤ udpTot src dst fr to_ d by omega)
  split <;> omega
theorem tot_pos (src dst fr to_ : Int) (d : ByteArray) : 17 ≤ udpTot src dst fr to_ d := by
  have := (wsum_range d d.size).1
  unfold udpTot
  omega
/-! ### A header's bytes, and what they are read as -/
theorem ba_ext (a b : ByteArray) (h : a.size = b.size) (h2 : ∀ i : Nat, i < a.size → bt a (i : Int) = bt b (i : Int)) : a = b := by
  apply ByteArray.ext
  refine Array.ext h (fun i hi1 hi2 => ?_)
  have h3 := h2 i hi1
  simp only [bt, Int.toNat_natCast] at h3
  rw [dif_pos (show i < a.size from hi1), dif_pos (show i < b.size from hi2)] at h3
  exact UInt8.toNat_inj.1 (by exact_mod_cast h3)
theorem tl_iff (a b : ByteArray) : (a.toList = b.toList) ↔ a = b := by
  rw [ByteArray.toList_eq, ByteArray.toList_eq]
  constructor
  · intro h
    exact ByteArray.ext (Array.toList_inj.1 h)
  · intro h
    rw [h]
def w2 (s : ByteArray) (i : Nat) : Int := bt s (i : Int) * 256 + bt s ((i + 1 : Nat) : Int)
def w4 (s : ByteArray) (i : Nat) : Int := w2 s i * 65536 + w2 s (i + 2)
theorem w2_range (s : ByteArray) (i : Nat) : 0 ≤ w2 s i ∧ w2 s i ≤ 65535 := by
  have h0 := bt_range s (i : Int)
  have h1 := bt_range s ((i + 1 : Nat) : Int)
  unfold w2
  omega
theorem w4_range (s : ByteArray) (i : Nat) : 0 ≤ w4 s i ∧ w4 s i < 4294967296 := by
  have h0 := w2_range s i
  have h1 := w2_range s (i + 2)
  unfold w4
  omega
theorem bacc2 (s : ByteArray) (a : Nat) (h : a + 2 ≤ s.size) : bacc (s.extract a (a + 2)) (s.extract a (a + 2)).size = w2 s a := by
  have h2 : (s.extract a (a + 2)).size = 2 := by rw [ByteArray.size_extract]; omega
  have e0 := bt_extract s a (a + 2) 0 (by omega) h
  have e1 := bt_extract s a (a + 2) 1 (by omega) h
  rw [h2]
  simp only [bacc]
  simp only [Nat.add_zero] at e0
  rw [e0, e1]
  unfold w2
  omega
theorem bacc4 (s : ByteArray) (a : Nat) (h : a + 4 ≤ s.size) : bacc (s.extract a (a + 4)) (s.extract a (a + 4)).size = w4 s a := by
  have h2 : (s.extract a (a + 4)).size = 4 := by rw [ByteArray.size_extract]; omega
  have e0 := bt_extract s a (a + 4) 0 (by omega) h
  have e1 := bt_extract s a (a + 4) 1 (by omega) h
  have e2 := bt_extract s a (a + 4) 2 (by omega) h
  have e3 := bt_extract s a (a + 4) 3 (by omega) h
  rw [h2]
  simp only [bacc]
  simp only [Nat.add_zero] at e0
  rw [e0, e1, e2, e3]
  unfold w4 w2
  have e4 : bt s ((a + 2 + 1 : Nat) : Int) = bt s ((a + 3 : Nat) : Int) := rfl
  rw [e4]
  omega
/-- Some bytes of a string, as numbers. -/
def cutL (s : ByteArray) (a n : Nat) : List Int := (List.range n).map fun j => bt s ((a + j : Nat) : Int)
theorem cutL_length (s : ByteArray) (a n : Nat) : (cutL s a n).length = n := by simp [cutL]
theorem cutL_str (s : ByteArray) (a n : Nat) (h : a + n ≤ s.size) : strOfNums (cutL s a n) = s.extract a (a + n) := by
  refine ba_ext _ _ (by rw [strOfNums_size, cutL_length, ByteArray.size_extract]; omega) (fun i hi => ?_)
  rw [strOfNums_size, cutL_length] at hi
  have hb := bt_range s ((a + i : Nat) : Int)
  rw [bt_nums (cutL s a n) i (bt s ((a + i : Nat) : Int)) (by simp [cutL, hi]) (by omega) (by omega), bt_extract s a (a + n) i (by omega) h]
theorem cut_app (s : ByteArray) (a b c : Nat) (h1 : a ≤ b) (h2 : b ≤ c) (h3 : c ≤ s.size) : s.extract a b ++ s.extract b c = s.extract a c := by
  have z1 : (s.extract a b).size = b - a := by rw [ByteArray.size_extract]; omega
  have z2 : (s.extract b c).size = c - b := by rw [ByteArray.size_extract]; omega
  have z3 : (s.extract a c).size = c - a := by rw [ByteArray.size_extract]; omega
  refine ba_ext _ _ (by rw [ByteArray.size_append]; omega) (fun i hi => ?_)
  rw [ByteArray.size_append] at hi
  by_cases hl : i < b - a
  · rw [bt_app_left _ _ i (by omega), bt_extract s a b i (by omega) (by omega), bt_extract s a c i (by omega) h3]
  · obtain ⟨j, rfl⟩ : ∃ j, i = (s.extract a b).size + j := ⟨i - (b - a), by omega⟩
    rw [bt_app_right _ _ j (by omega), bt_extract s b c j (by omega) h3, bt_extract s a c _ (by omega) h3]
    congr 2
    omega
theorem cut_whole (s : ByteArray) : s.extract 0 s.size = s := by
  refine ba_ext _ _ (by rw [ByteArray.size_extract]; omega) (fun i hi => ?_)
  rw [ByteArray.size_extract] at hi
  rw [bt_extract s 0 s.size i (by omega) (Nat.le_refl _), Nat.zero_add]
theorem hd_cut (s : ByteArray) (c : Int) (h0 : bt s 0 = 69) : ipv4_Build.hd (bt s 1) (w2 s 4) (w2 s 6) (bt s 8) (bt s 9) (w4 s 12) (w4 s 16) (w2 s 2) c = cutL s 0 10 ++ [c / 256 % 256, c % 256] ++ cutL s 12 8 := by
  have r := bt_range s
  have r2 := r 2
  have r3 := r 3
  have r4 := r 4
  have r5 := r 5
  have r6 := r 6
  have r7 := r 7
  have r12 := r 12
  have r13 := r 13
  have r14 := r 14
  have r15 := r 15
  have r16 := r 16
  have r17 := r 17
  have r18 := r 18
  have r19 := r 19
  clear r
  have e1 : cutL s 0 10 = [bt s 0, bt s 1, bt s 2, bt s 3, bt s 4, bt s 5, bt s 6, bt s 7, bt s 8, bt s 9] := rfl
  have e2 : cutL s 12 8 = [bt s 12, bt s 13, bt s 14, bt s 15, bt s 16, bt s 17, bt s 18, bt s 19] := rfl
  rw [e1, e2]
  unfold ipv4_Build.hd
  have w_2 : w2 s 2 = bt s 2 * 256 + bt s 3 := rfl
  have w_4 : w2 s 4 = bt s 4 * 256 + bt s 5 := rfl
  have w_6 : w2 s 6 = bt s 6 * 256 + bt s 7 := rfl
  have w_12 : w4 s 12 = (bt s 12 * 256 + bt s 13) * 65536 + (bt s 14 * 256 + bt s 15) := rfl
  have w_16 : w4 s 16 = (bt s 16 * 256 + bt s 17) * 65536 + (bt s 18 * 256 + bt s 19) := rfl
  rw [w_2, w_4, w_6, w_12, w_16, h0]
  simp only [List.cons_append, List.nil_append, List.cons.injEq, true_and, and_true]
  refine ⟨?_, ?_, ?_, ?_, ?_, ?_, ?_, ?_, ?_, ?_, ?_, ?_, ?_, ?_⟩ <;> omega
theorem hd_length (a0 a1 a2 a3 a4 a5 a6 n s : Int) : (ipv4_Build.hd a0 a1 a2 a3 a4 a5 a6 n s).length = 20 := rfl
def isum (a0 a1 a2 a3 a4 a5 a6 : Int) (d : ByteArray) : Int := cks (strOfNums (ipv4_Build.hd a0 a1 a2 a3 a4 a5 a6 (20 + d.size) 0))
def iok (a0 a1 a2 a3 a4 : Int) : Prop := 0 ≤ a0 ∧ a0 ≤ 255 ∧ 0 ≤ a3 ∧ a3 ≤ 255 ∧ 0 ≤ a4 ∧ a4 ≤ 255 ∧ 0 ≤ a1 ∧ a1 ≤ 65535 ∧ 0 ≤ a2 ∧ a2 ≤ 65535
instance (a0 a1 a2 a3 a4 : Int) : Decidable (iok a0 a1 a2 a3 a4) := by
  unfold iok
  exact inferInstance
def ibuilt (a0 a1 a2 a3 a4 a5 a6 : Int) (d : ByteArray) : ByteArray := strOfNums (ipv4_Build.hd a0 a1 a2 a3 a4 a5 a6 (20 + d.size) (isum a0 a1 a2 a3 a4 a5 a6 d)) ++ d
def ibv (a0 a1 a2 a3 a4 a5 a6 : Int) (d : ByteArray) : ByteArray × Int := if ¬ iok a0 a1 a2 a3 a4 then (⟨#[]⟩, 2) else if (d.size : Int) > 65515 then (⟨#[]⟩, 8) else (ibuilt a0 a1 a2 a3 a4 a5 a6 d, 0)
theorem ibuilt_size (a0 a1 a2 a3 a4 a5 a6 : Int) (d : ByteArray) : (ibuilt a0 a1 a2 a3 a4 a5 a6 d).size = 20 + d.size := by
  unfold ibuilt
  rw [ByteArray.size_append, strOfNums_size, hd_length]
theorem ibuild_ev (a0 a1 a2 a3 a4 a5 a6 : Int) (d : ByteArray) : Ev (fun k => ipv4_Build.f k a0 a1 a2 a3 a4 a5 a6 d) (ibv a0 a1 a2 a3 a4 a5 a6 d) := by
  unfold ibv ipv4_Build.f
  by_cases h1 : iok a0 a1 a2 a3 a4
  rotate_left
  · rw [if_pos h1]
    exact ev_p h1 (Ev.now _)
  rw [if_neg (fun hh => hh h1)]
  refine ev_n (fun hh => hh h1) ?_
  by_cases h2 : (d.size : Int) > 65515
  · rw [if_pos h2]
    exact ev_p h2 (Ev.now _)
  rw [if_neg h2]
  refine ev_n h2 (Ev.bind (sum_ev _ (by rw [strOfNums_size, hd_length]; omega)) (Ev.now _))
theorem isum_range (a0 a1 a2 a3 a4 a5 a6 : Int) (d : ByteArray) : 0 ≤ isum a0 a1 a2 a3 a4 a5 a6 d ∧ isum a0 a1 a2 a3 a4 a5 a6 d ≤ 65535 := cks_range _
abbrev Hdr := Int × Int × Int × Int × Int × Int × Int × ByteArray × Int
def ibad (e : Int) : Hdr := (0, 0, 0, 0, 0, 0, 0, (⟨#[]⟩ : ByteArray), e)
def ipv (s : ByteArray) : Hdr :=
  if s.size < 20 then ibad 1 else if ¬ bt s 0 = 69 then ibad 3 else if w2 s 2 < 20 ∨ (s.size : Int) < w2 s 2 then ibad 1 else if ¬ (s.size : Int) = w2 s 2 then ibad 6 else
    if cks (s.extract 0 10 ++ (⟨#[0, 0]⟩ : ByteArray) ++ s.extract 12 20) = w2 s 10 then (bt s 1, w2 s 4, w2 s 6, bt s 8, bt s 9, w4 s 12, w4 s 16, s.extract 20 s.size, 0) else ibad 9
/-- A header that is built has the fields that it was built of. -/
theorem built_fields (a0 a1 a2 a3 a4 a5 a6 : Int) (d e : ByteArray) (h : iok a0 a1 a2 a3 a4) (h5 : 0 ≤ a5 ∧ a5 < 4294967296) (h6 : 0 ≤ a6 ∧ a6 < 4294967296) (hd : d.size ≤ 65515) :
    let t := ibuilt a0 a1 a2 a3 a4 a5 a6 d ++ e
    bt t 0 = 69 ∧ bt t 1 = a0 ∧ w2 t 2 = 20 + d.size ∧ w2 t 4 = a1 ∧ w2 t 6 = a2 ∧ bt t 8 = a3 ∧ bt t 9 = a4 ∧ w2 t 10 = isum a0 a1 a2 a3 a4 a5 a6 d ∧ w4 t 12 = a5 ∧ w4 t 16 = a6 := by
  intro t
  obtain ⟨b0, b1, b2, b3, b4, b5, b6, b7, b8, b9⟩ := h
  have hs := isum_range a0 a1 a2 a3 a4 a5 a6 d
  have hz := ibuilt_size a0 a1 a2 a3 a4 a5 a6 d
  have g : ∀ (i : Nat) (x : Int), (ipv4_Build.hd a0 a1 a2 a3 a4 a5 a6 (20 + d.size) (isum a0 a1 a2 a3 a4 a5 a6 d))[i]? = some x → 0 ≤ x → x < 256 → bt t (i : Int) = x := fun i x hx h0 h1 => by
    have hi : i < 20 := (List.getElem?_eq_some_iff.1 hx).1
    show bt (ibuilt a0 a1 a2 a3 a4 a5 a6 d ++ e) (i : Int) = x
    rw [bt_app_left _ _ i (by omega)]
    unfold ibuilt
    rw [bt_app_left _ _ i (by rw [strOfNums_size, hd_length]; omega)]
    exact bt_nums _ i x hx h0 h1
  have g0 := g 0 _ rfl (by omega) (by omega)
  have g1 := g 1 _ rfl (by omega) (by omega)
  have g2 := g 2 _ rfl (by omega) (by omega)
  have g3 := g 3 _ rfl (by omega) (by omega)
  have g4 := g 4 _ rfl (by omega) (by omega)
  have g5 := g 5 _ rfl (by omega) (by omega)
  have g6 := g 6 _ rfl (by omega) (by omega)
  have g7 := g 7 _ rfl (by omega) (by omega)
  have g8 := g 8 _ rfl (by omega) (by omega)
  have g9 := g 9 _ rfl (by omega) (by omega)
  have g10 := g 10 _ rfl (by omega) (by omega)
  have g11 := g 11 _ rfl (by omega) (by omega)
  have g12 := g 12 _ rfl (by omega) (by omega)
  have g13 := g 13 _ rfl (by omega) (by omega)
  have g14 := g 14 _ rfl (by omega) (by omega)
  have g15 := g 15 _ rfl (by omega) (by omega)
  have g16 := g 16 _ rfl (by omega) (by omega)
  have g17 := g 17 _ rfl (by omega) (by omega)
  have g18 := g 18 _ rfl (by omega) (by omega)
  have g19 := g 19 _ rfl (by omega) (by omega)
  clear g
  refine ⟨g0, g1, ?_, ?_, ?_, g8, g9, ?_, ?_, ?_⟩
  · show bt t ((2 : Nat) : Int) * 256 + bt t ((3 : Nat) : Int) = _
    rw [g2, g3]
    omega
  · show bt t ((4 : Nat) : Int) * 256 + bt t ((5 : Nat) : Int) = _
    rw [g4, g5]
    omega
  · show bt t ((6 : Nat) : Int) * 256 + bt t ((7 : Nat) : Int) = _
    rw [g6, g7]
    omega
  · show bt t ((10 : Nat) : Int) * 256 + bt t ((11 : Nat) : Int) = _
    rw [g10, g11]
    omega
  · show (bt t ((12 : Nat) : Int) * 256 + bt t ((13 : Nat) : Int)) * 65536 + (bt t ((14 : Nat) : Int) * 256 + bt t ((15 : Nat) : Int)) = _
    rw [g12, g13, g14, g15]
    omega
  · show (bt t ((16 : Nat) : Int) * 256 + bt t ((17 : Nat) : Int)) * 65536 + (bt t ((18 : Nat) : Int) * 256 + bt t ((19 : Nat) : Int)) = _
    rw [g16, g17, g18, g19]
    omega
theorem nosum (s : ByteArray) (h : 20 ≤ s.size) (h0 : bt s 0 = 69) :
    strOfNums (ipv4_Build.hd (bt s 1) (w2 s 4) (w2 s 6) (bt s 8) (bt s 9) (w4 s 12) (w4 s 16) (w2 s 2) 0) = s.extract 0 10 ++ (⟨#[0, 0]⟩ : ByteArray) ++ s.extract 12 20 := by
  rw [hd_cut s 0 h0, strOfNums_append, strOfNums_append, cutL_str s 0 10 (by omega), cutL_str s 12 8 (by omega)]
  rfl
theorem whole (s : ByteArray) (h : 20 ≤ s.size) (h0 : bt s 0 = 69) (c : Int) (hc : 0 ≤ c ∧ c ≤ 65535) :
    (strOfNums (ipv4_Build.hd (bt s 1) (w2 s 4) (w2 s 6) (bt s 8) (bt s 9) (w4 s 12) (w4 s 16) (w2 s 2) c) ++ s.extract 20 s.size = s) ↔ c = w2 s 10 := by
  rw [hd_cut s c h0, strOfNums_append, strOfNums_append, cutL_str s 0 10 (by omega), cutL_str s 12 8 (by omega)]
  constructor
  · intro hh
    have z0 : (s.extract 0 (0 + 10)).size = 10 := by rw [ByteArray.size_extract]; omega
    have zz : (s.extract 0 (0 + 10) ++ strOfNums [c / 256 % 256, c % 256]).size = 12 := by rw [ByteArray.size_append, z0, strOfNums_size]; rfl
    have e : ∀ (j : Nat) (x : Int), ([c / 256 % 256, c % 256] : List Int)[j]? = some x → 0 ≤ x → x < 256 → bt s ((10 + j : Nat) : Int) = x := fun j x hx hx0 hx1 => by
      have hj : j < 2 := (List.getElem?_eq_some_iff.1 hx).1
      rw [← hh, bt_app_left _ _ (10 + j) (by rw [ByteArray.size_append, zz]; omega), bt_app_left _ _ (10 + j) (by omega)]
      have := bt_app_right (s.extract 0 (0 + 10)) (strOfNums [c / 256 % 256, c % 256]) j (by rw [strOfNums_size]; exact hj)
      rw [z0] at this
      rw [this]
      exact bt_nums _ j x hx hx0 hx1
    have e0 := e 0 _ rfl (by omega) (by omega)
    have e1 := e 1 _ rfl (by omega) (by omega)
    show c = bt s ((10 : Nat) : Int) * 256 + bt s ((11 : Nat) : Int)
    rw [e0, e1]
    omega
  · intro hh
    have r0 := bt_range s ((10 : Nat) : Int)
    have r1 := bt_range s ((11 : Nat) : Int)
    have hw : c = bt s ((10 : Nat) : Int) * 256 + bt s ((11 : Nat) : Int) := hh
    have e : ([c / 256 % 256, c % 256] : List Int) = cutL s 10 2 := by
      show _ = [bt s ((10 : Nat) : Int), bt s ((11 : Nat) : Int)]
      rw [hw]
      simp only [List.cons.injEq, and_true]
      omega
    rw [e, cutL_str s 10 2 (by omega), cut_app s 0 (0 + 10) (10 + 2) (by omega) (by omega) (by omega), cut_app s 0 (10 + 2) (12 + 8) (by omega) (by omega) (by omega), cut_app s 0 (12 + 8) s.size (by omega) (by omega) (by omega), cut_whole]
/-- What is read, built again, is the bytes. -/
theorem read_built (s : ByteArray) (h : 20 ≤ s.size) (h0 : bt s 0 = 69) (hn : (s.size : Int) = w2 s 2) :
    ibv (bt s 1) (w2 s 4) (w2 s 6) (bt s 8) (bt s 9) (w4 s 12) (w4 s 16) (s.extract 20 s.size) =
      (strOfNums (ipv4_Build.hd (bt s 1) (w2 s 4) (w2 s 6) (bt s 8) (bt s 9) (w4 s 12) (w4 s 16) (w2 s 2) (cks (s.extract 0 10 ++ (⟨#[0, 0]⟩ : ByteArray) ++ s.extract 12 20))) ++ s.extract 20 s.size, 0) := by
  have hz : (s.extract 20 s.size).size = s.size - 20 := by rw [ByteArray.size_extract]; omega
  have r2 := w2_range s 2
  have r4 := w2_range s 4
  have r6 := w2_range s 6
  have r1 := bt_range s 1
  have r8 := bt_range s 8
  have r9 := bt_range s 9
  have en : (20 + ((s.extract 20 s.size).size : Int)) = w2 s 2 := by rw [hz]; omega
  unfold ibv
  rw [if_neg (fun hh => hh ⟨by omega, by omega, by omega, by omega, by omega, by omega, by omega, by omega, by omega, by omega⟩), if_neg (by omega)]
  unfold ibuilt isum
  rw [en, nosum s h h0]
theorem built_read (a0 a1 a2 a3 a4 a5 a6 : Int) (d : ByteArray) (h : iok a0 a1 a2 a3 a4) (h5 : 0 ≤ a5 ∧ a5 < 4294967296) (h6 : 0 ≤ a6 ∧ a6 < 4294967296) (hd : d.size ≤ 65515) :
    ipv (ibuilt a0 a1 a2 a3 a4 a5 a6 d) = (a0, a1, a2, a3, a4, a5, a6, d, 0) := by
  have hf := built_fields a0 a1 a2 a3 a4 a5 a6 d ⟨#[]⟩ h h5 h6 hd
  have ee : ibuilt a0 a1 a2 a3 a4 a5 a6 d ++ (⟨#[]⟩ : ByteArray) = ibuilt a0 a1 a2 a3 a4 a5 a6 d := ByteArray.append_empty
  simp only [ee] at hf
  obtain ⟨f0, f1, f2, f4, f6, f8, f9, f10, f12, f16⟩ := hf
  have hz := ibuilt_size a0 a1 a2 a3 a4 a5 a6 d
  have hx : (ibuilt a0 a1 a2 a3 a4 a5 a6 d).extract 20 (ibuilt a0 a1 a2 a3 a4 a5 a6 d).size = d := by
    refine ba_ext _ _ (by rw [ByteArray.size_extract]; omega) (fun i hi => ?_)
    rw [ByteArray.size_extract] at hi
    rw [bt_extract _ 20 _ i (by omega) (Nat.le_refl _)]
    unfold ibuilt
    have := bt_app_right (strOfNums (ipv4_Build.hd a0 a1 a2 a3 a4 a5 a6 (20 + d.size) (isum a0 a1 a2 a3 a4 a5 a6 d))) d i (by omega)
    rwa [strOfNums_size, hd_length] at this
  have hn := nosum (ibuilt a0 a1 a2 a3 a4 a5 a6 d) (by omega) f0
  rw [f1, f2, f4, f6, f8, f9, f12, f16] at hn
  unfold ipv
  rw [if_neg (by omega), if_neg (fun hh => hh f0), if_neg (by rw [f2, hz]; omega), if_neg (fun hh => hh (by rw [f2, hz]; omega)), ← hn, f10, show isum a0 a1 a2 a3 a4 a5 a6 d = cks (strOfNums (ipv4_Build.hd a0 a1 a2 a3 a4 a5 a6 (20 + d.size) 0)) from rfl, if_pos rfl, f1, f4, f6, f8, f9, f12, f16, hx]
theorem ibv_ok (a0 a1 a2 a3 a4 a5 a6 : Int) (d : ByteArray) (h : (ibv a0 a1 a2 a3 a4 a5 a6 d).2 = 0) : iok a0 a1 a2 a3 a4 ∧ d.size ≤ 65515 ∧ ibv a0 a1 a2 a3 a4 a5 a6 d = (ibuilt a0 a1 a2 a3 a4 a5 a6 d, 0) := by
  unfold ibv at h ⊢
  by_cases h1 : iok a0 a1 a2 a3 a4
  rotate_left
  · rw [if_pos h1] at h
    exact absurd h (by decide)
  rw [if_neg (fun hh => hh h1)] at h ⊢
  by_cases h2 : (d.size : Int) > 65515
  · rw [if_pos h2] at h
    exact absurd h (by decide)
  rw [if_neg h2] at h ⊢
  exact ⟨h1, by omega, rfl⟩
theorem ibv_bad (a0 a1 a2 a3 a4 a5 a6 : Int) (d : ByteArray) (h : (ibv a0 a1 a2 a3 a4 a5 a6 d).2 ≠ 0) : (ibv a0 a1 a2 a3 a4 a5 a6 d).1 = ⟨#[]⟩ := by
  unfold ibv at h ⊢
  by_cases h1 : iok a0 a1 a2 a3 a4
  rotate_left
  · rw [if_pos h1]
  rw [if_neg (fun hh => hh h1)] at h ⊢
  by_cases h2 : (d.size : Int) > 65515
  · rw [if_pos h2]
  rw [if_neg h2] at h
  exact absurd rfl h
theorem get_loop (s : ByteArray) (hs : s.size ≤ 4) (d : Nat) : ∀ i : Nat, s.size - i = d → i ≤ s.size → Ev (fun k => ipv4_get.l0 k s (bacc s i) (s.size : Int) i) (bacc s s.size) := by
  induction d with
  | zero =>
    intro i hd hi
    obtain rfl : i = s.size := by omega
    refine Ev.step (f := fun _ => some (bacc s s.size)) (fun k => ?_) (Ev.now _)
    simp only [ipv4_get.l0]
    rw [if_neg (by omega)]
  | succ d ih =>
    intro i hd hi
    have hr := bacc_range s i
    have hb := bt_range s (i : Int)
    have hp : (256 : Int) ^ i ≤ 16777216 := by
      have h6 : i = 0 ∨ i = 1 ∨ i = 2 ∨ i = 3 := by omega
      rcases h6 with rfl | rfl | rfl | rfl <;> decide
    refine Ev.step (fun k => ?_) (ih (i + 1) (by omega) (by omega))
    simp only [ipv4_get.l0]
    rw [if_pos (by omega), if_pos (by omega), if_pos (by omega), wrap_in ((i : Int) + 1) (by omega) (by omega), show bacc s i * 256 % 4294967296 = bacc s i * 256 by omega, show bt s (i : Int) % 4294967296 = bt s (i : Int) by omega]
    have := bits_join .u32 32 (by decide) (fun n h0 h1 => by rw [u32_eq]; omega) 8 (bacc s i * 256) (bt s (i : Int)) (by omega) (by omega) (by omega) hb.1 (by omega) (by omega)
    rw [this]
    rfl
theorem get_ev (s : ByteArray) (hs : s.size ≤ 4) : Ev (fun k => ipv4_get.f k s) (bacc s s.size) :=
  Ev.congr (fun k => by simp only [ipv4_get.f]; rfl) (get_loop s hs s.size 0 rfl (by omega))
theorem get2_ev (s : ByteArray) (a : Nat) (h : a + 2 ≤ s.size) : Ev (fun k => ipv4_get.f k (s.extract a (a + 2))) (w2 s a) := by
  have := get_ev (s.extract a (a + 2)) (by rw [ByteArray.size_extract]; omega)
  rwa [bacc2 s a h] at this
theorem get4_ev (s : ByteArray) (a : Nat) (h : a + 4 ≤ s.size) : Ev (fun k => ipv4_get.f k (s.extract a (a + 4))) (w4 s a) := by
  have := get_ev (s.extract a (a + 4)) (by rw [ByteArray.size_extract]; omega)
  rwa [bacc4 s a h] at this
theorem iparse_ev (s : ByteArray) : Ev (fun k => ipv4_Parse.f k s) (ipv s) := by
  unfold ipv ipv4_Parse.f
  by_cases h0 : s.size < 20
  · rw [if_pos h0]
    exact ev_p h0 (Ev.now _)
  rw [if_neg h0]
  refine ev_n h0 ?_
  by_cases h1 : bt s 0 = 69
  rotate_left
  · rw [if_pos h1]
    exact ev_p h1 (Ev.now _)
  rw [if_neg (fun hh => hh h1)]
  have r2 := w2_range s 2
  have wr : ∀ i, wrap64 (w2 s i) = w2 s i := fun i => by
    have := w2_range s i
    exact wrap_in _ (by omega) (by omega)
  have wb : ∀ i : Int, wrap64 (bt s i) = bt s i := fun i => by
    have := bt_range s i
    exact wrap_in _ (by omega) (by omega)
  refine ev_n (fun hh => hh h1) (Ev.bind (get2_ev s 2 (by omega)) ?_)
  simp only [wr]
  by_cases h2 : w2 s 2 < 20 ∨ (s.size : Int) < w2 s 2
  · rw [if_pos h2]
    exact ev_p h2 (Ev.now _)
  rw [if_neg h2]
  refine ev_n h2 ?_
  by_cases h3 : (s.size : Int) = w2 s 2
  rotate_left
  · rw [if_pos h3]
    exact ev_p h3 (Ev.now _)
  rw [if_neg (fun hh => hh h3)]
  refine ev_n (fun hh => hh h3) (Ev.bind (get2_ev s 4 (by omega)) (Ev.bind (get2_ev s 6 (by omega)) (Ev.bind (get4_ev s 12 (by omega)) (Ev.bind (get4_ev s 16 (by omega)) (Ev.bind (sum_ev _ ?_) (Ev.bind (get2_ev s 10 (by omega)) ?_))))))
  · simp only [ByteArray.size_append, ByteArray.size_extract]
    have : (⟨#[0, 0]⟩ : ByteArray).size = 2 := rfl
    omega
  simp only [wr, wb]
  by_cases h4 : cks (s.extract 0 10 ++ (⟨#[0, 0]⟩ : ByteArray) ++ s.extract 12 20) = w2 s 10
  · refine ev_p h4 ?_
    rw [if_pos h4]
    exact Ev.now _
  · refine ev_n h4 ?_
    rw [if_neg h4]
    exact Ev.now _
def ihop (s : ByteArray) : ByteArray × Int := if (ipv s).2.2.2.2.2.2.2.2 = 0 then (if (ipv s).2.2.2.1 < 2 then ((⟨#[]⟩ : ByteArray), 2) else ibv (ipv s).1 (ipv s).2.1 (ipv s).2.2.1 (wrap64 ((ipv s).2.2.2.1 - 1)) (ipv s).2.2.2.2.1 (ipv s).2.2.2.2.2.1 (ipv s).2.2.2.2.2.2.1 (ipv s).2.2.2.2.2.2.2.1) else ((⟨#[]⟩ : ByteArray), (ipv s).2.2.2.2.2.2.2.2)
theorem ipv_u32 (s : ByteArray) : (0 ≤ (ipv s).2.2.2.2.2.1 ∧ (ipv s).2.2.2.2.2.1 < 4294967296) ∧ (0 ≤ (ipv s).2.2.2.2.2.2.1 ∧ (ipv s).2.2.2.2.2.2.1 < 4294967296) := by
  have r12 := w4_range s 12
  have r16 := w4_range s 16
  unfold ipv
  repeat' split
  all_goals first | exact ⟨r12, r16⟩ | (simp only [ibad]; omega)
theorem hop_ev (s : ByteArray) : Ev (fun k => ipv4_Hop.f k s) (ihop s) := by
  unfold ihop ipv4_Hop.f
  refine Ev.bind (iparse_ev s) ?_
  by_cases h0 : (ipv s).2.2.2.2.2.2.2.2 = 0
  · rw [if_pos h0]
    refine ev_p h0 ?_
    by_cases h1 : (ipv s).2.2.2.1 < 2
    · rw [if_pos h1]
      exact ev_p h1 (Ev.now _)
    · rw [if_neg h1]
      exact ev_n h1 (ibuild_ev _ _ _ _ _ _ _ _)
  · rw [if_neg h0]
    exact ev_n h0 (Ev.now _)
theorem udp_back (src dst fr to_ : Int) (d : ByteArray) (h : (udpv src dst fr to_ d).2 = 0) :
    udpP src dst (udpv src dst fr to_ d).1 = (fr, to_, d, 0) ∧ (udpv src dst fr to_ d).1.size ≤ 65515 := by
  by_cases p1 : ¬ (0 ≤ fr ∧ fr ≤ 65535 ∧ 0 ≤ to_ ∧ to_ ≤ 65535)
  · exact absurd h (by unfold udpv; rw [if_pos p1]; decide)
  by_cases p2 : (d.size : Int) > 65507
  · exact absurd h (by unfold udpv; rw [if_neg p1, if_pos p2]; decide)
  have ev : udpv src dst fr to_ d = (strOfNums (udpFront fr to_ (8 + d.size) (udpSum src dst fr to_ d)) ++ d, 0) := by
    unfold udpv; rw [if_neg p1, if_neg p2]
  have p1' : 0 ≤ fr ∧ fr ≤ 65535 ∧ 0 ≤ to_ ∧ to_ ≤ 65535 := Classical.not_not.1 p1
  have tp := tot_pos src dst fr to_ d
  have sr := udpSum_range src dst fr to_ d (by omega)
  obtain ⟨w0, w2, w4, w6⟩ := front_words fr to_ (8 + d.size) (udpSum src dst fr to_ d) d (by omega) (by omega) (by omega) (by omega)
  have wr := front_rest fr to_ (8 + d.size) (udpSum src dst fr to_ d) d
  have hz : (strOfNums (udpFront fr to_ (8 + d.size) (udpSum src dst fr to_ d)) ++ d).size = 8 + d.size := by rw [ByteArray.size_append, strOfNums_size, front_length]
  rw [ev]
  refine ⟨?_, by show (strOfNums (udpFront fr to_ (8 + d.size) (udpSum src dst fr to_ d)) ++ d).size ≤ 65515; omega⟩
  show udpP src dst (strOfNums (udpFront fr to_ (8 + d.size) (udpSum src dst fr to_ d)) ++ d) = _
  unfold udpP
  rw [if_neg (by omega), w4, if_neg (by omega), if_neg (by omega), w0, w2, wr, ev, if_pos rfl]
theorem udpv_bad (src dst fr to_ : Int) (d : ByteArray) (h : (udpv src dst fr to_ d).2 ≠ 0) : (udpv src dst fr to_ d).1 = ⟨#[]⟩ := by
  by_cases p1 : ¬ (0 ≤ fr ∧ fr ≤ 65535 ∧ 0 ≤ to_ ∧ to_ ≤ 65535)
  · unfold udpv; rw [if_pos p1]
  by_cases p2 : (d.size : Int) > 65507
  · unfold udpv; rw [if_neg p1, if_pos p2]
  exact absurd (by unfold udpv; rw [if_neg p1, if_neg p2]) h
theorem empty_tl_ : (⟨#[]⟩ : ByteArray).toList = ([] : List UInt8) := by rw [ByteArray.toList_eq]
theorem ttl_range (a : Int) : 2 ≤ wrap64 (2 + wrap64 (Int.tmod (IntKind.u64.wrap a) 200)) ∧ wrap64 (2 + wrap64 (Int.tmod (IntKind.u64.wrap a) 200)) ≤ 201 := by
  have h0 := (u64_range a).1
  rw [Int.tmod_eq_emod_of_nonneg h0]
  have h1 := Int.emod_nonneg (IntKind.u64.wrap a) (show (200 : Int) ≠ 0 by omega)
  have h2 := Int.emod_lt_of_pos (IntKind.u64.wrap a) (show (0 : Int) < 200 by omega)
  rw [wrap_in (IntKind.u64.wrap a % 200) (by omega) (by omega), wrap_in _ (by omega) (by omega)]
  omega
theorem hop_built (a0 a1 a2 x a4 a5 a6 : Int) (d : ByteArray) (h5 : 0 ≤ a5 ∧ a5 < 4294967296) (h6 : 0 ≤ a6 ∧ a6 < 4294967296) (hd : d.size ≤ 65515) (hok : iok a0 a1 a2 x a4) (hx : x > 1) :
    ihop (ibuilt a0 a1 a2 x a4 a5 a6 d) = (ibuilt a0 a1 a2 (x - 1) a4 a5 a6 d, 0) ∧ iok a0 a1 a2 (x - 1) a4 := by
  obtain ⟨b0, b1, b2, b3, b4, b5, b6, b7, b8, b9⟩ := id hok
  have hr := built_read a0 a1 a2 x a4 a5 a6 d hok h5 h6 hd
  have hok2 : iok a0 a1 a2 (x - 1) a4 := ⟨b0, b1, by omega, by omega, b4, b5, b6, b7, b8, b9⟩
  refine ⟨?_, hok2⟩
  unfold ihop
  rw [hr]
  simp only [if_true]
  rw [if_neg (by omega), wrap_in (x - 1) (by omega) (by omega)]
  unfold ibv
  rw [if_neg (fun hh => hh hok2), if_neg (by omega)]
theorem UdpWithin : Law.Pure := by
  intro g a1 hg ha1
  have h0 := wf_u32 hg.1
  have h1 := wf_u32 hg.2.1
  obtain ⟨t0, t1⟩ := ttl_range a1
  unfold vizardlaw03_UdpWithin.f
  refine (Ev.bind works_ev (ev_p rfl (Ev.bind (build_ev g.f0 g.f1 g.f2 g.f3 g.f4 (by omega) (by omega)) ?_))).rounds
  generalize wrap64 (2 + wrap64 (Int.tmod (IntKind.u64.wrap a1) 200)) = x at t0 t1 ⊢
  by_cases e0 : (udpv g.f0 g.f1 g.f2 g.f3 g.f4).2 = 0
  rotate_left
  · refine ev_n e0 ?_
    rw [udpv_bad _ _ _ _ _ e0, empty_tl_]
    exact Ev.now _
  refine ev_p e0 ?_
  obtain ⟨hb, hz⟩ := udp_back _ _ _ _ _ e0
  generalize (udpv g.f0 g.f1 g.f2 g.f3 g.f4).1 = s at hb hz
  have hok : iok 0 0 0 x 17 := ⟨by omega, by omega, by omega, by omega, by omega, by omega, by omega, by omega, by omega, by omega⟩
  have hv : ibv 0 0 0 x 17 g.f0 g.f1 s = (ibuilt 0 0 0 x 17 g.f0 g.f1 s, 0) := by
    unfold ibv
    rw [if_neg (fun hh => hh hok), if_neg (by omega)]
  obtain ⟨hh, hok2⟩ := hop_built 0 0 0 x 17 g.f0 g.f1 s (by omega) (by omega) hz hok (by omega)
  have hr := built_read 0 0 0 (x - 1) 17 g.f0 g.f1 s hok2 (by omega) (by omega) hz
  refine Ev.bind (ibuild_ev 0 0 0 x 17 g.f0 g.f1 s) ?_
  rw [hv]
  refine ev_p rfl (Ev.bind (hop_ev _) ?_)
  rw [hh]
  refine Ev.bind (iparse_ev _) ?_
  rw [hr]
  refine Ev.bind (parse_ev g.f0 g.f1 s (by omega) (by omega)) ?_
  rw [hb]
  refine ev_p rfl (ev_p rfl (ev_p rfl (ev_p rfl (ev_p rfl ?_))))
  simp only [beq_self_eq_true]
  exact Ev.now _

end Go.Proofs.Ytmgepidjeddapaa.Pure
