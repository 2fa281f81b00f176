/- The pure law UdpTold -/
import Derived.Test.YtmgepidjeddapaaGoodUdpTold
namespace Go.Proofs.Ytmgepidjeddapaa.Pure
open Go.RowKit Go.Proofs.Ytmgepidjeddapaa.PUdpTold Go.Proofs.YtmgepidjeddapaaW.PrintWords Go.Proofs.YtmgepidjeddapaaW.PrintLast Go.Proofs.Ytmgepidjeddapaa.Opening
set_option linter.unusedVariables false
set_option linter.unusedSimpArgs false
theorem wrap_in (x : Int) (h0 : -9223372036854775808 ≤ x) (h1 : x ≤ 9223372036854775807) : wrap64 x = x := by
  unfold wrap64
  omega
theorem mx_eq (a b : Int) : mx a b = if a < b then b else a := rfl
theorem mn_eq (a b : Int) : mn a b = if b < a then b else a := rfl
theorem u64_eq (n : Int) : IntKind.u64.wrap n = n % 18446744073709551616 := by simp [IntKind.wrap, IntKind.bits, IntKind.signed]
theorem u64_range (n : Int) : 0 ≤ IntKind.u64.wrap n ∧ IntKind.u64.wrap n < 18446744073709551616 := by
  rw [u64_eq]
  omega
theorem u32_eq (n : Int) : IntKind.u32.wrap n = n % 4294967296 := by simp [IntKind.wrap, IntKind.bits, IntKind.signed]
theorem ev_p {α : Type} {c : Prop} [Decidable c] {f g : Nat → Option α} {v : α} (h : c) (e : Ev f v) : Ev (fun k => if c then f k else g k) v := Ev.congr (fun k => if_pos h) e
theorem ev_n {α : Type} {c : Prop} [Decidable c] {f g : Nat → Option α} {v : α} (h : ¬ c) (e : Ev g v) : Ev (fun k => if c then f k else g k) v := Ev.congr (fun k => if_neg h) e
/-! ### Numbers as bytes -/
/-- A number's last k bytes, the highest first. -/
def be : Int → Nat → List Int
  | _, 0 => []
  | n, k + 1 => be (n / 256) k ++ [n % 256]
theorem be_length : ∀ (k : Nat) (n : Int), (be n k).length = k
  | 0, _ => rfl
  | k + 1, n => by simp [be, be_length k]
theorem be_get : ∀ (k : Nat) (n : Int) (j : Nat), j < k → (be n k)[j]? = some (n / 256 ^ (k - 1 - j) % 256)
  | 0, _, j, h => by omega
  | k + 1, n, j, h => by
    simp only [be]
    by_cases hj : j < k
    · rw [List.getElem?_append_left (by rw [be_length]; exact hj), be_get k (n / 256) j hj]
      congr 1
      rw [Int.ediv_ediv_of_nonneg (by omega)]
      congr 1
      rw [show k + 1 - 1 - j = (k - 1 - j) + 1 by omega, Int.pow_succ, Int.mul_comm]
    · obtain rfl : j = k := by omega
      rw [List.getElem?_append_right (by rw [be_length]; omega), be_length]
      simp
theorem be_range (k : Nat) (n : Int) (x : Int) (h : x ∈ be n k) : 0 ≤ x ∧ x < 256 := by
  obtain ⟨j, hj⟩ := List.getElem?_of_mem h
  have hl : j < k := by
    have := (List.getElem?_eq_some_iff.1 hj).1
    rwa [be_length] at this
  rw [be_get k n j hl] at hj
  have := Option.some.inj hj
  omega
theorem strOfNums_append (a b : List Int) : strOfNums (a ++ b) = strOfNums a ++ strOfNums b := by
  apply ByteArray.ext
  simp [strOfNums]
/-- Bytes as a number, the highest first. -/
def bacc (s : ByteArray) : Nat → Int
  | 0 => 0
  | i + 1 => bacc s i * 256 + bt s (i : Int)
theorem bacc_range (s : ByteArray) : ∀ i : Nat, 0 ≤ bacc s i ∧ bacc s i < 256 ^ i
  | 0 => by simp [bacc]
  | i + 1 => by
    have h := bacc_range s i
    have hb := bt_range s (i : Int)
    simp only [bacc, Int.pow_succ]
    omega
theorem bt_extract (s : ByteArray) (a b i : Nat) (h : a + i < b) (hb : b ≤ s.size) : bt (s.extract a b) (i : Int) = bt s ((a + i : Nat) : Int) := by
  have h2 : (s.extract a b).size = b - a := by rw [ByteArray.size_extract]; omega
  simp only [bt, Int.toNat_natCast]
  rw [dif_pos (by omega), dif_pos (by omega), ByteArray.getElem_extract]
theorem and65535 (x : Int) (h0 : 0 ≤ x) (h1 : x < 9223372036854775808) : Go.bits .and .i64 x 65535 = x % 65536 :=
  bits_mask .i64 63 (by decide) (fun n h0 h1 => by rw [IntKind.wrap_i64]; omega) 16 (by decide) x h0 (by omega)
/-- The sum of the first words, the first byte of each the higher one. -/
def wsum (s : ByteArray) : Nat → Int
  | 0 => 0
  | i + 1 => wsum s i + bt s (i : Int) * (if i % 2 = 0 then 256 else 1)
theorem wsum_range (s : ByteArray) : ∀ i : Nat, 0 ≤ wsum s i ∧ wsum s i ≤ 65280 * (i : Int)
  | 0 => by simp [wsum]
  | i + 1 => by
    have h := wsum_range s i
    have hb := bt_range s (i : Int)
    simp only [wsum]
    split <;> omega
/-- Carries added till none is left. -/
def fold (x : Int) : Int := if x = 0 then 0 else (x - 1) % 65535 + 1
theorem fold_small (x : Int) (h0 : 0 ≤ x) (h1 : x ≤ 65535) : fold x = x := by
  unfold fold
  split <;> omega
theorem fold_step (x : Int) (h : x > 65535) : fold (x % 65536 + x / 65536) = fold x := by
  unfold fold
  rw [if_neg (by omega), if_neg (by omega)]
  omega
theorem fold_range (x : Int) (h : 0 ≤ x) : 0 ≤ fold x ∧ fold x ≤ 65535 := by
  unfold fold
  split <;> omega
def cks (s : ByteArray) : Int := 65535 - fold (wsum s s.size)
theorem cks_range (s : ByteArray) : 0 ≤ cks s ∧ cks s ≤ 65535 := by
  have := fold_range _ (wsum_range s s.size).1
  unfold cks
  omega
theorem sum_l1 (n : Nat) : ∀ x : Int, x.toNat ≤ n → 0 ≤ x → x < 9223372036854775808 → Ev (fun k => ipv4_Sum.l1 k x) (65535 - fold x) := by
  induction n using Nat.strongRecOn with
  | _ n ih =>
    intro x hn h0 h1
    by_cases h : x > 65535
    · refine Ev.step (fun k => ?_) ((fold_step x h) ▸ ih (x % 65536 + x / 65536).toNat (by omega) (x % 65536 + x / 65536) (Nat.le_refl _) (by omega) (by omega))
      simp only [ipv4_Sum.l1]
      rw [if_pos h, and65535 x h0 h1, wrap_in _ (by omega) (by omega)]
    · refine Ev.step (f := fun _ => some (65535 - fold x)) (fun k => ?_) (Ev.now _)
      simp only [ipv4_Sum.l1]
      rw [if_neg h, wrap_in _ (by omega) (by omega), fold_small x h0 (by omega)]
theorem sum_l0 (s : ByteArray) (hs : s.size ≤ 140737488355328) (d : Nat) : ∀ i : Nat, s.size - i = d → i ≤ s.size → Ev (fun k => ipv4_Sum.l0 k s (wsum s i) (s.size : Int) i) (cks s) := by
  induction d with
  | zero =>
    intro i hd hi
    obtain rfl : i = s.size := by omega
    have hw := wsum_range s s.size
    refine Ev.step (fun k => ?_) (sum_l1 _ (wsum s s.size) (Nat.le_refl _) hw.1 (by omega))
    simp only [ipv4_Sum.l0]
    rw [if_neg (by omega)]
  | succ d ih =>
    intro i hd hi
    have hw := wsum_range s i
    have hb := bt_range s (i : Int)
    have ht : Int.tmod (i : Int) 2 = (i : Int) % 2 := Int.tmod_eq_emod_of_nonneg (by omega)
    refine Ev.step (fun k => ?_) (ih (i + 1) (by omega) (by omega))
    simp only [ipv4_Sum.l0]
    rw [if_pos (by omega), if_pos (by omega), if_pos (by omega), ht, wrap_in (1 - _) (by omega) (by omega), wrap_in (8 * _) (by omega) (by omega), if_pos (by omega), wrap_in (bt s i) (by omega) (by omega)]
    have es : shl .i64 (bt s i) (8 * (1 - (i : Int) % 2)) = bt s i * (if i % 2 = 0 then 256 else 1) := by
      unfold shl
      by_cases h : i % 2 = 0
      · rw [if_pos h, show 8 * (1 - (i : Int) % 2) = 8 by omega, show min (8 : Int).toNat IntKind.i64.bits = 8 from rfl, IntKind.wrap_i64]
        omega
      · rw [if_neg h, show 8 * (1 - (i : Int) % 2) = 0 by omega, show min (0 : Int).toNat IntKind.i64.bits = 0 from rfl, IntKind.wrap_i64]
        omega
    rw [es]
    have hstep : wsum s (i + 1) = wsum s i + bt s i * (if i % 2 = 0 then 256 else 1) := rfl
    have hr := wsum_range s (i + 1)
    rw [← hstep, wrap_in _ (by omega) (by omega), wrap_in ((i : Int) + 1) (by omega) (by omega)]
    rfl
theorem sum_ev (s : ByteArray) (hs : s.size ≤ 140737488355328) : Ev (fun k => ipv4_Sum.f k s) (cks s) :=
  Ev.congr (fun k => by simp only [ipv4_Sum.f]; rfl) (sum_l0 s hs s.size 0 rfl (by omega))
theorem wsum_congr (s t : ByteArray) : ∀ n : Nat, (∀ i : Nat, i < n → bt s (i : Int) = bt t (i : Int)) → wsum s n = wsum t n
  | 0, _ => rfl
  | n + 1, h => by simp only [wsum]; rw [wsum_congr s t n (fun i hi => h i (by omega)), h n (by omega)]
theorem bt_app_left (a b : ByteArray) (i : Nat) (h : i < a.size) : bt (a ++ b) (i : Int) = bt a (i : Int) := by
  have h2 : (a ++ b).size = a.size + b.size := ByteArray.size_append
  simp only [bt, Int.toNat_natCast]
  rw [dif_pos (show i < (a ++ b).size by omega), dif_pos h, ByteArray.getElem_append_left h]
theorem bt_app_right (a b : ByteArray) (i : Nat) (h : i < b.size) : bt (a ++ b) ((a.size + i : Nat) : Int) = bt b (i : Int) := by
  have h2 : (a ++ b).size = a.size + b.size := ByteArray.size_append
  simp only [bt, Int.toNat_natCast]
  rw [dif_pos (show a.size + i < (a ++ b).size by omega), dif_pos h, ByteArray.getElem_append_right (by omega)]
  simp
theorem wsum_app_aux (a b : ByteArray) (ha : a.size % 2 = 0) : ∀ n : Nat, n ≤ b.size → wsum (a ++ b) (a.size + n) = wsum a a.size + wsum b n
  | 0, _ => by
    simp only [wsum, Nat.add_zero, Int.add_zero]
    exact wsum_congr _ _ a.size (fun i hi => bt_app_left a b i hi)
  | n + 1, h => by
    have ih := wsum_app_aux a b ha n (by omega)
    rw [show a.size + (n + 1) = (a.size + n) + 1 by omega]
    simp only [wsum]
    rw [ih, bt_app_right a b n (by omega)]
    by_cases h2 : n % 2 = 0
    · rw [if_pos (by omega), if_pos h2]; omega
    · rw [if_neg (by omega), if_neg h2]; omega
theorem wsum_app (a b : ByteArray) (ha : a.size % 2 = 0) : wsum (a ++ b) (a ++ b).size = wsum a a.size + wsum b b.size := by
  rw [ByteArray.size_append]
  exact wsum_app_aux a b ha b.size (Nat.le_refl _)
theorem bt_nums (l : List Int) (i : Nat) (x : Int) (h : l[i]? = some x) (h0 : 0 ≤ x) (h1 : x < 256) : bt (strOfNums l) (i : Int) = x := by
  have hl : i < l.length := (List.getElem?_eq_some_iff.1 h).1
  have hx : l[i] = x := (List.getElem?_eq_some_iff.1 h).2
  simp only [bt, Int.toNat_natCast]
  rw [dif_pos (by rw [strOfNums_size]; exact hl)]
  simp only [strOfNums]
  show (((l.map fun n => UInt8.ofNat n.toNat).toArray[i]'(by simpa using hl)).toNat : Int) = x
  simp [hx]
  omega
theorem wsum_be2 (x : Int) : wsum (strOfNums (be x 2)) (strOfNums (be x 2)).size = x % 65536 := by
  rw [strOfNums_size, be_length]
  have e0 := bt_nums (be x 2) 0 (x / 256 % 256) rfl (by omega) (by omega)
  have e1 := bt_nums (be x 2) 1 (x % 256) rfl (by omega) (by omega)
  have e : ∀ S : ByteArray, wsum S 2 = 0 + bt S ((0 : Nat) : Int) * 256 + bt S ((1 : Nat) : Int) * 1 := fun _ => rfl
  rw [e, e0, e1]
  omega
theorem wsum_be2_app (x : Int) (t : ByteArray) : wsum (strOfNums (be x 2) ++ t) (strOfNums (be x 2) ++ t).size = x % 65536 + wsum t t.size := by
  rw [wsum_app _ _ (by rw [strOfNums_size, be_length]), wsum_be2]
/-! ### What words and Build write -/
def wcat (l : List Int) : List Int := l.flatMap fun n => be n 2
theorem be2 (n : Int) : be n 2 = [n / 256 % 256, n % 256] := rfl
theorem wcat_length (l : List Int) : (wcat l).length = 2 * l.length := by
  induction l with
  | nil => rfl
  | cons x l ih =>
    simp only [wcat, List.flatMap_cons, List.length_append, be_length, List.length_cons] at ih ⊢
    omega
theorem words_loop (l : List Int) (hl : l.length ≤ 1000) (d : Nat) : ∀ i : Nat, l.length - i = d → i ≤ l.length → Ev (fun k => udp_words.l0 k (wcat (l.take i)) l (l.length : Int) i) (strOfNums (wcat l)) := by
  induction d with
  | zero =>
    intro i hd hi
    obtain rfl : i = l.length := by omega
    refine Ev.step (f := fun _ => some (strOfNums (wcat l))) (fun k => ?_) (Ev.now _)
    simp only [udp_words.l0]
    rw [if_neg (by omega), List.take_length]
  | succ d ih =>
    intro i hd hi
    have hr : rd l (i : Int) = l[i]'(by omega) := by
      show l.getD (i : Int).toNat 0 = _
      rw [Int.toNat_natCast, List.getD_eq_getElem?_getD, List.getElem?_eq_getElem (by omega)]
      rfl
    have e : wcat (l.take (i + 1)) = wcat (l.take i) ++ [l[i]'(by omega) / 256 % 256, l[i]'(by omega) % 256] := by
      rw [← List.take_append_getElem (show i < l.length by omega)]
      simp only [wcat, List.flatMap_append, List.flatMap_cons, List.flatMap_nil, List.append_nil]
      rfl
    have hlen := wcat_length (l.take i)
    rw [List.length_take] at hlen
    refine Ev.step (fun k => ?_) (ih (i + 1) (by omega) (by omega))
    simp only [udp_words.l0, Option.bind_some]
    rw [if_pos (by omega), if_pos (by omega), if_pos (by omega), hr, ← e, wrap_in _ (by omega) (by omega), if_pos (by simp only [List.length_cons, List.length_nil]; omega)]
    rfl
theorem words_ev (l : List Int) (hl : l.length ≤ 1000) : Ev (fun k => udp_words.f k l) (strOfNums (wcat l)) :=
  Ev.congr (fun k => by simp only [udp_words.f]; rfl) (words_loop l hl l.length 0 rfl (by omega))
theorem and65535u (x : Int) (h0 : 0 ≤ x) (h1 : x < 4294967296) : Go.bits .and .u32 x 65535 = x % 65536 :=
  bits_mask .u32 32 (by decide) (fun n h0 h1 => by rw [u32_eq]; omega) 16 (by decide) x h0 (by omega)
theorem be4 (x : Int) : be x 4 = be (x / 65536) 2 ++ be (x % 65536) 2 := by
  simp only [be, List.nil_append, List.cons_append, List.append_nil]
  simp only [List.cons.injEq, and_true]
  omega
theorem ep (x : Int) (h0 : 0 ≤ x) (h1 : x < 4294967296) : wrap64 (x / 65536) = x / 65536 ∧ wrap64 (Go.bits .and .u32 x 65535) = x % 65536 := by
  rw [and65535u x h0 h1]
  exact ⟨wrap_in _ (by omega) (by omega), wrap_in _ (by omega) (by omega)⟩
def udpPseudo (src dst fr to_ : Int) (n : Int) : List Int := be src 4 ++ be dst 4 ++ be 17 2 ++ be n 2 ++ be fr 2 ++ be to_ 2 ++ be n 2 ++ be 0 2
def udpSum (src dst fr to_ : Int) (data : ByteArray) : Int :=
  if cks (strOfNums (udpPseudo src dst fr to_ (8 + data.size)) ++ data) = 0 then 65535 else cks (strOfNums (udpPseudo src dst fr to_ (8 + data.size)) ++ data)
def udpFront (fr to_ n c : Int) : List Int := be fr 2 ++ be to_ 2 ++ be n 2 ++ be c 2
def udpv (src dst fr to_ : Int) (data : ByteArray) : ByteArray × Int :=
  if ¬ (0 ≤ fr ∧ fr ≤ 65535 ∧ 0 ≤ to_ ∧ to_ ≤ 65535) then (⟨#[]⟩, 2) else if (data.size : Int) > 65507 then (⟨#[]⟩, 8) else
    (strOfNums (udpFront fr to_ (8 + data.size) (udpSum src dst fr to_ data)) ++ data, 0)
theorem pseudo_length (src dst fr to_ n : Int) : (udpPseudo src dst fr to_ n).length = 20 := by simp only [udpPseudo, List.length_append, be_length]
theorem front_length (fr to_ n c : Int) : (udpFront fr to_ n c).length = 8 := by simp only [udpFront, List.length_append, be_length]
theorem build_ev (src dst fr to_ : Int) (data : ByteArray) (hs : 0 ≤ src ∧ src < 4294967296) (hd : 0 ≤ dst ∧ dst < 4294967296) : Ev (fun k => udp_Build.f k src dst fr to_ data) (udpv src dst fr to_ data) := by
  unfold udpv udp_Build.f
  by_cases h1 : ¬ (0 ≤ fr ∧ fr ≤ 65535 ∧ 0 ≤ to_ ∧ to_ ≤ 65535)
  · rw [if_pos h1]
    exact ev_p h1 (Ev.now _)
  refine ev_n h1 ?_
  rw [if_neg h1]
  by_cases h2 : (data.size : Int) > 65507
  · rw [if_pos h2]
    exact ev_p h2 (Ev.now _)
  refine ev_n h2 ?_
  rw [if_neg h2]
  obtain ⟨a1, a2⟩ := ep src hs.1 hs.2
  obtain ⟨b1, b2⟩ := ep dst hd.1 hd.2
  rw [a1, a2, b1, b2]
  have e : wcat [src / 65536, src % 65536, dst / 65536, dst % 65536, 17, 8 + (data.size : Int), fr, to_, 8 + (data.size : Int), 0] = udpPseudo src dst fr to_ (8 + data.size) := by
    unfold udpPseudo
    rw [be4 src, be4 dst]
    simp [wcat, List.flatMap_cons, be2]
  refine Ev.bind (words_ev _ (by simp)) ?_
  rw [e]
  have hz := pseudo_length src dst fr to_ (8 + data.size)
  have hz2 : (strOfNums (udpPseudo src dst fr to_ (8 + data.size)) ++ data).size = 20 + data.size := by rw [ByteArray.size_append, strOfNums_size, hz]
  refine ev_p (by rw [strOfNums_size]; omega) (Ev.bind (sum_ev _ (by omega)) (Ev.bind (words_ev _ (by simp)) ?_))
  have e2 : wcat [fr, to_, 8 + (data.size : Int), if cks (strOfNums (udpPseudo src dst fr to_ (8 + data.size)) ++ data) = 0 then 65535 else cks (strOfNums (udpPseudo src dst fr to_ (8 + data.size)) ++ data)] = udpFront fr to_ (8 + data.size) (udpSum src dst fr to_ data) := by
    simp [wcat, List.flatMap_cons, be2, udpFront, udpSum]
  rw [e2]
  have hf := front_length fr to_ (8 + data.size) (udpSum src dst fr to_ data)
  exact ev_p (by rw [strOfNums_size]; omega) (Ev.now _)
/-- What the words of the pseudo header, the header without its sum and the data come to. -/
def udpTot (src dst fr to_ : Int) (data : ByteArray) : Int := src / 65536 % 65536 + src % 65536 + dst / 65536 % 65536 + dst % 65536 + 17 + (8 + (data.size : Int)) % 65536 + fr % 65536 + to_ % 65536 + (8 + (data.size : Int)) % 65536 + wsum data data.size
theorem pseudo_sum (src dst fr to_ : Int) (data : ByteArray) : wsum (strOfNums (udpPseudo src dst fr to_ (8 + data.size)) ++ data) (strOfNums (udpPseudo src dst fr to_ (8 + data.size)) ++ data).size = udpTot src dst fr to_ data := by
  simp only [udpPseudo, be4, strOfNums_append, ByteArray.append_assoc, wsum_be2_app]
  unfold udpTot
  omega
theorem cks_tot (src dst fr to_ : Int) (data : ByteArray) : cks (strOfNums (udpPseudo src dst fr to_ (8 + data.size)) ++ data) = 65535 - fold (udpTot src dst fr to_ data) := by
  unfold cks
  rw [pseudo_sum]
theorem udpSum_eq (src dst fr to_ : Int) (data : ByteArray) : udpSum src dst fr to_ data = if fold (udpTot src dst fr to_ data) = 65535 then 65535 else 65535 - fold (udpTot src dst fr to_ data) := by
  unfold udpSum
  rw [cks_tot]
  split <;> split <;> omega
theorem udpv_turned (src dst fr to_ : Int) (data : ByteArray) : udpv src dst fr to_ data = udpv dst src fr to_ data := by
  have e : udpTot src dst fr to_ data = udpTot dst src fr to_ data := by
    unfold udpTot
    omega
  unfold udpv
  rw [udpSum_eq, udpSum_eq, e]
def word16 (s : ByteArray) (i : Nat) : Int := bt s (i : Int) * 256 + bt s ((i + 1 : Nat) : Int)
theorem word_ev (s : ByteArray) (h : 2 ≤ s.size) : udp_word.f s = some (word16 s 0) := by
  have h0 := bt_range s 0
  have h1 := bt_range s 1
  simp only [udp_word.f]
  rw [if_pos (by omega), if_pos (by omega), wrap_in (bt s 0) (by omega) (by omega), wrap_in (bt s 0 * 256) (by omega) (by omega), wrap_in (bt s 1) (by omega) (by omega)]
  have := bits_join .i64 63 (by decide) (fun n h0 h1 => by rw [IntKind.wrap_i64]; omega) 8 (bt s 0 * 256) (bt s 1) (by omega) (by omega) (by omega) h1.1 (by omega) (by omega)
  rw [this]
  rfl
theorem word_cut (s : ByteArray) (a : Nat) (h : a + 2 ≤ s.size) : udp_word.f (s.extract a s.size) = some (word16 s a) := by
  rw [word_ev _ (by rw [ByteArray.size_extract]; omega)]
  unfold word16
  have e0 := bt_extract s a s.size 0 (by omega) (Nat.le_refl _)
  have e1 := bt_extract s a s.size 1 (by omega) (Nat.le_refl _)
  rw [e0, e1]
  rfl
def udpP (src dst : Int) (s : ByteArray) : Int × Int × ByteArray × Int :=
  if s.size < 8 then (0, 0, (⟨#[]⟩ : ByteArray), 1) else if word16 s 4 < 8 ∨ (s.size : Int) < word16 s 4 then (0, 0, (⟨#[]⟩ : ByteArray), 1) else if (s.size : Int) > word16 s 4 then (0, 0, (⟨#[]⟩ : ByteArray), 6) else
    if (udpv src dst (word16 s 0) (word16 s 2) (s.extract 8 s.size)).1 = s then (word16 s 0, word16 s 2, s.extract 8 s.size, 0) else (0, 0, (⟨#[]⟩ : ByteArray), 9)
theorem tl_inj (a b : ByteArray) : (a.toList = b.toList) ↔ a = b := by
  rw [ByteArray.toList_eq, ByteArray.toList_eq]
  constructor
  · intro h
    exact ByteArray.ext (Array.toList_inj.1 h)
  · intro h; rw [h]
theorem parse_ev (src dst : Int) (s : ByteArray) (hs : 0 ≤ src ∧ src < 4294967296) (hd : 0 ≤ dst ∧ dst < 4294967296) : Ev (fun k => udp_Parse.f k src dst s) (udpP src dst s) := by
  unfold udpP udp_Parse.f
  by_cases h0 : s.size < 8
  · rw [if_pos h0]
    exact ev_p (by omega) (Ev.now _)
  rw [if_neg h0]
  refine ev_n (by omega) (ev_p (by omega) ?_)
  rw [word_cut s 4 (by omega)]
  simp only [Option.bind_some]
  have bad : Ev (fun k => udp_Parse.j0 k src dst s (word16 s 4) true) (0, 0, (⟨#[]⟩ : ByteArray), 1) := Ev.step (f := fun _ => some (0, 0, (⟨#[]⟩ : ByteArray), 1)) (fun k => by simp [udp_Parse.j0]) (Ev.now _)
  by_cases h1 : word16 s 4 < 8
  · rw [if_pos (Or.inl h1)]
    exact ev_p h1 bad
  refine ev_n h1 ?_
  by_cases h2 : (s.size : Int) < word16 s 4
  · rw [if_pos (Or.inr h2), decide_eq_true h2]
    exact bad
  rw [if_neg (fun hh => hh.elim h1 h2), decide_eq_false h2]
  by_cases h3 : (s.size : Int) > word16 s 4
  · rw [if_pos h3]
    refine Ev.step (f := fun _ => some (0, 0, (⟨#[]⟩ : ByteArray), 6)) (fun k => ?_) (Ev.now _)
    simp only [udp_Parse.j0]
    rw [if_neg (by decide), if_pos h3]
  rw [if_neg h3]
  refine Ev.step (f := fun k => (udp_Build.f k src dst (word16 s 0) (word16 s 2) (s.extract 8 s.size)).bind fun b => if b.1.toList = s.toList then some (word16 s 0, word16 s 2, s.extract 8 s.size, 0) else some (0, 0, (⟨#[]⟩ : ByteArray), 9)) (fun k => ?_) ?_
  · simp only [udp_Parse.j0]
    rw [if_neg (by decide), if_neg h3, word_ev s (by omega), word_cut s 2 (by omega)]
    simp only [Option.bind_some]
    rw [if_pos (by omega), if_pos (by omega)]
  refine Ev.bind (build_ev _ _ _ _ _ hs hd) ?_
  by_cases h4 : (udpv src dst (word16 s 0) (word16 s 2) (s.extract 8 s.size)).1 = s
  · rw [if_pos h4]
    exact ev_p ((tl_inj _ _).2 h4) (Ev.now _)
  · rw [if_neg h4]
    exact ev_n (fun hh => h4 ((tl_inj _ _).1 hh)) (Ev.now _)
theorem works_ev : Ev (fun k => vizardlaw03_works.f k) true := by
  have e1 : udpv 167772161 167772162 1 2 (⟨#[97, 98]⟩ : ByteArray) = ((⟨#[0, 1, 0, 2, 0, 10, 138, 114, 97, 98]⟩ : ByteArray), 0) := by decide +kernel
  have e2 : udpP 167772161 167772163 (⟨#[0, 1, 0, 2, 0, 10, 138, 114, 97, 98]⟩ : ByteArray) = (0, 0, (⟨#[]⟩ : ByteArray), 9) := by decide +kernel
  refine Ev.bind (build_ev _ _ _ _ _ (by omega) (by omega)) ?_
  rw [e1]
  refine Ev.bind (parse_ev _ _ _ (by omega) (by omega)) ?_
  rw [e2]
  simp only [if_true, beq_self_eq_true]
  rw [show (⟨#[0, 1, 0, 2, 0, 10, 138, 114, 97, 98]⟩ : ByteArray).toList = ([0, 1, 0, 2, 0, 10, 138, 114, 97, 98] : List UInt8) by rw [ByteArray.toList_eq]]
  exact ev_p rfl (Ev.now _)
theorem xor_nat (a b : Nat) (ha : a < 256) (hb : b < 256) : Go.bits .xor .u8 (a : Int) (b : Int) = ((a ^^^ b : Nat) : Int) := by
  have hx : a ^^^ b < 2 ^ 8 := Nat.xor_lt_two_pow ha hb
  have h1 : (BitVec.ofInt 8 (a : Int)).toNat = a := by
    rw [BitVec.ofInt_natCast, BitVec.toNat_ofNat]; exact Nat.mod_eq_of_lt ha
  have h2 : (BitVec.ofInt 8 (b : Int)).toNat = b := by
    rw [BitVec.ofInt_natCast, BitVec.toNat_ofNat]; exact Nat.mod_eq_of_lt hb
  show IntKind.u8.wrap ((BitVec.ofInt 8 (a : Int) ^^^ BitVec.ofInt 8 (b : Int)).toNat : Int) = _
  rw [BitVec.toNat_xor, h1, h2, show IntKind.u8.wrap ((a ^^^ b : Nat) : Int) = ((a ^^^ b : Nat) : Int) % 256 by simp [IntKind.wrap, IntKind.bits, IntKind.signed]]
  omega
theorem xor_turn (x y : Int) (hx0 : 0 ≤ x) (hx1 : x ≤ 255) (hy0 : 0 ≤ y) (hy1 : y ≤ 255) (hy : y ≠ 0) : 0 ≤ Go.bits .xor .u8 x y ∧ Go.bits .xor .u8 x y ≤ 255 ∧ Go.bits .xor .u8 x y ≠ x := by
  obtain ⟨a, rfl⟩ := Int.eq_ofNat_of_zero_le hx0
  obtain ⟨b, rfl⟩ := Int.eq_ofNat_of_zero_le hy0
  have hx : a ^^^ b < 2 ^ 8 := Nat.xor_lt_two_pow (by omega) (by omega)
  rw [xor_nat a b (by omega) (by omega)]
  refine ⟨by omega, by omega, fun e => hy ?_⟩
  have e2 : a ^^^ b = a := by omega
  have e3 : a ^^^ (a ^^^ b) = a ^^^ a := by rw [e2]
  rw [← Nat.xor_assoc, Nat.xor_self, Nat.zero_xor] at e3
  omega
theorem bytesOf_get (s : ByteArray) (i : Nat) (h : i < s.size) : (bytesOf s)[i]? = some (bt s (i : Int)) := by
  have h' : i < s.data.toList.length := by rw [data_length]; exact h
  simp only [bytesOf, List.getElem?_map, List.getElem?_eq_getElem h', Option.map_some, bt, Int.toNat_natCast, dif_pos h]
  rfl
theorem told_size (s : ByteArray) (K : Nat) (y : Int) : (toldStr s K y).size = s.size := by
  unfold toldStr
  rw [strOfNums_size, List.length_set, bytesOf_length]
theorem told_bt (s : ByteArray) (K : Nat) (y : Int) (hy0 : 0 ≤ y) (hy1 : y ≤ 255) (hy : y ≠ 0) (i : Nat) (h : i < s.size) : bt (toldStr s K y) (i : Int) = if i = K then Go.bits .xor .u8 (bt s (K : Int)) y else bt s (i : Int) := by
  have hb := bt_range s (i : Int)
  have hk := bt_range s (K : Int)
  have hx := xor_turn (bt s (K : Int)) y hk.1 hk.2 hy0 hy1 hy
  unfold toldStr
  by_cases e : i = K
  · subst e
    rw [if_pos rfl]
    exact bt_nums _ i _ (by rw [List.getElem?_set_self (by rw [bytesOf_length]; exact h)]) hx.1 (by omega)
  · rw [if_neg e]
    exact bt_nums _ i _ (by rw [List.getElem?_set_ne (fun h => e h.symm), bytesOf_get s i h]) hb.1 (by omega)
theorem told_wsum (s : ByteArray) (K : Nat) (y : Int) (hy0 : 0 ≤ y) (hy1 : y ≤ 255) (hy : y ≠ 0) : ∀ n : Nat, n ≤ s.size → wsum (toldStr s K y) n = wsum s n + (if K < n then (Go.bits .xor .u8 (bt s (K : Int)) y - bt s (K : Int)) * (if K % 2 = 0 then 256 else 1) else 0)
  | 0, _ => by simp [wsum]
  | n + 1, h => by
    have ih := told_wsum s K y hy0 hy1 hy n (by omega)
    simp only [wsum]
    rw [ih, told_bt s K y hy0 hy1 hy n (by omega)]
    by_cases e : n = K
    · subst e
      generalize (if n % 2 = 0 then (256 : Int) else 1) = W
      rw [if_neg (Nat.lt_irrefl n), if_pos rfl, if_pos (Nat.lt_succ_self n), Int.sub_mul]
      omega
    · generalize (if n % 2 = 0 then (256 : Int) else 1) = W
      rw [if_neg e]
      by_cases h2 : K < n
      · rw [if_pos h2, if_pos (Nat.lt_succ_of_lt h2)]
        exact Int.add_right_comm _ _ _
      · rw [if_neg h2, if_neg (show ¬ K < n + 1 by omega)]
        omega
theorem cut8 (S : ByteArray) (h : 8 ≤ S.size) : wsum S S.size = word16 S 0 + word16 S 2 + word16 S 4 + word16 S 6 + wsum (S.extract 8 S.size) (S.extract 8 S.size).size := by
  have e : S = S.extract 0 8 ++ S.extract 8 S.size := by
    rw [ByteArray.extract_append_extract, show min 0 8 = 0 from rfl, show max 8 S.size = S.size by omega, ByteArray.extract_zero_size]
  have hz : (S.extract 0 8).size = 8 := by rw [ByteArray.size_extract]; omega
  have hw : wsum (S.extract 0 8) (S.extract 0 8).size = word16 S 0 + word16 S 2 + word16 S 4 + word16 S 6 := by
    rw [hz]
    have g : ∀ i : Nat, i < 8 → bt (S.extract 0 8) (i : Int) = bt S (i : Int) := fun i hi => by
      have := bt_extract S 0 8 i (by omega) h
      rwa [Nat.zero_add] at this
    have x : ∀ T : ByteArray, wsum T 8 = 0 + bt T ((0 : Nat) : Int) * 256 + bt T ((1 : Nat) : Int) * 1 + bt T ((2 : Nat) : Int) * 256 + bt T ((3 : Nat) : Int) * 1 + bt T ((4 : Nat) : Int) * 256 + bt T ((5 : Nat) : Int) * 1 + bt T ((6 : Nat) : Int) * 256 + bt T ((7 : Nat) : Int) * 1 := fun _ => rfl
    rw [x, g 0 (by omega), g 1 (by omega), g 2 (by omega), g 3 (by omega), g 4 (by omega), g 5 (by omega), g 6 (by omega), g 7 (by omega)]
    simp only [word16, Nat.reduceAdd]
    omega
  have := wsum_app (S.extract 0 8) (S.extract 8 S.size) (by omega)
  rw [← e, hw] at this
  exact this
theorem word16_range (S : ByteArray) (i : Nat) : 0 ≤ word16 S i ∧ word16 S i ≤ 65535 := by
  have h0 := bt_range S (i : Int)
  have h1 := bt_range S ((i + 1 : Nat) : Int)
  unfold word16
  omega
theorem front_words (a b n c : Int) (d : ByteArray) (ha : 0 ≤ a ∧ a ≤ 65535) (hb : 0 ≤ b ∧ b ≤ 65535) (hn : 0 ≤ n ∧ n ≤ 65535) (hc : 0 ≤ c ∧ c ≤ 65535) :
    word16 (strOfNums (udpFront a b n c) ++ d) 0 = a ∧ word16 (strOfNums (udpFront a b n c) ++ d) 2 = b ∧ word16 (strOfNums (udpFront a b n c) ++ d) 4 = n ∧ word16 (strOfNums (udpFront a b n c) ++ d) 6 = c := by
  have hl : udpFront a b n c = [a / 256 % 256, a % 256, b / 256 % 256, b % 256, n / 256 % 256, n % 256, c / 256 % 256, c % 256] := rfl
  have hz : (strOfNums (udpFront a b n c)).size = 8 := by rw [strOfNums_size, front_length]
  have g : ∀ (i : Nat) (x : Int), (udpFront a b n c)[i]? = some x → 0 ≤ x → x < 256 → i < 8 → bt (strOfNums (udpFront a b n c) ++ d) (i : Int) = x := fun i x h h0 h1 hi => by
    rw [bt_app_left _ _ i (by omega)]
    exact bt_nums _ i x h h0 h1
  unfold word16
  rw [g 0 (a / 256 % 256) (by rw [hl]; rfl) (by omega) (by omega) (by omega), g (0 + 1) (a % 256) (by rw [hl]; rfl) (by omega) (by omega) (by omega), g 2 (b / 256 % 256) (by rw [hl]; rfl) (by omega) (by omega) (by omega), g (2 + 1) (b % 256) (by rw [hl]; rfl) (by omega) (by omega) (by omega),
    g 4 (n / 256 % 256) (by rw [hl]; rfl) (by omega) (by omega) (by omega), g (4 + 1) (n % 256) (by rw [hl]; rfl) (by omega) (by omega) (by omega), g 6 (c / 256 % 256) (by rw [hl]; rfl) (by omega) (by omega) (by omega), g (6 + 1) (c % 256) (by rw [hl]; rfl) (by omega) (by omega) (by omega)]
  omega
theorem front_rest (a b n c : Int) (d : ByteArray) : (strOfNums (udpFront a b n c) ++ d).extract 8 (strOfNums (udpFront a b n c) ++ d).size = d := by
  have hz : (strOfNums (udpFront a b n c)).size = 8 := by rw [strOfNums_size, front_length]
  rw [ByteArray.size_append, hz]
  apply ByteArray.ext
  apply Array.toList_inj.1
  have h1 : (strOfNums (udpFront a b n c)).data.toList.length = 8 := by simpa using hz
  simp only [ByteArray.data_extract, ByteArray.data_append, Array.toList_extract, Array.toList_append, List.extract_eq_take_drop]
  rw [← h1, List.drop_left, List.take_of_length_le (by simp)]
theorem udpSum_range (src dst fr to_ : Int) (d : ByteArray) (h : 0 < udpTot src dst fr to_ d) : 1 ≤ udpSum src dst fr to_ d ∧ udpSum src dst fr to_ d ≤ 65535 := by
  rw [udpSum_eq]
  have := fold_range _ (show 0 ≤ udpTot src dst fr to_ d by omega)
  split <;> omega
theorem tot_pos (src dst fr to_ : Int) (d : ByteArray) : 17 ≤ udpTot src dst fr to_ d := by
  have := (wsum_range d d.size).1
  unfold udpTot
  omega
theorem tot_of (src dst : Int) (S : ByteArray) (h : 8 ≤ S.size) (h2 : S.size ≤ 65515) : udpTot src dst (word16 S 0) (word16 S 2) (S.extract 8 S.size) = src / 65536 % 65536 + src % 65536 + dst / 65536 % 65536 + dst % 65536 + 17 + 2 * (S.size : Int) + (wsum S S.size - word16 S 4 - word16 S 6) := by
  have hz : (S.extract 8 S.size).size = S.size - 8 := by rw [ByteArray.size_extract]; omega
  have hw := cut8 S h
  have r0 := word16_range S 0
  have r2 := word16_range S 2
  unfold udpTot
  rw [hz] at hw ⊢
  omega
theorem told_core (t t' c q d D : Int) (h : t' = t + (d - D)) (hd : (D = 0 ∧ d ≠ 0 ∧ -65280 ≤ d ∧ d ≤ 65280) ∨ (D = d ∧ d ≠ 0)) (ht : 17 ≤ t) (ht' : 17 ≤ t')
    (hc : c = if fold t = 65535 then 65535 else 65535 - fold t) (hq : q = if fold t' = 65535 then 65535 else 65535 - fold t') (hqc : q = c + D) : False := by
  have f1 : fold t = (t - 1) % 65535 + 1 := by unfold fold; rw [if_neg (by omega)]
  have f2 : fold t' = (t' - 1) % 65535 + 1 := by unfold fold; rw [if_neg (by omega)]
  rw [f1] at hc
  rw [f2] at hq
  rcases hd with ⟨hD, h1, h2, h3⟩ | ⟨hD, h1⟩
  · split at hc <;> split at hq <;> omega
  · have e : t' = t := by omega
    rw [e] at hq
    omega
theorem step_range (x E : Int) (K : Nat) (hx0 : 0 ≤ x) (hx1 : x ≤ 255) (hE0 : 0 ≤ E) (hE1 : E ≤ 255) (hne : E ≠ x) : (E - x) * (if K % 2 = 0 then (256 : Int) else 1) ≠ 0 ∧ -65280 ≤ (E - x) * (if K % 2 = 0 then (256 : Int) else 1) ∧ (E - x) * (if K % 2 = 0 then (256 : Int) else 1) ≤ 65280 := by
  split <;> omega
set_option maxHeartbeats 3000000 in
theorem UdpTold : Law.Pure := by
  intro g a1 a2 hg ha1 ha2
  have h0 := wf_u32 hg.1
  have h1 := wf_u32 hg.2.1
  have h8 := wf_u8 ha2
  refine (Ev.bind works_ev (ev_p rfl (Ev.bind (build_ev g.f0 g.f1 g.f2 g.f3 g.f4 (by omega) (by omega)) ?_))).rounds
  by_cases e0 : (udpv g.f0 g.f1 g.f2 g.f3 g.f4).2 ≠ 0
  · exact ev_p e0 (Ev.now _)
  refine ev_n e0 ?_
  by_cases z0 : a2 = 0
  · exact ev_p z0 (Ev.now _)
  refine ev_n z0 ?_
  by_cases p1 : ¬ (0 ≤ g.f2 ∧ g.f2 ≤ 65535 ∧ 0 ≤ g.f3 ∧ g.f3 ≤ 65535)
  · exact absurd (by unfold udpv; rw [if_pos p1]; decide) e0
  by_cases p2 : (g.f4.size : Int) > 65507
  · exact absurd (by unfold udpv; rw [if_neg p1, if_pos p2]; decide) e0
  have ev : udpv g.f0 g.f1 g.f2 g.f3 g.f4 = (strOfNums (udpFront g.f2 g.f3 (8 + g.f4.size) (udpSum g.f0 g.f1 g.f2 g.f3 g.f4)) ++ g.f4, 0) := by
    unfold udpv; rw [if_neg p1, if_neg p2]
  have p1' : 0 ≤ g.f2 ∧ g.f2 ≤ 65535 ∧ 0 ≤ g.f3 ∧ g.f3 ≤ 65535 := Classical.not_not.1 p1
  rw [ev]
  have tp := tot_pos g.f0 g.f1 g.f2 g.f3 g.f4
  have sr := udpSum_range g.f0 g.f1 g.f2 g.f3 g.f4 (by omega)
  obtain ⟨w0, w2, w4, w6⟩ := front_words g.f2 g.f3 (8 + g.f4.size) (udpSum g.f0 g.f1 g.f2 g.f3 g.f4) g.f4 (by omega) (by omega) (by omega) (by omega)
  have wr := front_rest g.f2 g.f3 (8 + g.f4.size) (udpSum g.f0 g.f1 g.f2 g.f3 g.f4) g.f4
  have hz : (strOfNums (udpFront g.f2 g.f3 (8 + g.f4.size) (udpSum g.f0 g.f1 g.f2 g.f3 g.f4)) ++ g.f4).size = 8 + g.f4.size := by rw [ByteArray.size_append, strOfNums_size, front_length]
  have ht := tot_of g.f0 g.f1 _ (show 8 ≤ (strOfNums (udpFront g.f2 g.f3 (8 + g.f4.size) (udpSum g.f0 g.f1 g.f2 g.f3 g.f4)) ++ g.f4).size by omega) (by omega)
  rw [w0, w2, wr] at ht
  have hsum := udpSum_eq g.f0 g.f1 g.f2 g.f3 g.f4
  generalize hs : strOfNums (udpFront g.f2 g.f3 (8 + g.f4.size) (udpSum g.f0 g.f1 g.f2 g.f3 g.f4)) ++ g.f4 = s at hz w0 w2 w4 w6 wr ht
  dsimp only
  refine ev_p (by omega) (ev_p (by omega) ?_)
  have hK : toldAt s a1 < s.size := by
    have := Int.emod_lt_of_pos (IntKind.u64.wrap a1) (show (0 : Int) < (s.size : Int) by omega)
    have := Int.emod_nonneg (IntKind.u64.wrap a1) (show (s.size : Int) ≠ 0 by omega)
    unfold toldAt
    omega
  generalize toldAt s a1 = K at hK
  by_cases sk : toldSkip s K a2
  · exact ev_p sk (Ev.now _)
  refine ev_n sk ?_
  have k4 : K ≠ 4 ∧ K ≠ 5 := ⟨fun e => sk (Or.inl e), fun e => sk (Or.inr (Or.inl e))⟩
  refine Ev.bind (parse_ev g.f0 g.f1 _ (by omega) (by omega)) ?_
  have hb := bt_range s (K : Int)
  have hx := xor_turn (bt s (K : Int)) a2 hb.1 hb.2 h8.1 h8.2 z0
  have tz := told_size s K a2
  have tb := told_bt s K a2 h8.1 h8.2 z0
  have tw := told_wsum s K a2 h8.1 h8.2 z0 s.size (Nat.le_refl _)
  rw [if_pos hK] at tw
  have t4 : word16 (toldStr s K a2) 4 = word16 s 4 := by
    unfold word16
    rw [tb 4 (by omega), tb (4 + 1) (by omega), if_neg (by omega), if_neg (by omega)]
  have t6 : word16 (toldStr s K a2) 6 = (if K = 6 then Go.bits .xor .u8 (bt s (K : Int)) a2 else bt s ((6 : Nat) : Int)) * 256 + (if K = 7 then Go.bits .xor .u8 (bt s (K : Int)) a2 else bt s ((7 : Nat) : Int)) := by
    unfold word16
    rw [tb 6 (by omega), tb (6 + 1) (by omega)]
    congr 1
    · congr 1
      by_cases e : K = 6
      · rw [if_pos e, if_pos e.symm]
      · rw [if_neg e, if_neg (fun h => e h.symm)]
    · by_cases e : K = 7
      · rw [if_pos e, if_pos (by omega)]
      · rw [if_neg e, if_neg (by omega)]
  have s6 : word16 s 6 = bt s ((6 : Nat) : Int) * 256 + bt s ((7 : Nat) : Int) := rfl
  have e9 : udpP g.f0 g.f1 (toldStr s K a2) = (0, 0, (⟨#[]⟩ : ByteArray), 9) := by
    unfold udpP
    rw [if_neg (by omega), if_neg (by omega), if_neg (by omega)]
    by_cases q : (udpv g.f0 g.f1 (word16 (toldStr s K a2) 0) (word16 (toldStr s K a2) 2) ((toldStr s K a2).extract 8 (toldStr s K a2).size)).1 = toldStr s K a2
    · exfalso
      have r0 := word16_range (toldStr s K a2) 0
      have r2 := word16_range (toldStr s K a2) 2
      have ez : ((toldStr s K a2).extract 8 (toldStr s K a2).size).size = s.size - 8 := by rw [ByteArray.size_extract]; omega
      have tt := tot_of g.f0 g.f1 (toldStr s K a2) (by omega) (by omega)
      have tp2 := tot_pos g.f0 g.f1 (word16 (toldStr s K a2) 0) (word16 (toldStr s K a2) 2) ((toldStr s K a2).extract 8 (toldStr s K a2).size)
      have sr2 := udpSum_range g.f0 g.f1 (word16 (toldStr s K a2) 0) (word16 (toldStr s K a2) 2) ((toldStr s K a2).extract 8 (toldStr s K a2).size) (by omega)
      have hs2 := udpSum_eq g.f0 g.f1 (word16 (toldStr s K a2) 0) (word16 (toldStr s K a2) 2) ((toldStr s K a2).extract 8 (toldStr s K a2).size)
      have fw := (front_words (word16 (toldStr s K a2) 0) (word16 (toldStr s K a2) 2) (8 + (((toldStr s K a2).extract 8 (toldStr s K a2).size).size : Int)) (udpSum g.f0 g.f1 (word16 (toldStr s K a2) 0) (word16 (toldStr s K a2) 2) ((toldStr s K a2).extract 8 (toldStr s K a2).size)) ((toldStr s K a2).extract 8 (toldStr s K a2).size) (by omega) (by omega) (by omega) (by omega)).2.2.2
      have q6 : word16 (toldStr s K a2) 6 = udpSum g.f0 g.f1 (word16 (toldStr s K a2) 0) (word16 (toldStr s K a2) 2) ((toldStr s K a2).extract 8 (toldStr s K a2).size) := by
        rw [← fw]
        unfold udpv at q
        rw [if_neg (by omega), if_neg (by omega)] at q
        exact congrArg (fun z => word16 z 6) q.symm
      have sd := step_range (bt s (K : Int)) (Go.bits .xor .u8 (bt s (K : Int)) a2) K hb.1 hb.2 hx.1 hx.2.1 hx.2.2
      rw [tz] at tt
      rw [tw, t4] at tt
      rw [w4] at ht tt
      have hD : (word16 (toldStr s K a2) 6 - word16 s 6 = 0 ∧ (Go.bits .xor .u8 (bt s (K : Int)) a2 - bt s (K : Int)) * (if K % 2 = 0 then (256 : Int) else 1) ≠ 0 ∧ -65280 ≤ (Go.bits .xor .u8 (bt s (K : Int)) a2 - bt s (K : Int)) * (if K % 2 = 0 then (256 : Int) else 1) ∧ (Go.bits .xor .u8 (bt s (K : Int)) a2 - bt s (K : Int)) * (if K % 2 = 0 then (256 : Int) else 1) ≤ 65280) ∨ (word16 (toldStr s K a2) 6 - word16 s 6 = (Go.bits .xor .u8 (bt s (K : Int)) a2 - bt s (K : Int)) * (if K % 2 = 0 then (256 : Int) else 1) ∧ (Go.bits .xor .u8 (bt s (K : Int)) a2 - bt s (K : Int)) * (if K % 2 = 0 then (256 : Int) else 1) ≠ 0) := by
        rw [t6, s6]
        by_cases k6 : K = 6
        · subst k6
          rw [if_pos (show (6 : Nat) % 2 = 0 from rfl)] at sd ⊢
          rw [if_pos (show (6 : Nat) = 6 from rfl), if_neg (show ¬ (6 : Nat) = 7 by decide)]
          exact Or.inr ⟨by omega, sd.1⟩
        · by_cases k7 : K = 7
          · subst k7
            rw [if_neg (show ¬ (7 : Nat) % 2 = 0 by decide)] at sd ⊢
            rw [if_neg (show ¬ (7 : Nat) = 6 by decide), if_pos (show (7 : Nat) = 7 from rfl)]
            exact Or.inr ⟨by omega, sd.1⟩
          · rw [if_neg k6, if_neg k7]
            exact Or.inl ⟨by omega, sd⟩
      refine told_core (udpTot g.f0 g.f1 g.f2 g.f3 g.f4) _ (word16 s 6) (word16 (toldStr s K a2) 6) _ (word16 (toldStr s K a2) 6 - word16 s 6) ?_ hD tp tp2 (w6.trans hsum) (q6.trans hs2) (by omega)
      rw [tz]
      generalize (Go.bits .xor .u8 (bt s (K : Int)) a2 - bt s (K : Int)) * (if K % 2 = 0 then (256 : Int) else 1) = dd at *
      omega
    · rw [if_neg q]
  rw [e9]
  exact ev_p rfl (Ev.now _)

end Go.Proofs.Ytmgepidjeddapaa.Pure
