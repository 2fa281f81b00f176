/- Layer 14: varint's pure part (numbers, texts), as in layers 01 and 15. Put together out of their texts. -/
import Derived.Test.YtoigojlemffikaaDoorPFieldsx
namespace Go.Proofs.YtoigojlemffikaaDoor.Pure
open Go.RowKit Go.Proofs.YtoigojlemffikaaDoor.PFields Go.Proofs.YtoigojlemffikaaDoorW.PrintWords Go.Proofs.YtoigojlemffikaaDoorW.PrintLast Go.Proofs.YtoigojlemffikaaDoor.Hand
set_option linter.unusedVariables false
set_option linter.unusedSimpArgs false
theorem wrap_in (x : Int) (h0 : -9223372036854775808 ≤ x) (h1 : x ≤ 9223372036854775807) : wrap64 x = x := by
  unfold wrap64
  omega
theorem mx_eq (a b : Int) : mx a b = if a < b then b else a := rfl
theorem mn_eq (a b : Int) : mn a b = if b < a then b else a := rfl
theorem u64_eq (n : Int) : IntKind.u64.wrap n = n % 18446744073709551616 := by simp [IntKind.wrap, IntKind.bits, IntKind.signed]
theorem u64_range (n : Int) : 0 ≤ IntKind.u64.wrap n ∧ IntKind.u64.wrap n < 18446744073709551616 := by
  rw [u64_eq]
  omega
theorem u32_eq (n : Int) : IntKind.u32.wrap n = n % 4294967296 := by simp [IntKind.wrap, IntKind.bits, IntKind.signed]
theorem ev_p {α : Type} {c : Prop} [Decidable c] {f g : Nat → Option α} {v : α} (h : c) (e : Ev f v) : Ev (fun k => if c then f k else g k) v := Ev.congr (fun k => if_pos h) e
theorem ev_n {α : Type} {c : Prop} [Decidable c] {f g : Nat → Option α} {v : α} (h : ¬ c) (e : Ev g v) : Ev (fun k => if c then f k else g k) v := Ev.congr (fun k => if_neg h) e
theorem bits_and63 (x : Int) (h0 : 0 ≤ x) (h1 : x < 256) : Go.bits .and .u8 x 63 = x % 64 := u8_and63 x h0 h1
theorem or_byte (x y : Int) (hx : 0 ≤ x) (hx1 : x < 36028797018963968) (hy : 0 ≤ y) (hy1 : y < 256) : Go.bits .or .i64 (x * 256) y = x * 256 + y :=
  bits_join .i64 63 (by decide) (fun n h0 h1 => by rw [IntKind.wrap_i64]; omega) 8 _ _ (by omega) (by omega) (by omega) hy (by omega) (by omega)
/-- What the first bytes come to, the first one's two highest bits struck. -/
def vacc (s : ByteArray) : Nat → Int
  | 0 => 0
  | 1 => bt s 0 % 64
  | (i + 2) => vacc s (i + 1) * 256 + bt s ((i + 1 : Nat) : Int)
def vlenOf (b : Int) : Int := if b < 64 then 1 else if b < 128 then 2 else if b < 192 then 4 else 8
def vget (s : ByteArray) : Int × Int × Int := if s.size = 0 then (0, 0, 1) else if (s.size : Int) < vlenOf (bt s 0) then (0, 0, 1) else (vacc s (vlenOf (bt s 0)).toNat, vlenOf (bt s 0), 0)
theorem vlen_cases (b : Int) (h0 : 0 ≤ b) (h1 : b ≤ 255) : (vlenOf b = 1 ∧ b / 64 = 0) ∨ (vlenOf b = 2 ∧ b / 64 = 1) ∨ (vlenOf b = 4 ∧ b / 64 = 2) ∨ (vlenOf b = 8 ∧ b / 64 = 3) := by
  unfold vlenOf
  repeat' split
  all_goals omega
theorem vacc_range (s : ByteArray) : ∀ i : Nat, 0 ≤ vacc s (i + 1) ∧ vacc s (i + 1) < 64 * 256 ^ i
  | 0 => by
    simp only [vacc]
    omega
  | i + 1 => by
    have h := vacc_range s i
    have hb := bt_range s ((i + 1 : Nat) : Int)
    simp only [vacc, Int.pow_succ]
    omega
theorem vacc_bound (s : ByteArray) (k : Nat) (h1 : 1 ≤ k) (h8 : k < 8) : 0 ≤ vacc s k ∧ vacc s k < 18014398509481984 := by
  obtain ⟨i, rfl⟩ : ∃ i, k = i + 1 := ⟨k - 1, by omega⟩
  have h := vacc_range s i
  have h6 : i = 0 ∨ i = 1 ∨ i = 2 ∨ i = 3 ∨ i = 4 ∨ i = 5 ∨ i = 6 := by omega
  rcases h6 with rfl | rfl | rfl | rfl | rfl | rfl | rfl <;> omega
theorem vacc_le (s : ByteArray) (k : Nat) (h1 : 1 ≤ k) (h8 : k ≤ 8) : 0 ≤ vacc s k ∧ vacc s k ≤ 4611686018427387903 := by
  obtain ⟨i, rfl⟩ : ∃ i, k = i + 1 := ⟨k - 1, by omega⟩
  have h := vacc_range s i
  have h6 : i = 0 ∨ i = 1 ∨ i = 2 ∨ i = 3 ∨ i = 4 ∨ i = 5 ∨ i = 6 ∨ i = 7 := by omega
  rcases h6 with rfl | rfl | rfl | rfl | rfl | rfl | rfl | rfl <;> omega
theorem vacc_step (s : ByteArray) (k : Nat) (h1 : 1 ≤ k) : vacc s (k + 1) = vacc s k * 256 + bt s (k : Int) := by
  obtain ⟨i, rfl⟩ : ∃ i, k = i + 1 := ⟨k - 1, by omega⟩
  rfl
theorem get_loop (s : ByteArray) (K : Nat) (hK : K ≤ 8) (hs : K ≤ s.size) (d : Nat) : ∀ i : Nat, 1 ≤ i → K - i = d → i ≤ K → Ev (fun k => varint_Get.l0 k s K (vacc s i) i) (vacc s K, (K : Int), 0) := by
  induction d with
  | zero =>
    intro i h1 hd hi
    obtain rfl : i = K := by omega
    refine Ev.step (f := fun _ => some (vacc s i, (i : Int), 0)) (fun k => ?_) (Ev.now _)
    simp only [varint_Get.l0]
    rw [if_neg (by omega)]
  | succ d ih =>
    intro i h1 hd hi
    have hv := vacc_bound s i h1 (by omega)
    have hb := bt_range s (i : Int)
    refine Ev.step (fun k => ?_) (ih (i + 1) (by omega) (by omega) (by omega))
    simp only [varint_Get.l0]
    rw [if_pos (by omega), if_pos (by omega), if_pos (by omega), wrap_in (vacc s i * 256) (by omega) (by omega), wrap_in (bt s i) (by omega) (by omega), or_byte _ _ hv.1 (by omega) hb.1 (by omega), wrap_in _ (by omega) (by omega), vacc_step s i h1]
    rfl
theorem toList_nil (s : ByteArray) : (s.toList = ([] : List UInt8)) ↔ s.size = 0 := by
  have h : s.toList.length = s.size := by rw [ByteArray.toList_eq]; exact Array.length_toList
  constructor
  · intro e; rw [e] at h; simpa using h.symm
  · intro e; rw [e] at h; exact List.length_eq_zero_iff.1 h
theorem get_ev (s : ByteArray) : Ev (fun k => varint_Get.f k s) (vget s) := by
  by_cases h : s.size = 0
  · refine Ev.congr (f := fun _ => some (vget s)) (fun k => ?_) (Ev.now _)
    simp only [varint_Get.f]
    rw [if_pos ((toList_nil s).2 h)]
    simp [vget, h]
  · have hb := bt_range s 0
    have hr : rd ([1, 2, 4, 8] : List Int) (bt s 0 / 64) = vlenOf (bt s 0) := by
      rcases vlen_cases _ hb.1 hb.2 with ⟨a, b⟩ | ⟨a, b⟩ | ⟨a, b⟩ | ⟨a, b⟩ <;> rw [a, b] <;> rfl
    by_cases hlt : (s.size : Int) < vlenOf (bt s 0)
    · refine Ev.congr (f := fun _ => some (vget s)) (fun k => ?_) (Ev.now _)
      simp only [varint_Get.f]
      rw [if_neg (fun e => h ((toList_nil s).1 e)), if_pos (by omega), if_pos (by omega), if_pos (by omega), hr, if_pos hlt]
      simp [vget, h, hlt]
    · have hc := vlen_cases _ hb.1 hb.2
      obtain ⟨K, hK⟩ : ∃ K : Nat, vlenOf (bt s 0) = K := ⟨(vlenOf (bt s 0)).toNat, by omega⟩
      have hg := get_loop s K (by omega) (by omega) (K - 1) 1 (by omega) (by omega) (by omega)
      have e : vget s = (vacc s K, (K : Int), 0) := by simp [vget, h, hK]; omega
      rw [e]
      refine Ev.congr (fun k => ?_) hg
      simp only [varint_Get.f]
      rw [if_neg (fun e => h ((toList_nil s).1 e)), if_pos (by omega), if_pos (by omega), if_pos (by omega), hr, if_neg hlt, hK, bits_and63 _ hb.1 (by omega), wrap_in _ (by omega) (by omega)]
      rfl
/-- What Take answers. -/
def vtake (s : ByteArray) : ByteArray × Int × Int :=
  if (vget s).2.2 = 0 then (if (vget s).1 > (s.size : Int) - (vget s).2.1 then (⟨#[]⟩, 0, 1) else (s.extract ((vget s).2.1).toNat ((vget s).2.1 + (vget s).1).toNat, (vget s).2.1 + (vget s).1, 0)) else (⟨#[]⟩, 0, 1)
theorem vget_ok (s : ByteArray) (h : (vget s).2.2 = 0) : 1 ≤ (vget s).2.1 ∧ (vget s).2.1 ≤ 8 ∧ (vget s).2.1 ≤ s.size ∧ 0 ≤ (vget s).1 ∧ (vget s).1 ≤ 4611686018427387903 := by
  have hb := bt_range s 0
  have hc := vlen_cases _ hb.1 hb.2
  unfold vget at h ⊢
  split at h
  · simp at h
  · rename_i h0
    rw [if_neg h0]
    split at h
    · simp at h
    · rename_i h1
      rw [if_neg h1]
      have := vacc_le s (vlenOf (bt s 0)).toNat (by omega) (by omega)
      simp only
      omega
theorem vget_err (s : ByteArray) (h : (vget s).2.2 ≠ 0) : vget s = (0, 0, 1) := by
  unfold vget at h ⊢
  repeat' split
  all_goals first | rfl | (simp_all; done)
theorem take_ev (s : ByteArray) (hs : s.size ≤ 4611686018427387903) : Ev (fun k => varint_Take.f k s) (vtake s) := by
  refine Ev.bind (get_ev s) (Ev.congr (f := fun _ => some (vtake s)) (fun k => ?_) (Ev.now _))
  unfold vtake
  by_cases h : (vget s).2.2 = 0
  · have := vget_ok s h
    rw [if_pos h, if_pos h, wrap_in ((s.size : Int) - _) (by omega) (by omega)]
    by_cases h2 : (vget s).1 > (s.size : Int) - (vget s).2.1
    · rw [if_pos h2, if_pos h2]
    · rw [if_neg h2, if_neg h2, wrap_in _ (by omega) (by omega), if_pos (by omega), if_pos (by omega), if_pos (by omega)]
  · rw [if_neg h, if_neg h]
/-! ### What Put writes -/
/-- A number's last k bytes, the highest first. -/
def be : Int → Nat → List Int
  | _, 0 => []
  | n, k + 1 => be (n / 256) k ++ [n % 256]
theorem be_length : ∀ (k : Nat) (n : Int), (be n k).length = k
  | 0, _ => rfl
  | k + 1, n => by simp [be, be_length k]
theorem be_get : ∀ (k : Nat) (n : Int) (j : Nat), j < k → (be n k)[j]? = some (n / 256 ^ (k - 1 - j) % 256)
  | 0, _, j, h => by omega
  | k + 1, n, j, h => by
    simp only [be]
    by_cases hj : j < k
    · rw [List.getElem?_append_left (by rw [be_length]; exact hj), be_get k (n / 256) j hj]
      congr 1
      rw [Int.ediv_ediv_of_nonneg (by omega)]
      congr 1
      rw [show k + 1 - 1 - j = (k - 1 - j) + 1 by omega, Int.pow_succ, Int.mul_comm]
    · obtain rfl : j = k := by omega
      rw [List.getElem?_append_right (by rw [be_length]; omega), be_length]
      simp
theorem be_range (k : Nat) (n : Int) (x : Int) (h : x ∈ be n k) : 0 ≤ x ∧ x < 256 := by
  obtain ⟨j, hj⟩ := List.getElem?_of_mem h
  have hl : j < k := by
    have := (List.getElem?_eq_some_iff.1 hj).1
    rwa [be_length] at this
  rw [be_get k n j hl] at hj
  have := Option.some.inj hj
  omega
def vsize (n : Int) : Nat := if n < 0 then 0 else if n < 64 then 1 else if n < 16384 then 2 else if n < 1073741824 then 4 else if n < 4611686018427387904 then 8 else 0
theorem form_cases (n : Int) : (vform n = -1 ∧ vsize n = 0 ∧ (n < 0 ∨ 4611686018427387904 ≤ n)) ∨ (vform n = 0 ∧ vsize n = 1 ∧ 0 ≤ n ∧ n < 64) ∨ (vform n = 1 ∧ vsize n = 2 ∧ 64 ≤ n ∧ n < 16384) ∨ (vform n = 2 ∧ vsize n = 4 ∧ 16384 ≤ n ∧ n < 1073741824) ∨ (vform n = 3 ∧ vsize n = 8 ∧ 1073741824 ≤ n ∧ n < 4611686018427387904) := by
  unfold vform vsize
  repeat' split
  all_goals omega
/-- A number's bytes, its form in the first one. -/
def vlist (n : Int) : List Int := (be n (vsize n)).set 0 ((be n (vsize n)).getD 0 0 + 64 * vform n)
def vput (n : Int) : ByteArray := if vform n < 0 then ⟨#[]⟩ else strOfNums (vlist n)
/-- The first byte has room for the form. -/
theorem head_small (n : Int) (h : 0 ≤ vform n) : 0 ≤ (be n (vsize n)).getD 0 0 ∧ (be n (vsize n)).getD 0 0 < 64 := by
  rcases form_cases n with ⟨a, b, _⟩ | ⟨a, b, c, d⟩ | ⟨a, b, c, d⟩ | ⟨a, b, c, d⟩ | ⟨a, b, c, d⟩
  · omega
  all_goals
    rw [b, List.getD_eq_getElem?_getD, be_get _ _ 0 (by omega)]
    simp
    omega
theorem u8_or64 (x y : Int) (h0 : 0 ≤ x) (h1 : x < 64) (hy0 : 0 ≤ y) (hy : y < 4) : Go.bits .or .u8 x (y * 64) = x + 64 * y := by
  have hc : y = 0 ∨ y = 1 ∨ y = 2 ∨ y = 3 := by omega
  obtain ⟨a, rfl⟩ := Int.eq_ofNat_of_zero_le h0
  have ha : a < 64 := by omega
  have key : ∀ b : Fin 64, ∀ c : Fin 4, Go.bits .or .u8 ((b.val : Nat) : Int) ((c.val : Int) * 64) = (b.val : Int) + 64 * (c.val : Int) := by decide +kernel
  rcases hc with rfl | rfl | rfl | rfl
  · exact key ⟨a, ha⟩ 0
  · exact key ⟨a, ha⟩ 1
  · exact key ⟨a, ha⟩ 2
  · exact key ⟨a, ha⟩ 3
theorem put_loop (n f : Int) (K : Nat) (hK : K ≤ 8) (hK0 : 0 < K) (hn : 0 ≤ n) (hf0 : 0 ≤ f) (hf : f < 4) (hh : (be n K).getD 0 0 < 64) (d : Nat) : ∀ (i : Nat) (l : List Int), K - i = d → i ≤ K → l.length = K → (∀ j : Nat, j < i → l[j]? = (be n K)[j]?) →
    Ev (fun k => varint_Put.l0 k n f l (K : Int) i) (strOfNums ((be n K).set 0 ((be n K).getD 0 0 + 64 * f))) := by
  induction d with
  | zero =>
    intro i l hd hi hl hj
    obtain rfl : i = K := by omega
    have he : l = be n i := by
      apply List.ext_getElem?
      intro j
      by_cases h : j < i
      · exact hj j h
      · rw [List.getElem?_eq_none (by omega), List.getElem?_eq_none (by rw [be_length]; omega)]
    subst he
    refine Ev.step (f := fun _ => some (strOfNums ((be n i).set 0 ((be n i).getD 0 0 + 64 * f)))) (fun k => ?_) (Ev.now _)
    have h0 : 0 ≤ (be n i).getD 0 0 := by
      rw [List.getD_eq_getElem?_getD, be_get _ _ 0 hK0]
      simp
      omega
    simp only [varint_Put.l0]
    rw [if_neg (by omega), if_pos (by rw [be_length]; omega), show f % 256 * 64 % 256 = f * 64 by omega, show rd (be n i) 0 = (be n i).getD 0 0 from rfl, u8_or64 _ _ h0 hh hf0 hf]
    rfl
  | succ d ih =>
    intro i l hd hi hl hj
    refine Ev.step (fun k => ?_) (ih (i + 1) (l.set i (n / 256 ^ (K - 1 - i) % 256)) (by omega) (by omega) (by rw [List.length_set]; exact hl) (fun j hj2 => ?_))
    · have es : shr .i64 n (8 * (((K : Int) - 1) - i)) = n / 256 ^ (K - 1 - i) := by
        unfold shr
        rw [show min (8 * (((K : Int) - 1) - i)).toNat IntKind.i64.bits = 8 * (K - 1 - i) by simp [IntKind.bits]; omega, show (256 : Int) = 2 ^ 8 from rfl, ← Int.pow_mul]
      simp only [varint_Put.l0]
      rw [if_pos (by omega), hl, wrap_in ((K : Int) - 1) (by omega) (by omega), wrap_in ((K : Int) - 1 - i) (by omega) (by omega), wrap_in (8 * ((K : Int) - 1 - i)) (by omega) (by omega), if_pos (by omega), if_pos (by omega), if_pos (by omega), es, wrap_in _ (by omega) (by omega)]
      rfl
    · by_cases e : i = j
      · subst e
        rw [List.getElem?_set_self (by omega), be_get K n i (by omega)]
      · rw [List.getElem?_set_ne e, hj j (by omega)]
theorem put_ev (n : Int) : Ev (fun k => varint_Put.f k n) (vput n) := by
  have hc := form_cases n
  by_cases h : vform n < 0
  · refine Ev.congr (f := fun _ => some (vput n)) (fun k => ?_) (Ev.now _)
    simp only [varint_Put.f, varint_form.f, Option.bind_some]
    rw [if_pos h]
    simp [vput, h]
  · have hh := head_small n (by omega)
    have hr : rd ([1, 2, 4, 8] : List Int) (vform n) = (vsize n : Int) := by
      rcases hc with ⟨a, b, _⟩ | ⟨a, b, _⟩ | ⟨a, b, _⟩ | ⟨a, b, _⟩ | ⟨a, b, _⟩
      · omega
      all_goals rw [a, b]; rfl
    have hp := put_loop n (vform n) (vsize n) (by omega) (by omega) (by omega) (by omega) (by omega) hh.2 (vsize n) 0 (List.replicate (vsize n) 0) (by omega) (by omega) (by simp) (fun j hj => by omega)
    have e : vput n = strOfNums ((be n (vsize n)).set 0 ((be n (vsize n)).getD 0 0 + 64 * vform n)) := by simp [vput, h, vlist]
    rw [e]
    refine Ev.congr (fun k => ?_) hp
    simp only [varint_Put.f, varint_form.f, Option.bind_some]
    rw [if_neg h, if_pos (by omega), if_pos (by omega), hr, if_pos (by omega), if_pos (by omega)]
    simp
theorem vput_size (n : Int) : (vput n).size = vsize n := by
  have hc := form_cases n
  unfold vput
  by_cases h : vform n < 0
  · rw [if_pos h]
    show 0 = _
    omega
  · rw [if_neg h, strOfNums_size, vlist, List.length_set, be_length]
theorem bt_append_left (a b : ByteArray) (i : Nat) (h : i < a.size) : bt (a ++ b) (i : Int) = bt a (i : Int) := by
  have h2 : (a ++ b).size = a.size + b.size := ByteArray.size_append
  simp only [bt, Int.toNat_natCast]
  rw [dif_pos (show i < (a ++ b).size by omega), dif_pos h, ByteArray.getElem_append_left h]
theorem bt_append_right (a b : ByteArray) (i : Nat) : bt (a ++ b) ((a.size + i : Nat) : Int) = bt b (i : Int) := by
  have h2 : (a ++ b).size = a.size + b.size := ByteArray.size_append
  simp only [bt, Int.toNat_natCast]
  by_cases h : i < b.size
  · rw [dif_pos (show a.size + i < (a ++ b).size by omega), dif_pos h, ByteArray.getElem_append_right (by omega)]
    simp
  · rw [dif_neg (by omega), dif_neg h]
theorem bt_extract (s : ByteArray) (a b i : Nat) (h : i < b - a) (hb : b ≤ s.size) : bt (s.extract a b) (i : Int) = bt s ((a + i : Nat) : Int) := by
  have h2 : (s.extract a b).size = b - a := by rw [ByteArray.size_extract]; omega
  simp only [bt, Int.toNat_natCast]
  rw [dif_pos (by omega), dif_pos (by omega), ByteArray.getElem_extract]
/-- What bytes come to, the highest first. -/
def nacc (s : ByteArray) : Nat → Int
  | 0 => 0
  | i + 1 => nacc s i * 256 + bt s (i : Int)
theorem number_loop (s : ByteArray) (hs : s.size ≤ 8) (hb : ∀ i : Nat, i < s.size → 0 ≤ nacc s i ∧ nacc s i < 18014398509481984) (d : Nat) : ∀ i : Nat, s.size - i = d → i ≤ s.size → Ev (fun k => vizardref01_Number.l0 k s (nacc s i) i) (nacc s s.size) := by
  induction d with
  | zero =>
    intro i hd hi
    obtain rfl : i = s.size := by omega
    refine Ev.step (f := fun _ => some (nacc s s.size)) (fun k => ?_) (Ev.now _)
    simp only [vizardref01_Number.l0]
    rw [if_neg (by omega)]
  | succ d ih =>
    intro i hd hi
    have hv := hb i (by omega)
    have hr := bt_range s (i : Int)
    refine Ev.step (fun k => ?_) (ih (i + 1) (by omega) (by omega))
    simp only [vizardref01_Number.l0]
    rw [if_pos (by omega), if_pos (by omega), wrap_in (nacc s i * 256) (by omega) (by omega), wrap_in (bt s i) (by omega) (by omega), wrap_in _ (by omega) (by omega), wrap_in _ (by omega) (by omega)]
    rfl
theorem one_size (x : Int) : (strOfNums [x]).size = 1 := rfl
theorem one_bt (x : Int) (h0 : 0 ≤ x) (h1 : x ≤ 255) : bt (strOfNums [x]) 0 = x := by
  have h : bt (strOfNums [x]) 0 = ((UInt8.ofNat x.toNat).toNat : Int) := rfl
  rw [h]
  simp
  omega
theorem rget_loop (s : ByteArray) (h0 : 0 < s.size) (hs : s.size ≤ 140737488351232) (d : Nat) : ∀ (i K : Nat), (bt s 0 / 64) - i = d → (i = 0 ∧ K = 1 ∨ i = 1 ∧ K = 2 ∨ i = 2 ∧ K = 4 ∨ i = 3 ∧ K = 8) → (i : Int) ≤ bt s 0 / 64 →
    Ev (fun k => vizardref01_Get.l0 k s K i) (vget s) := by
  have hb := bt_range s 0
  induction d with
  | zero =>
    intro i K hd hK hi
    have hc := vlen_cases _ hb.1 hb.2
    have hl : vlenOf (bt s 0) = K := by omega
    have e1 : Int.tdiv (bt s 0) 64 = bt s 0 / 64 := Int.tdiv_eq_ediv_of_nonneg hb.1
    have e2 : Int.tmod (bt s 0) 64 = bt s 0 % 64 := Int.tmod_eq_emod_of_nonneg hb.1
    by_cases hlt : (s.size : Int) < K
    · refine Ev.step (f := fun _ => some (vget s)) (fun k => ?_) (Ev.now _)
      simp only [vizardref01_Get.l0]
      rw [if_pos (by omega), e1, if_neg (by omega), if_pos hlt]
      simp [vget, hl, hlt, show ¬ s.size = 0 by omega]
    · let t := strOfNums [bt s 0 % 64] ++ s.extract 1 K
      have hts : t.size = K := by
        have : t.size = (strOfNums [bt s 0 % 64]).size + (s.extract 1 K).size := ByteArray.size_append
        rw [this, one_size, ByteArray.size_extract]
        omega
      have hn : ∀ j : Nat, 1 ≤ j → j ≤ K → nacc t j = vacc s j := by
        intro j
        induction j with
        | zero => intro h; omega
        | succ j ihj =>
          intro h1 h2
          by_cases hj : j = 0
          · subst hj
            simp only [nacc, vacc]
            have : bt t ((0 : Nat) : Int) = bt s 0 % 64 := by
              rw [bt_append_left _ _ 0 (by rw [one_size]; omega)]
              exact one_bt _ (by omega) (by omega)
            rw [this]
            omega
          · rw [vacc_step s j (by omega), ← ihj (by omega) (by omega)]
            simp only [nacc]
            congr 1
            have : bt t (((strOfNums [bt s 0 % 64]).size + (j - 1) : Nat) : Int) = bt (s.extract 1 K) ((j - 1 : Nat) : Int) := bt_append_right _ _ _
            rw [one_size, show 1 + (j - 1) = j by omega, bt_extract s 1 K (j - 1) (by omega) (by omega), show 1 + (j - 1) = j by omega] at this
            exact this
      have hnum := number_loop t (by omega) (fun j hj => by
        by_cases h1 : j = 0
        · subst h1; simp [nacc]
        · rw [hn j (by omega) (by omega)]; exact vacc_bound s j (by omega) (by omega)) t.size 0 (by omega) (by omega)
      rw [hts, hn K (by omega) (by omega)] at hnum
      have e : vget s = (vacc s K, (K : Int), 0) := by simp [vget, hl, show ¬ s.size = 0 by omega]; omega
      rw [e]
      refine Ev.step (f := fun k => (vizardref01_Number.f k t).bind fun t105 => some (t105, (K : Int), (0 : Int))) (fun k => ?_) (Ev.bind hnum (Ev.now _))
      have hsz : (strOfNums [bt s 0 % 64]).size + (s.extract 1 K).size ≤ 9223372036854775807 := by
        rw [one_size, ByteArray.size_extract]
        omega
      simp only [vizardref01_Get.l0, e1, e2]
      rw [if_pos (by omega), if_neg (by omega), if_neg hlt]
      simp only [Option.bind_some, Int.toNat_natCast]
      rw [if_pos (by omega), if_pos (by omega), if_pos hsz]
  | succ d ih =>
    intro i K hd hK hi
    have e1 : Int.tdiv (bt s 0) 64 = bt s 0 / 64 := Int.tdiv_eq_ediv_of_nonneg hb.1
    refine Ev.step (fun k => ?_) (ih (i + 1) (2 * K) (by omega) (by omega) (by omega))
    simp only [vizardref01_Get.l0]
    rw [if_pos (by omega), e1, if_pos (by omega), wrap_in _ (by omega) (by omega), show ((i : Int) + 1) % 256 = ((i + 1 : Nat) : Int) by omega]
    rfl
theorem rget_ev (s : ByteArray) (hs : s.size ≤ 140737488351232) : Ev (fun k => vizardref01_Get.f k s) (vget s) := by
  by_cases h : s.size = 0
  · refine Ev.congr (f := fun _ => some (vget s)) (fun k => ?_) (Ev.now _)
    simp only [vizardref01_Get.f]
    rw [if_pos (by omega)]
    simp [vget, h]
  · have hb := bt_range s 0
    refine Ev.congr (fun k => ?_) (rget_loop s (by omega) hs (bt s 0 / 64).toNat 0 1 (by omega) (by omega) (by omega))
    simp only [vizardref01_Get.f]
    rw [if_neg (by omega)]
    rfl
theorem rtake_ev (s : ByteArray) (hs : s.size ≤ 140737488351232) : Ev (fun k => vizardref01_Take.f k s) (vtake s) := by
  refine Ev.bind (rget_ev s hs) (Ev.congr (f := fun _ => some (vtake s)) (fun k => ?_) (Ev.now _))
  unfold vtake
  by_cases h : (vget s).2.2 = 0
  · have := vget_ok s h
    rw [if_pos h, if_pos h, wrap_in ((s.size : Int) - _) (by omega) (by omega)]
    by_cases h2 : (s.size : Int) - (vget s).2.1 < (vget s).1
    · have h3 : (vget s).1 > (s.size : Int) - (vget s).2.1 := h2
      simp only [if_pos h2, if_pos h3]
    · have h3 : ¬ (vget s).1 > (s.size : Int) - (vget s).2.1 := h2
      simp only [if_neg h2, if_neg h3]
      rw [wrap_in _ (by omega) (by omega), if_pos (by omega), if_pos (by omega), if_pos (by omega)]
  · rw [if_neg h, if_neg h]
theorem strOfNums_append (a b : List Int) : strOfNums (a ++ b) = strOfNums a ++ strOfNums b := by
  apply ByteArray.ext
  simp [strOfNums]
theorem bytes_r : ∀ (K : Nat) (n : Int), 0 ≤ n → n < 9223372036854775808 → K ≤ 8 → Ev (fun k => vizardref01_Bytes.f k n K) (strOfNums (be n K))
  | 0, n, _, _, _ => by
    refine Ev.step (f := fun _ => some (⟨#[]⟩ : ByteArray)) (fun k => ?_) (Ev.now _)
    simp [vizardref01_Bytes.f]
  | K + 1, n, h0, h1, hK => by
    have e1 : Int.tdiv n 256 = n / 256 := Int.tdiv_eq_ediv_of_nonneg h0
    have e2 : Int.tmod n 256 = n % 256 := Int.tmod_eq_emod_of_nonneg h0
    refine Ev.step (f := fun k => (vizardref01_Bytes.f k (n / 256) K).bind fun t111 => ((some (([n % 256] : List Int) : List Int)).bind fun y112 => (if t111.size + (strOfNums y112).size ≤ 9223372036854775807 then (some (t111 ++ (strOfNums y112))) else (none)))) (fun k => ?_) (Ev.bind (bytes_r K (n / 256) (by omega) (by omega) (by omega)) (Ev.congr (f := fun _ => some (strOfNums (be n (K + 1)))) (fun _ => ?_) (Ev.now _)))
    · simp only [vizardref01_Bytes.f]
      rw [if_neg (by omega), e1, e2, wrap_in _ (by omega) (by omega), wrap_in _ (by omega) (by omega), show n % 256 % 256 = n % 256 by omega, show ((K + 1 : Nat) : Int) - 1 = K by omega]
    · simp only [Option.bind_some]
      rw [if_pos (by rw [strOfNums_size, strOfNums_size, be_length]; simp; omega)]
      congr 1
      simp only [be]
      exact (strOfNums_append _ _).symm
theorem bytesOf_be (n : Int) (K : Nat) : bytesOf (strOfNums (be n K)) = be n K := by
  unfold bytesOf
  rw [strOfNums_data, List.map_map]
  refine List.ext_getElem? (fun j => ?_)
  rw [List.getElem?_map]
  cases hv : (be n K)[j]? with
  | none => rfl
  | some x =>
    have := be_range K n x (List.mem_of_getElem? hv)
    simp
    omega
theorem size_r (n : Int) : Ev (fun k => vizardref01_Size.f k n) (vsize n : Int) := by
  refine Ev.of (fun k => vizardref01_Size.mono n k) (k := 3) ?_
  unfold vsize
  simp only [vizardref01_Size.f, vizardref01_Size.j0]
  by_cases h0 : n < 0
  · simp [h0]
  · by_cases h1 : n > 4611686018427387903
    · simp [h0, h1, show ¬ n < 64 by omega, show ¬ n < 16384 by omega, show ¬ n < 1073741824 by omega, show ¬ n < 4611686018427387904 by omega]
    · simp only [h0, h1, if_false, decide_false, Bool.false_eq_true, show n < 4611686018427387904 by omega, if_true]
      repeat' split
      all_goals first | rfl | omega
theorem put_r (n : Int) : Ev (fun k => vizardref01_Put.f k n) (vput n) := by
  have hc := form_cases n
  refine Ev.bind (size_r n) ?_
  by_cases h : vform n < 0
  · have e : (vsize n : Int) = 0 := by omega
    simp only [if_pos e]
    have e2 : vput n = ⟨#[]⟩ := by simp [vput, h]
    rw [e2]
    exact Ev.now _
  · have e : ¬ (vsize n : Int) = 0 := by omega
    simp only [if_neg e]
    refine Ev.bind (bytes_r (vsize n) n (by omega) (by omega) (by omega)) ?_
    have hm : vizardref01_Put.mark (vsize n : Int) = some (vform n) := by
      rcases hc with ⟨a, b, _⟩ | ⟨a, b, _⟩ | ⟨a, b, _⟩ | ⟨a, b, _⟩ | ⟨a, b, _⟩
      · omega
      all_goals rw [a, b]; rfl
    have hs : (strOfNums (be n (vsize n))).size = vsize n := by rw [strOfNums_size, be_length]
    have hh := head_small n (by omega)
    refine Ev.congr (f := fun _ => some (vput n)) (fun k => ?_) (Ev.now _)
    rw [hm]
    simp only [Option.bind_some]
    rw [if_pos (by omega), if_pos (by omega), bytesOf_be, show ((be n (vsize n)).getD 0 0 + 64 * vform n) % 256 = (be n (vsize n)).getD 0 0 + 64 * vform n by omega]
    simp [vput, h, vlist]
/-! ### What Put writes is got again -/
theorem bt_append_left2 (a b : ByteArray) (i : Nat) (h : i < a.size) : bt (a ++ b) (i : Int) = bt a (i : Int) := by
  have h2 : (a ++ b).size = a.size + b.size := ByteArray.size_append
  simp only [bt, Int.toNat_natCast]
  rw [dif_pos (show i < (a ++ b).size by omega), dif_pos h, ByteArray.getElem_append_left h]
theorem bt_extract0 (s : ByteArray) (b i : Nat) (h : i < b) (hb : b ≤ s.size) : bt (s.extract 0 b) (i : Int) = bt s (i : Int) := by
  have h2 : (s.extract 0 b).size = b := by rw [ByteArray.size_extract]; omega
  simp only [bt, Int.toNat_natCast]
  rw [dif_pos (by omega), dif_pos (by omega), ByteArray.getElem_extract]
  simp
theorem bt_strOfNums (l : List Int) (i : Nat) (x : Int) (h : l[i]? = some x) (h0 : 0 ≤ x) (h1 : x < 256) : bt (strOfNums l) (i : Int) = x := by
  have hl : i < l.length := (List.getElem?_eq_some_iff.1 h).1
  have hx : l[i] = x := (List.getElem?_eq_some_iff.1 h).2
  simp only [bt, Int.toNat_natCast]
  rw [dif_pos (by rw [strOfNums_size]; exact hl)]
  simp only [strOfNums]
  show (((l.map fun n => UInt8.ofNat n.toNat).toArray[i]'(by simpa using hl)).toNat : Int) = x
  simp [hx]
  omega
theorem vput_bt (n : Int) (h : 0 ≤ vform n) (i : Nat) (hi : i < vsize n) : bt (vput n) (i : Int) = (if i = 0 then (n / 256 ^ (vsize n - 1)) + 64 * vform n else n / 256 ^ (vsize n - 1 - i) % 256) := by
  have hh := head_small n h
  have hc := form_cases n
  have e : vput n = strOfNums (vlist n) := by simp [vput, show ¬ vform n < 0 by omega]
  have e0 : (be n (vsize n)).getD 0 0 = n / 256 ^ (vsize n - 1) := by
    rw [List.getD_eq_getElem?_getD, be_get _ _ 0 (by omega)]
    simp
    rcases hc with ⟨a, b, _⟩ | ⟨a, b, c, d⟩ | ⟨a, b, c, d⟩ | ⟨a, b, c, d⟩ | ⟨a, b, c, d⟩
    · omega
    all_goals
      rw [b]
      omega
  rw [e]
  by_cases h0 : i = 0
  · subst h0
    rw [if_pos rfl, ← e0]
    exact bt_strOfNums _ 0 _ (by rw [vlist, List.getElem?_set_self (by rw [be_length]; omega)]) (by omega) (by omega)
  · rw [if_neg h0]
    exact bt_strOfNums _ i _ (by rw [vlist, List.getElem?_set_ne (by omega), be_get _ _ i hi]) (by omega) (by omega)
theorem pow_split (n : Int) (a : Nat) : n / 256 ^ (a + 1) * 256 + n / 256 ^ a % 256 = n / 256 ^ a := by
  rw [Int.pow_succ, ← Int.ediv_ediv_of_nonneg (Int.pow_nonneg (by omega) : (0 : Int) ≤ 256 ^ a)]
  omega
/-- s begins as Put writes n. -/
def Begins (s : ByteArray) (n : Int) (c : Nat) : Prop := ∀ i : Nat, i < c → bt s (i : Int) = bt (vput n) (i : Int)
theorem begins_head (s : ByteArray) (n : Int) (h : 0 ≤ vform n) (c : Nat) (hc : 0 < c) (hb : Begins s n c) : vlenOf (bt s 0) = vsize n ∧ bt s 0 % 64 = n / 256 ^ (vsize n - 1) := by
  have hf := form_cases n
  have e := hb 0 hc
  rw [vput_bt n h 0 (by omega)] at e
  simp only [if_true] at e
  have e' : bt s 0 = n / 256 ^ (vsize n - 1) + 64 * vform n := e
  rw [e']
  rcases hf with ⟨a, b, _⟩ | ⟨a, b, c, d⟩ | ⟨a, b, c, d⟩ | ⟨a, b, c, d⟩ | ⟨a, b, c, d⟩
  · omega
  all_goals
    rw [a, b]
    unfold vlenOf
    constructor
    · repeat' split
      all_goals omega
    · omega
theorem begins_acc (s : ByteArray) (n : Int) (h : 0 ≤ vform n) (hb : Begins s n (vsize n)) : ∀ i : Nat, i + 1 ≤ vsize n → vacc s (i + 1) = n / 256 ^ (vsize n - (i + 1))
  | 0, hi => by
    have := (begins_head s n h (vsize n) (by omega) hb).2
    simpa [vacc] using this
  | i + 1, hi => by
    have ih := begins_acc s n h hb i (by omega)
    have e := hb (i + 1) (by omega)
    rw [vput_bt n h (i + 1) (by omega), if_neg (by omega)] at e
    simp only [vacc]
    rw [ih, e]
    have := pow_split n (vsize n - (i + 1 + 1))
    rw [show vsize n - (i + 1 + 1) + 1 = vsize n - (i + 1) by omega] at this
    rw [show vsize n - 1 - (i + 1) = vsize n - (i + 1 + 1) by omega]
    exact this
theorem vget_whole (s : ByteArray) (n : Int) (h : 0 ≤ vform n) (hs : vsize n ≤ s.size) (hb : Begins s n (vsize n)) : vget s = (n, (vsize n : Int), 0) := by
  have hc := form_cases n
  have hl := (begins_head s n h (vsize n) (by omega) hb).1
  have ha := begins_acc s n h hb (vsize n - 1) (by omega)
  rw [show vsize n - 1 + 1 = vsize n by omega] at ha
  simp [vget, hl, show ¬ s.size = 0 by omega, show ¬ (s.size : Int) < (vsize n : Int) by omega, ha]
theorem vget_cut (s : ByteArray) (n : Int) (h : 0 ≤ vform n) (hs : s.size < vsize n) (hb : Begins s n s.size) : vget s = (0, 0, 1) := by
  by_cases h0 : s.size = 0
  · simp [vget, h0]
  · have hl := (begins_head s n h s.size (by omega) hb).1
    simp [vget, hl, h0]
    omega
theorem begins_append (n : Int) (more : ByteArray) : Begins (vput n ++ more) n (vsize n) := fun i hi => bt_append_left _ _ i (by rw [vput_size]; exact hi)
theorem begins_extract (s : ByteArray) (n : Int) (c : Nat) (hc : c ≤ s.size) (k : Nat) (hk : k ≤ c) (hb : Begins s n k) : Begins (s.extract 0 c) n k := fun i hi => by
  rw [bt_extract0 s c i (by omega) hc]
  exact hb i hi
def vtext (s : ByteArray) : ByteArray := vput (s.size : Int) ++ s
theorem form_ok (n : Int) (h0 : 0 ≤ n) (h1 : n < 4611686018427387904) : 0 ≤ vform n ∧ 1 ≤ vsize n ∧ vsize n ≤ 8 := by
  have := form_cases n
  omega
theorem text_ev (s : ByteArray) (hs : s.size ≤ 140737488351232) : Ev (fun k => varint_Text.f k s) (vtext s) := by
  have hf := form_ok (s.size : Int) (by omega) (by omega)
  refine Ev.bind (put_ev _) (Ev.congr (f := fun _ => some (vtext s)) (fun k => ?_) (Ev.now _))
  rw [if_pos (by rw [vput_size]; omega)]
  rfl
theorem extract_mid (a b c : ByteArray) : (a ++ b ++ c).extract a.size (a.size + b.size) = b := by
  apply ByteArray.ext
  apply Array.toList_inj.1
  have h1 : a.data.toList.length = a.size := by simp
  have h2 : b.data.toList.length = b.size := by simp
  simp only [ByteArray.data_extract, ByteArray.data_append, Array.toList_extract, Array.toList_append, List.extract_eq_take_drop]
  rw [List.append_assoc, ← h1, List.drop_left, show a.data.toList.length + b.size - a.data.toList.length = b.data.toList.length by omega, List.take_left]
theorem vtake_text (s more : ByteArray) (hs : s.size ≤ 140737488351232) : vtake (vtext s ++ more) = (s, ((vtext s).size : Int), 0) := by
  have hf := form_ok (s.size : Int) (by omega) (by omega)
  have ht : (vtext s).size = vsize s.size + s.size := by rw [vtext, ByteArray.size_append, vput_size]
  have hz : (vtext s ++ more).size = vsize s.size + s.size + more.size := by rw [ByteArray.size_append, ht]
  have hg : vget (vtext s ++ more) = ((s.size : Int), (vsize s.size : Int), 0) := by
    refine vget_whole _ _ hf.1 (by omega) ?_
    unfold vtext
    rw [ByteArray.append_assoc]
    exact begins_append _ _
  have he : (vtext s ++ more).extract (vsize s.size) (vsize s.size + s.size) = s := by
    have := extract_mid (vput s.size) s more
    rwa [vput_size] at this
  unfold vtake
  rw [hg, ht]
  simp only [if_true]
  rw [if_neg (by omega), show ((vsize s.size : Int) + (s.size : Int)).toNat = vsize s.size + s.size by omega, Int.toNat_natCast, he]
  congr 1
theorem vtake_cut (s : ByteArray) (hs : s.size ≤ 140737488351232) (c : Nat) (hc : c < (vtext s).size) : vtake ((vtext s).extract 0 c) = (⟨#[]⟩, 0, 1) := by
  have hf := form_ok (s.size : Int) (by omega) (by omega)
  have ht : (vtext s).size = vsize s.size + s.size := by rw [vtext, ByteArray.size_append, vput_size]
  have hz : ((vtext s).extract 0 c).size = c := by rw [ByteArray.size_extract]; omega
  have hb : Begins (vtext s) s.size (vsize s.size) := begins_append _ _
  unfold vtake
  by_cases h : vsize (s.size : Int) ≤ c
  · rw [vget_whole _ (s.size : Int) hf.1 (by omega) (begins_extract _ _ c (by omega) _ h hb)]
    simp only [if_true]
    rw [if_pos (by omega)]
  · rw [vget_cut _ (s.size : Int) hf.1 (by omega) (by rw [hz]; exact begins_extract _ _ c (by omega) c (by omega) (fun i hi => hb i (by omega)))]
    rfl
theorem ba_nil (s : ByteArray) : (⟨#[]⟩ : ByteArray) ++ s = s := ByteArray.empty_append
theorem vtext_size (s : ByteArray) (hs : s.size ≤ 140737488351232) : 1 ≤ (vtext s).size ∧ (vtext s).size ≤ 140737488351240 := by
  have hf := form_ok (s.size : Int) (by omega) (by omega)
  have ht : (vtext s).size = vsize s.size + s.size := by rw [vtext, ByteArray.size_append, vput_size]
  omega
end Go.Proofs.YtoigojlemffikaaDoor.Pure
