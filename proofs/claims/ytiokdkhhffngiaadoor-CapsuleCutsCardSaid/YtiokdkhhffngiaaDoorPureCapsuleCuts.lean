/- The pure law CapsuleCuts -/
import Derived.Test.YtiokdkhhffngiaaDoorGoodCapsuleCuts
import Derived.Test.YtiokdkhhffngiaaDoorPCapsuleCutsx1
import Derived.Test.YtiokdkhhffngiaaDoorHand
namespace Go.Proofs.YtiokdkhhffngiaaDoor.Pure
open Go.RowKit Go.Proofs.YtiokdkhhffngiaaDoor.PCapsuleCuts Go.Proofs.YtiokdkhhffngiaaDoorW.PrintWords Go.Proofs.YtiokdkhhffngiaaDoorW.PrintLast Go.Proofs.YtiokdkhhffngiaaDoor.Opening Go.Proofs.YtiokdkhhffngiaaDoor.Hand
set_option linter.unusedVariables false
set_option linter.unusedSimpArgs false
theorem wrap_in (x : Int) (h0 : -9223372036854775808 ≤ x) (h1 : x ≤ 9223372036854775807) : wrap64 x = x := by
  unfold wrap64
  omega
theorem mx_eq (a b : Int) : mx a b = if a < b then b else a := rfl
theorem mn_eq (a b : Int) : mn a b = if b < a then b else a := rfl
theorem u64_eq (n : Int) : IntKind.u64.wrap n = n % 18446744073709551616 := by simp [IntKind.wrap, IntKind.bits, IntKind.signed]
theorem u64_range (n : Int) : 0 ≤ IntKind.u64.wrap n ∧ IntKind.u64.wrap n < 18446744073709551616 := by
  rw [u64_eq]
  omega
theorem u32_eq (n : Int) : IntKind.u32.wrap n = n % 4294967296 := by simp [IntKind.wrap, IntKind.bits, IntKind.signed]
theorem ev_p {α : Type} {c : Prop} [Decidable c] {f g : Nat → Option α} {v : α} (h : c) (e : Ev f v) : Ev (fun k => if c then f k else g k) v := Ev.congr (fun k => if_pos h) e
theorem ev_n {α : Type} {c : Prop} [Decidable c] {f g : Nat → Option α} {v : α} (h : ¬ c) (e : Ev g v) : Ev (fun k => if c then f k else g k) v := Ev.congr (fun k => if_neg h) e
theorem bits_and63 (x : Int) (h0 : 0 ≤ x) (h1 : x < 256) : Go.bits .and .u8 x 63 = x % 64 := u8_and63 x h0 h1
theorem or_byte (x y : Int) (hx : 0 ≤ x) (hx1 : x < 36028797018963968) (hy : 0 ≤ y) (hy1 : y < 256) : Go.bits .or .i64 (x * 256) y = x * 256 + y :=
  bits_join .i64 63 (by decide) (fun n h0 h1 => by rw [IntKind.wrap_i64]; omega) 8 _ _ (by omega) (by omega) (by omega) hy (by omega) (by omega)
/-- What the first bytes come to, the first one's two highest bits struck. -/
def vacc (s : ByteArray) : Nat → Int
  | 0 => 0
  | 1 => bt s 0 % 64
  | (i + 2) => vacc s (i + 1) * 256 + bt s ((i + 1 : Nat) : Int)
def vlenOf (b : Int) : Int := if b < 64 then 1 else if b < 128 then 2 else if b < 192 then 4 else 8
def vget (s : ByteArray) : Int × Int × Int := if s.size = 0 then (0, 0, 1) else if (s.size : Int) < vlenOf (bt s 0) then (0, 0, 1) else (vacc s (vlenOf (bt s 0)).toNat, vlenOf (bt s 0), 0)
theorem vlen_cases (b : Int) (h0 : 0 ≤ b) (h1 : b ≤ 255) : (vlenOf b = 1 ∧ b / 64 = 0) ∨ (vlenOf b = 2 ∧ b / 64 = 1) ∨ (vlenOf b = 4 ∧ b / 64 = 2) ∨ (vlenOf b = 8 ∧ b / 64 = 3) := by
  unfold vlenOf
  repeat' split
  all_goals omega
theorem vacc_range (s : ByteArray) : ∀ i : Nat, 0 ≤ vacc s (i + 1) ∧ vacc s (i + 1) < 64 * 256 ^ i
  | 0 => by
    simp only [vacc]
    omega
  | i + 1 => by
    have h := vacc_range s i
    have hb := bt_range s ((i + 1 : Nat) : Int)
    simp only [vacc, Int.pow_succ]
    omega
theorem vacc_bound (s : ByteArray) (k : Nat) (h1 : 1 ≤ k) (h8 : k < 8) : 0 ≤ vacc s k ∧ vacc s k < 18014398509481984 := by
  obtain ⟨i, rfl⟩ : ∃ i, k = i + 1 := ⟨k - 1, by omega⟩
  have h := vacc_range s i
  have h6 : i = 0 ∨ i = 1 ∨ i = 2 ∨ i = 3 ∨ i = 4 ∨ i = 5 ∨ i = 6 := by omega
  rcases h6 with rfl | rfl | rfl | rfl | rfl | rfl | rfl <;> omega
theorem vacc_le (s : ByteArray) (k : Nat) (h1 : 1 ≤ k) (h8 : k ≤ 8) : 0 ≤ vacc s k ∧ vacc s k ≤ 4611686018427387903 := by
  obtain ⟨i, rfl⟩ : ∃ i, k = i + 1 := ⟨k - 1, by omega⟩
  have h := vacc_range s i
  have h6 : i = 0 ∨ i = 1 ∨ i = 2 ∨ i = 3 ∨ i = 4 ∨ i = 5 ∨ i = 6 ∨ i = 7 := by omega
  rcases h6 with rfl | rfl | rfl | rfl | rfl | rfl | rfl | rfl <;> omega
theorem vacc_step (s : ByteArray) (k : Nat) (h1 : 1 ≤ k) : vacc s (k + 1) = vacc s k * 256 + bt s (k : Int) := by
  obtain ⟨i, rfl⟩ : ∃ i, k = i + 1 := ⟨k - 1, by omega⟩
  rfl
theorem get_loop (s : ByteArray) (K : Nat) (hK : K ≤ 8) (hs : K ≤ s.size) (d : Nat) : ∀ i : Nat, 1 ≤ i → K - i = d → i ≤ K → Ev (fun k => varint_Get.l0 k s K (vacc s i) i) (vacc s K, (K : Int), 0) := by
  induction d with
  | zero =>
    intro i h1 hd hi
    obtain rfl : i = K := by omega
    refine Ev.step (f := fun _ => some (vacc s i, (i : Int), 0)) (fun k => ?_) (Ev.now _)
    simp only [varint_Get.l0]
    rw [if_neg (by omega)]
  | succ d ih =>
    intro i h1 hd hi
    have hv := vacc_bound s i h1 (by omega)
    have hb := bt_range s (i : Int)
    refine Ev.step (fun k => ?_) (ih (i + 1) (by omega) (by omega) (by omega))
    simp only [varint_Get.l0]
    rw [if_pos (by omega), if_pos (by omega), if_pos (by omega), wrap_in (vacc s i * 256) (by omega) (by omega), wrap_in (bt s i) (by omega) (by omega), or_byte _ _ hv.1 (by omega) hb.1 (by omega), wrap_in _ (by omega) (by omega), vacc_step s i h1]
    rfl
theorem toList_nil (s : ByteArray) : (s.toList = ([] : List UInt8)) ↔ s.size = 0 := by
  have h : s.toList.length = s.size := by rw [ByteArray.toList_eq]; exact Array.length_toList
  constructor
  · intro e; rw [e] at h; simpa using h.symm
  · intro e; rw [e] at h; exact List.length_eq_zero_iff.1 h
theorem get_ev (s : ByteArray) : Ev (fun k => varint_Get.f k s) (vget s) := by
  by_cases h : s.size = 0
  · refine Ev.congr (f := fun _ => some (vget s)) (fun k => ?_) (Ev.now _)
    simp only [varint_Get.f]
    rw [if_pos ((toList_nil s).2 h)]
    simp [vget, h]
  · have hb := bt_range s 0
    have hr : rd ([1, 2, 4, 8] : List Int) (bt s 0 / 64) = vlenOf (bt s 0) := by
      rcases vlen_cases _ hb.1 hb.2 with ⟨a, b⟩ | ⟨a, b⟩ | ⟨a, b⟩ | ⟨a, b⟩ <;> rw [a, b] <;> rfl
    by_cases hlt : (s.size : Int) < vlenOf (bt s 0)
    · refine Ev.congr (f := fun _ => some (vget s)) (fun k => ?_) (Ev.now _)
      simp only [varint_Get.f]
      rw [if_neg (fun e => h ((toList_nil s).1 e)), if_pos (by omega), if_pos (by omega), if_pos (by omega), hr, if_pos hlt]
      simp [vget, h, hlt]
    · have hc := vlen_cases _ hb.1 hb.2
      obtain ⟨K, hK⟩ : ∃ K : Nat, vlenOf (bt s 0) = K := ⟨(vlenOf (bt s 0)).toNat, by omega⟩
      have hg := get_loop s K (by omega) (by omega) (K - 1) 1 (by omega) (by omega) (by omega)
      have e : vget s = (vacc s K, (K : Int), 0) := by simp [vget, h, hK]; omega
      rw [e]
      refine Ev.congr (fun k => ?_) hg
      simp only [varint_Get.f]
      rw [if_neg (fun e => h ((toList_nil s).1 e)), if_pos (by omega), if_pos (by omega), if_pos (by omega), hr, if_neg hlt, hK, bits_and63 _ hb.1 (by omega), wrap_in _ (by omega) (by omega)]
      rfl
/-- What Take answers. -/
def vtake (s : ByteArray) : ByteArray × Int × Int :=
  if (vget s).2.2 = 0 then (if (vget s).1 > (s.size : Int) - (vget s).2.1 then (⟨#[]⟩, 0, 1) else (s.extract ((vget s).2.1).toNat ((vget s).2.1 + (vget s).1).toNat, (vget s).2.1 + (vget s).1, 0)) else (⟨#[]⟩, 0, 1)
theorem vget_ok (s : ByteArray) (h : (vget s).2.2 = 0) : 1 ≤ (vget s).2.1 ∧ (vget s).2.1 ≤ 8 ∧ (vget s).2.1 ≤ s.size ∧ 0 ≤ (vget s).1 ∧ (vget s).1 ≤ 4611686018427387903 := by
  have hb := bt_range s 0
  have hc := vlen_cases _ hb.1 hb.2
  unfold vget at h ⊢
  split at h
  · simp at h
  · rename_i h0
    rw [if_neg h0]
    split at h
    · simp at h
    · rename_i h1
      rw [if_neg h1]
      have := vacc_le s (vlenOf (bt s 0)).toNat (by omega) (by omega)
      simp only
      omega
theorem vget_err (s : ByteArray) (h : (vget s).2.2 ≠ 0) : vget s = (0, 0, 1) := by
  unfold vget at h ⊢
  repeat' split
  all_goals first | rfl | (simp_all; done)
/-! ### What Put writes -/
/-- A number's last k bytes, the highest first. -/
def be : Int → Nat → List Int
  | _, 0 => []
  | n, k + 1 => be (n / 256) k ++ [n % 256]
theorem be_length : ∀ (k : Nat) (n : Int), (be n k).length = k
  | 0, _ => rfl
  | k + 1, n => by simp [be, be_length k]
theorem be_get : ∀ (k : Nat) (n : Int) (j : Nat), j < k → (be n k)[j]? = some (n / 256 ^ (k - 1 - j) % 256)
  | 0, _, j, h => by omega
  | k + 1, n, j, h => by
    simp only [be]
    by_cases hj : j < k
    · rw [List.getElem?_append_left (by rw [be_length]; exact hj), be_get k (n / 256) j hj]
      congr 1
      rw [Int.ediv_ediv_of_nonneg (by omega)]
      congr 1
      rw [show k + 1 - 1 - j = (k - 1 - j) + 1 by omega, Int.pow_succ, Int.mul_comm]
    · obtain rfl : j = k := by omega
      rw [List.getElem?_append_right (by rw [be_length]; omega), be_length]
      simp
theorem be_range (k : Nat) (n : Int) (x : Int) (h : x ∈ be n k) : 0 ≤ x ∧ x < 256 := by
  obtain ⟨j, hj⟩ := List.getElem?_of_mem h
  have hl : j < k := by
    have := (List.getElem?_eq_some_iff.1 hj).1
    rwa [be_length] at this
  rw [be_get k n j hl] at hj
  have := Option.some.inj hj
  omega
def vsize (n : Int) : Nat := if n < 0 then 0 else if n < 64 then 1 else if n < 16384 then 2 else if n < 1073741824 then 4 else if n < 4611686018427387904 then 8 else 0
theorem form_cases (n : Int) : (vform n = -1 ∧ vsize n = 0 ∧ (n < 0 ∨ 4611686018427387904 ≤ n)) ∨ (vform n = 0 ∧ vsize n = 1 ∧ 0 ≤ n ∧ n < 64) ∨ (vform n = 1 ∧ vsize n = 2 ∧ 64 ≤ n ∧ n < 16384) ∨ (vform n = 2 ∧ vsize n = 4 ∧ 16384 ≤ n ∧ n < 1073741824) ∨ (vform n = 3 ∧ vsize n = 8 ∧ 1073741824 ≤ n ∧ n < 4611686018427387904) := by
  unfold vform vsize
  repeat' split
  all_goals omega
/-- A number's bytes, its form in the first one. -/
def vlist (n : Int) : List Int := (be n (vsize n)).set 0 ((be n (vsize n)).getD 0 0 + 64 * vform n)
def vput (n : Int) : ByteArray := if vform n < 0 then ⟨#[]⟩ else strOfNums (vlist n)
/-- The first byte has room for the form. -/
theorem head_small (n : Int) (h : 0 ≤ vform n) : 0 ≤ (be n (vsize n)).getD 0 0 ∧ (be n (vsize n)).getD 0 0 < 64 := by
  rcases form_cases n with ⟨a, b, _⟩ | ⟨a, b, c, d⟩ | ⟨a, b, c, d⟩ | ⟨a, b, c, d⟩ | ⟨a, b, c, d⟩
  · omega
  all_goals
    rw [b, List.getD_eq_getElem?_getD, be_get _ _ 0 (by omega)]
    simp
    omega
theorem u8_or64 (x y : Int) (h0 : 0 ≤ x) (h1 : x < 64) (hy0 : 0 ≤ y) (hy : y < 4) : Go.bits .or .u8 x (y * 64) = x + 64 * y := by
  have hc : y = 0 ∨ y = 1 ∨ y = 2 ∨ y = 3 := by omega
  obtain ⟨a, rfl⟩ := Int.eq_ofNat_of_zero_le h0
  have ha : a < 64 := by omega
  have key : ∀ b : Fin 64, ∀ c : Fin 4, Go.bits .or .u8 ((b.val : Nat) : Int) ((c.val : Int) * 64) = (b.val : Int) + 64 * (c.val : Int) := by decide +kernel
  rcases hc with rfl | rfl | rfl | rfl
  · exact key ⟨a, ha⟩ 0
  · exact key ⟨a, ha⟩ 1
  · exact key ⟨a, ha⟩ 2
  · exact key ⟨a, ha⟩ 3
theorem put_loop (n f : Int) (K : Nat) (hK : K ≤ 8) (hK0 : 0 < K) (hn : 0 ≤ n) (hf0 : 0 ≤ f) (hf : f < 4) (hh : (be n K).getD 0 0 < 64) (d : Nat) : ∀ (i : Nat) (l : List Int), K - i = d → i ≤ K → l.length = K → (∀ j : Nat, j < i → l[j]? = (be n K)[j]?) →
    Ev (fun k => varint_Put.l0 k n f l (K : Int) i) (strOfNums ((be n K).set 0 ((be n K).getD 0 0 + 64 * f))) := by
  induction d with
  | zero =>
    intro i l hd hi hl hj
    obtain rfl : i = K := by omega
    have he : l = be n i := by
      apply List.ext_getElem?
      intro j
      by_cases h : j < i
      · exact hj j h
      · rw [List.getElem?_eq_none (by omega), List.getElem?_eq_none (by rw [be_length]; omega)]
    subst he
    refine Ev.step (f := fun _ => some (strOfNums ((be n i).set 0 ((be n i).getD 0 0 + 64 * f)))) (fun k => ?_) (Ev.now _)
    have h0 : 0 ≤ (be n i).getD 0 0 := by
      rw [List.getD_eq_getElem?_getD, be_get _ _ 0 hK0]
      simp
      omega
    simp only [varint_Put.l0]
    rw [if_neg (by omega), if_pos (by rw [be_length]; omega), show f % 256 * 64 % 256 = f * 64 by omega, show rd (be n i) 0 = (be n i).getD 0 0 from rfl, u8_or64 _ _ h0 hh hf0 hf]
    rfl
  | succ d ih =>
    intro i l hd hi hl hj
    refine Ev.step (fun k => ?_) (ih (i + 1) (l.set i (n / 256 ^ (K - 1 - i) % 256)) (by omega) (by omega) (by rw [List.length_set]; exact hl) (fun j hj2 => ?_))
    · have es : shr .i64 n (8 * (((K : Int) - 1) - i)) = n / 256 ^ (K - 1 - i) := by
        unfold shr
        rw [show min (8 * (((K : Int) - 1) - i)).toNat IntKind.i64.bits = 8 * (K - 1 - i) by simp [IntKind.bits]; omega, show (256 : Int) = 2 ^ 8 from rfl, ← Int.pow_mul]
      simp only [varint_Put.l0]
      rw [if_pos (by omega), hl, wrap_in ((K : Int) - 1) (by omega) (by omega), wrap_in ((K : Int) - 1 - i) (by omega) (by omega), wrap_in (8 * ((K : Int) - 1 - i)) (by omega) (by omega), if_pos (by omega), if_pos (by omega), if_pos (by omega), es, wrap_in _ (by omega) (by omega)]
      rfl
    · by_cases e : i = j
      · subst e
        rw [List.getElem?_set_self (by omega), be_get K n i (by omega)]
      · rw [List.getElem?_set_ne e, hj j (by omega)]
theorem put_ev (n : Int) : Ev (fun k => varint_Put.f k n) (vput n) := by
  have hc := form_cases n
  by_cases h : vform n < 0
  · refine Ev.congr (f := fun _ => some (vput n)) (fun k => ?_) (Ev.now _)
    simp only [varint_Put.f, varint_form.f, Option.bind_some]
    rw [if_pos h]
    simp [vput, h]
  · have hh := head_small n (by omega)
    have hr : rd ([1, 2, 4, 8] : List Int) (vform n) = (vsize n : Int) := by
      rcases hc with ⟨a, b, _⟩ | ⟨a, b, _⟩ | ⟨a, b, _⟩ | ⟨a, b, _⟩ | ⟨a, b, _⟩
      · omega
      all_goals rw [a, b]; rfl
    have hp := put_loop n (vform n) (vsize n) (by omega) (by omega) (by omega) (by omega) (by omega) hh.2 (vsize n) 0 (List.replicate (vsize n) 0) (by omega) (by omega) (by simp) (fun j hj => by omega)
    have e : vput n = strOfNums ((be n (vsize n)).set 0 ((be n (vsize n)).getD 0 0 + 64 * vform n)) := by simp [vput, h, vlist]
    rw [e]
    refine Ev.congr (fun k => ?_) hp
    simp only [varint_Put.f, varint_form.f, Option.bind_some]
    rw [if_neg h, if_pos (by omega), if_pos (by omega), hr, if_pos (by omega), if_pos (by omega)]
    simp
theorem vput_size (n : Int) : (vput n).size = vsize n := by
  have hc := form_cases n
  unfold vput
  by_cases h : vform n < 0
  · rw [if_pos h]
    show 0 = _
    omega
  · rw [if_neg h, strOfNums_size, vlist, List.length_set, be_length]
theorem size_a (n : Int) : varint_Size.f n = some (vsize n : Int) := by
  have hc := form_cases n
  simp only [varint_Size.f, varint_form.f, Option.bind_some]
  by_cases h : vform n < 0
  · rw [if_pos h]
    congr 1
    omega
  · rw [if_neg h, if_pos (by omega), if_pos (by omega)]
    rcases hc with ⟨a, b, _⟩ | ⟨a, b, _⟩ | ⟨a, b, _⟩ | ⟨a, b, _⟩ | ⟨a, b, _⟩
    · omega
    all_goals rw [a, b]; rfl
/-! ### What Put writes is got again -/
theorem bt_append_left (a b : ByteArray) (i : Nat) (h : i < a.size) : bt (a ++ b) (i : Int) = bt a (i : Int) := by
  have h2 : (a ++ b).size = a.size + b.size := ByteArray.size_append
  simp only [bt, Int.toNat_natCast]
  rw [dif_pos (show i < (a ++ b).size by omega), dif_pos h, ByteArray.getElem_append_left h]
theorem bt_extract0 (s : ByteArray) (b i : Nat) (h : i < b) (hb : b ≤ s.size) : bt (s.extract 0 b) (i : Int) = bt s (i : Int) := by
  have h2 : (s.extract 0 b).size = b := by rw [ByteArray.size_extract]; omega
  simp only [bt, Int.toNat_natCast]
  rw [dif_pos (by omega), dif_pos (by omega), ByteArray.getElem_extract]
  simp
theorem bt_strOfNums (l : List Int) (i : Nat) (x : Int) (h : l[i]? = some x) (h0 : 0 ≤ x) (h1 : x < 256) : bt (strOfNums l) (i : Int) = x := by
  have hl : i < l.length := (List.getElem?_eq_some_iff.1 h).1
  have hx : l[i] = x := (List.getElem?_eq_some_iff.1 h).2
  simp only [bt, Int.toNat_natCast]
  rw [dif_pos (by rw [strOfNums_size]; exact hl)]
  simp only [strOfNums]
  show (((l.map fun n => UInt8.ofNat n.toNat).toArray[i]'(by simpa using hl)).toNat : Int) = x
  simp [hx]
  omega
theorem vput_bt (n : Int) (h : 0 ≤ vform n) (i : Nat) (hi : i < vsize n) : bt (vput n) (i : Int) = (if i = 0 then (n / 256 ^ (vsize n - 1)) + 64 * vform n else n / 256 ^ (vsize n - 1 - i) % 256) := by
  have hh := head_small n h
  have hc := form_cases n
  have e : vput n = strOfNums (vlist n) := by simp [vput, show ¬ vform n < 0 by omega]
  have e0 : (be n (vsize n)).getD 0 0 = n / 256 ^ (vsize n - 1) := by
    rw [List.getD_eq_getElem?_getD, be_get _ _ 0 (by omega)]
    simp
    rcases hc with ⟨a, b, _⟩ | ⟨a, b, c, d⟩ | ⟨a, b, c, d⟩ | ⟨a, b, c, d⟩ | ⟨a, b, c, d⟩
    · omega
    all_goals
      rw [b]
      omega
  rw [e]
  by_cases h0 : i = 0
  · subst h0
    rw [if_pos rfl, ← e0]
    exact bt_strOfNums _ 0 _ (by rw [vlist, List.getElem?_set_self (by rw [be_length]; omega)]) (by omega) (by omega)
  · rw [if_neg h0]
    exact bt_strOfNums _ i _ (by rw [vlist, List.getElem?_set_ne (by omega), be_get _ _ i hi]) (by omega) (by omega)
theorem pow_split (n : Int) (a : Nat) : n / 256 ^ (a + 1) * 256 + n / 256 ^ a % 256 = n / 256 ^ a := by
  rw [Int.pow_succ, ← Int.ediv_ediv_of_nonneg (Int.pow_nonneg (by omega) : (0 : Int) ≤ 256 ^ a)]
  omega
/-- s begins as Put writes n. -/
def Begins (s : ByteArray) (n : Int) (c : Nat) : Prop := ∀ i : Nat, i < c → bt s (i : Int) = bt (vput n) (i : Int)
theorem begins_head (s : ByteArray) (n : Int) (h : 0 ≤ vform n) (c : Nat) (hc : 0 < c) (hb : Begins s n c) : vlenOf (bt s 0) = vsize n ∧ bt s 0 % 64 = n / 256 ^ (vsize n - 1) := by
  have hf := form_cases n
  have e := hb 0 hc
  rw [vput_bt n h 0 (by omega)] at e
  simp only [if_true] at e
  have e' : bt s 0 = n / 256 ^ (vsize n - 1) + 64 * vform n := e
  rw [e']
  rcases hf with ⟨a, b, _⟩ | ⟨a, b, c, d⟩ | ⟨a, b, c, d⟩ | ⟨a, b, c, d⟩ | ⟨a, b, c, d⟩
  · omega
  all_goals
    rw [a, b]
    unfold vlenOf
    constructor
    · repeat' split
      all_goals omega
    · omega
theorem begins_acc (s : ByteArray) (n : Int) (h : 0 ≤ vform n) (hb : Begins s n (vsize n)) : ∀ i : Nat, i + 1 ≤ vsize n → vacc s (i + 1) = n / 256 ^ (vsize n - (i + 1))
  | 0, hi => by
    have := (begins_head s n h (vsize n) (by omega) hb).2
    simpa [vacc] using this
  | i + 1, hi => by
    have ih := begins_acc s n h hb i (by omega)
    have e := hb (i + 1) (by omega)
    rw [vput_bt n h (i + 1) (by omega), if_neg (by omega)] at e
    simp only [vacc]
    rw [ih, e]
    have := pow_split n (vsize n - (i + 1 + 1))
    rw [show vsize n - (i + 1 + 1) + 1 = vsize n - (i + 1) by omega] at this
    rw [show vsize n - 1 - (i + 1) = vsize n - (i + 1 + 1) by omega]
    exact this
theorem vget_whole (s : ByteArray) (n : Int) (h : 0 ≤ vform n) (hs : vsize n ≤ s.size) (hb : Begins s n (vsize n)) : vget s = (n, (vsize n : Int), 0) := by
  have hc := form_cases n
  have hl := (begins_head s n h (vsize n) (by omega) hb).1
  have ha := begins_acc s n h hb (vsize n - 1) (by omega)
  rw [show vsize n - 1 + 1 = vsize n by omega] at ha
  simp [vget, hl, show ¬ s.size = 0 by omega, show ¬ (s.size : Int) < (vsize n : Int) by omega, ha]
theorem vget_cut (s : ByteArray) (n : Int) (h : 0 ≤ vform n) (hs : s.size < vsize n) (hb : Begins s n s.size) : vget s = (0, 0, 1) := by
  by_cases h0 : s.size = 0
  · simp [vget, h0]
  · have hl := (begins_head s n h s.size (by omega) hb).1
    simp [vget, hl, h0]
    omega
theorem begins_append (n : Int) (more : ByteArray) : Begins (vput n ++ more) n (vsize n) := fun i hi => bt_append_left _ _ i (by rw [vput_size]; exact hi)
theorem begins_extract (s : ByteArray) (n : Int) (c : Nat) (hc : c ≤ s.size) (k : Nat) (hk : k ≤ c) (hb : Begins s n k) : Begins (s.extract 0 c) n k := fun i hi => by
  rw [bt_extract0 s c i (by omega) hc]
  exact hb i hi
def vtext (s : ByteArray) : ByteArray := vput (s.size : Int) ++ s
theorem form_ok (n : Int) (h0 : 0 ≤ n) (h1 : n < 4611686018427387904) : 0 ≤ vform n ∧ 1 ≤ vsize n ∧ vsize n ≤ 8 := by
  have := form_cases n
  omega
/-! ### capsules -/
def pairv (s : ByteArray) : Int × Int × ByteArray × Bool :=
  if (vget s).2.2 = 0 then ((vget s).1, (vget (s.extract (vget s).2.1.toNat s.size)).1, s.extract ((vget s).2.1 + (vget (s.extract (vget s).2.1.toNat s.size)).2.1).toNat s.size, ((vget (s.extract (vget s).2.1.toNat s.size)).2.2 == 0)) else (0, 0, (⟨#[]⟩ : ByteArray), false)
theorem vget_range (s : ByteArray) : 0 ≤ (vget s).2.1 ∧ (vget s).2.1 ≤ 8 ∧ (vget s).2.1 ≤ s.size ∧ 0 ≤ (vget s).1 ∧ (vget s).1 ≤ 4611686018427387903 := by
  by_cases h : (vget s).2.2 = 0
  · have := vget_ok s h
    omega
  · rw [vget_err s h]
    simp
theorem pair_ev (s : ByteArray) : Ev (fun k => capsule_pair.f k s) (pairv s) := by
  unfold pairv capsule_pair.f
  have h1 := vget_range s
  refine Ev.bind (get_ev s) ?_
  by_cases h : (vget s).2.2 = 0
  rotate_left
  · rw [if_neg h]
    exact ev_n h (Ev.now _)
  rw [if_pos h]
  have h2 := vget_range (s.extract (vget s).2.1.toNat s.size)
  have hz : (s.extract (vget s).2.1.toNat s.size).size = s.size - (vget s).2.1.toNat := by rw [ByteArray.size_extract]; omega
  have hw : wrap64 ((vget s).2.1 + (vget (s.extract (vget s).2.1.toNat s.size)).2.1) = (vget s).2.1 + (vget (s.extract (vget s).2.1.toNat s.size)).2.1 := wrap_in _ (by omega) (by omega)
  refine ev_p h (ev_p h1.1 (ev_p h1.2.2.1 (Ev.bind (get_ev _) ?_)))
  rw [hw]
  exact ev_p (by omega) (ev_p (by omega) (Ev.now _))
/-- The second number is no number that Go has not; what is behind is shorter by two. -/
theorem pair_range (s : ByteArray) : 0 ≤ (pairv s).2.1 ∧ (pairv s).2.1 ≤ 4611686018427387903 ∧ 0 ≤ (pairv s).1 ∧ (pairv s).1 ≤ 4611686018427387903 ∧ (pairv s).2.2.1.size ≤ s.size ∧ ((pairv s).2.2.2 = true → (pairv s).2.2.1.size + 2 ≤ s.size) := by
  unfold pairv
  by_cases h : (vget s).2.2 = 0
  rotate_left
  · rw [if_neg h]
    exact ⟨by decide, by decide, by decide, by decide, Nat.zero_le _, fun h => by cases h⟩
  rw [if_pos h]
  have h1 := vget_ok s h
  have h2 := vget_range (s.extract (vget s).2.1.toNat s.size)
  have hz : (s.extract (vget s).2.1.toNat s.size).size = s.size - (vget s).2.1.toNat := by rw [ByteArray.size_extract]; omega
  dsimp only
  refine ⟨h2.2.2.2.1, h2.2.2.2.2, h1.2.2.2.1, h1.2.2.2.2, by rw [ByteArray.size_extract]; omega, fun hq => ?_⟩
  have h3 := vget_ok _ (eq_of_beq hq)
  rw [ByteArray.size_extract]
  omega
/-- What is told of bytes, what is left of them, and whether a capsule is too great. -/
inductive Drains : ByteArray → List S32 → ByteArray → Bool → Prop
  | long {s : ByteArray} (h1 : (pairv s).2.2.2 = true) (h2 : (pairv s).2.1 > 4096) : Drains s [] s true
  | more {s : ByteArray} (h1 : (pairv s).2.2.2 = false) : Drains s [] s false
  | short {s : ByteArray} (h1 : (pairv s).2.2.2 = true) (h2 : ¬ (pairv s).2.1 > 4096) (h3 : ((pairv s).2.2.1.size : Int) < (pairv s).2.1) : Drains s [] s false
  | one {s : ByteArray} {l : List S32} {t : ByteArray} {b : Bool} (h1 : (pairv s).2.2.2 = true) (h2 : ¬ (pairv s).2.1 > 4096) (h3 : ¬ ((pairv s).2.2.1.size : Int) < (pairv s).2.1)
      (h : Drains ((pairv s).2.2.1.extract (pairv s).2.1.toNat (pairv s).2.2.1.size) l t b) : Drains s (⟨(pairv s).1, (pairv s).2.2.1.extract 0 (pairv s).2.1.toNat⟩ :: l) t b
theorem drains_all (n : Nat) : ∀ s : ByteArray, s.size ≤ n → ∃ l t b, Drains s l t b := by
  induction n with
  | zero =>
    intro s hs
    refine ⟨[], s, false, .more ?_⟩
    have := (pair_range s).2.2.2.2.2
    cases hq : (pairv s).2.2.2 with
    | false => rfl
    | true => have := this hq; omega
  | succ n ih =>
    intro s hs
    have hr := pair_range s
    by_cases h1 : (pairv s).2.2.2 = true
    rotate_left
    · exact ⟨[], s, false, .more (by simpa using h1)⟩
    by_cases h2 : (pairv s).2.1 > 4096
    · exact ⟨[], s, true, .long h1 h2⟩
    by_cases h3 : ((pairv s).2.2.1.size : Int) < (pairv s).2.1
    · exact ⟨[], s, false, .short h1 h2 h3⟩
    have h4 := hr.2.2.2.2.2 h1
    obtain ⟨l, t, b, h⟩ := ih ((pairv s).2.2.1.extract (pairv s).2.1.toNat (pairv s).2.2.1.size) (by rw [ByteArray.size_extract]; omega)
    exact ⟨_, t, b, .one h1 h2 h3 h⟩
theorem drains_inv {s : ByteArray} {l : List S32} {t : ByteArray} {b : Bool} (h : Drains s l t b) :
    ((pairv s).2.2.2 = true ∧ (pairv s).2.1 > 4096 ∧ l = [] ∧ t = s ∧ b = true) ∨ ((pairv s).2.2.2 = false ∧ l = [] ∧ t = s ∧ b = false) ∨
    ((pairv s).2.2.2 = true ∧ ¬ (pairv s).2.1 > 4096 ∧ ((pairv s).2.2.1.size : Int) < (pairv s).2.1 ∧ l = [] ∧ t = s ∧ b = false) ∨
    ((pairv s).2.2.2 = true ∧ ¬ (pairv s).2.1 > 4096 ∧ ¬ ((pairv s).2.2.1.size : Int) < (pairv s).2.1 ∧ ∃ l', l = ⟨(pairv s).1, (pairv s).2.2.1.extract 0 (pairv s).2.1.toNat⟩ :: l' ∧ Drains ((pairv s).2.2.1.extract (pairv s).2.1.toNat (pairv s).2.2.1.size) l' t b) := by
  cases h with
  | long h1 h2 => exact .inl ⟨h1, h2, rfl, rfl, rfl⟩
  | more h1 => exact .inr (.inl ⟨h1, rfl, rfl, rfl⟩)
  | short h1 h2 h3 => exact .inr (.inr (.inl ⟨h1, h2, h3, rfl, rfl, rfl⟩))
  | one h1 h2 h3 h => exact .inr (.inr (.inr ⟨h1, h2, h3, _, rfl, h⟩))
/-! ### datagrams -/
theorem ext_left (a b : ByteArray) (n : Nat) (h : a.size = n) : (a ++ b).extract 0 n = a := by
  apply ByteArray.ext
  apply Array.toList_inj.1
  have h1 : a.data.toList.length = n := by simpa using h
  simp only [ByteArray.data_extract, ByteArray.data_append, Array.toList_extract, Array.toList_append, List.extract_eq_take_drop]
  rw [← h1, List.drop_zero, Nat.sub_zero, List.take_left]
theorem ext_right (a b : ByteArray) (n m : Nat) (h : a.size = n) (hm : m = (a ++ b).size) : (a ++ b).extract n m = b := by
  subst hm
  apply ByteArray.ext
  apply Array.toList_inj.1
  have h1 : a.data.toList.length = n := by simpa using h
  simp only [ByteArray.data_extract, ByteArray.data_append, Array.toList_extract, Array.toList_append, List.extract_eq_take_drop, ByteArray.size_append]
  rw [← h1, List.drop_left, List.take_of_length_le (by simp)]
def gramOk (a0 a1 : Int) : Prop := 0 ≤ a0 ∧ a0 ≤ 28 ∧ Int.tmod a0 4 = 0 ∧ 0 ≤ a1 ∧ a1 ≤ 4611686018427387903
instance (a0 a1 : Int) : Decidable (gramOk a0 a1) := by
  unfold gramOk
  exact inferInstance
def gramv (a0 a1 : Int) (s : ByteArray) : ByteArray × Int := if gramOk a0 a1 then (vput (a0 / 4) ++ vput a1 ++ s, 0) else ((⟨#[]⟩ : ByteArray), 2)
theorem gram_ev (a0 a1 : Int) (s : ByteArray) (hs : s.size ≤ 140737488351232) : Ev (fun k => capsule_Gram.f k a0 a1 s) (gramv a0 a1 s) := by
  have bad : Ev (fun k => capsule_Gram.j0 k a0 a1 s true) ((⟨#[]⟩ : ByteArray), (2 : Int)) := Ev.step (f := fun _ => some ((⟨#[]⟩ : ByteArray), (2 : Int))) (fun k => by simp [capsule_Gram.j0]) (Ev.now _)
  unfold gramv capsule_Gram.f
  by_cases h0 : a0 < 0
  · rw [if_neg (fun h => by have := h.1; omega)]
    exact ev_p h0 bad
  refine ev_n h0 ?_
  by_cases h1 : a0 > 28
  · rw [if_neg (fun h => by have := h.2.1; omega)]
    exact ev_p h1 bad
  refine ev_n h1 ?_
  by_cases h2 : Int.tmod a0 4 = 0
  rotate_left
  · rw [if_neg (fun h => h2 h.2.2.1)]
    exact ev_n h2 bad
  refine ev_p h2 ?_
  have hf := form_cases a1
  by_cases h3 : 0 ≤ a1 ∧ a1 ≤ 4611686018427387903
  rotate_left
  · rw [if_neg (fun h => h3 ⟨h.2.2.2.1, h.2.2.2.2⟩)]
    have hz : vsize a1 = 0 := by omega
    refine Ev.congr (f := fun k => capsule_Gram.j0 k a0 a1 s true) (fun k => ?_) bad
    rw [size_a, hz]
    rfl
  rw [if_pos ⟨by omega, by omega, h2, h3.1, h3.2⟩]
  have hz : (((vsize a1 : Nat) : Int) == 0) = false := beq_eq_false_iff_ne.mpr (by omega)
  have hq : Int.tdiv a0 4 = a0 / 4 := Int.tdiv_eq_ediv_of_nonneg (by omega)
  have hw : wrap64 (a0 / 4) = a0 / 4 := wrap_in _ (by omega) (by omega)
  refine Ev.congr (f := fun k => capsule_Gram.j0 k a0 a1 s false) (fun k => by rw [size_a]; simp only [Option.bind_some]; rw [hz]) ?_
  have hs0 := vput_size (a0 / 4)
  have hs1 := vput_size a1
  have hf0 := form_cases (a0 / 4)
  refine Ev.step (fun k => by simp only [capsule_Gram.j0, Bool.false_eq_true, if_false]; rfl) ?_
  rw [hq, hw]
  refine Ev.bind (put_ev _) (Ev.bind (put_ev _) (ev_p ?_ (ev_p ?_ (Ev.now _))))
  · omega
  · rw [ByteArray.size_append]
    omega
/-! ### Bytes in pieces -/
theorem vacc_app (x y : ByteArray) : ∀ k : Nat, k ≤ x.size → vacc (x ++ y) k = vacc x k
  | 0, _ => rfl
  | 1, h => by
    simp only [vacc]
    rw [show (0 : Int) = ((0 : Nat) : Int) from rfl, bt_append_left x y 0 (by omega)]
  | k + 2, h => by
    simp only [vacc]
    rw [vacc_app x y (k + 1) (by omega), bt_append_left x y (k + 1) (by omega)]
theorem vget_app (x y : ByteArray) (h : (vget x).2.2 = 0) : vget (x ++ y) = vget x := by
  have ho := vget_ok x h
  have hz : (x ++ y).size = x.size + y.size := ByteArray.size_append
  have hx : x.size ≠ 0 := by omega
  have hb : bt (x ++ y) 0 = bt x 0 := bt_append_left x y 0 (by omega)
  unfold vget at h ho ⊢
  rw [if_neg hx] at h ho ⊢
  rw [if_neg (by omega), hb]
  by_cases h2 : (x.size : Int) < vlenOf (bt x 0)
  · rw [if_pos h2] at h
    exact absurd h (by decide)
  · rw [if_neg h2, if_neg (by omega)]
    rw [vacc_app x y _ (by omega)]
theorem ext_app (x y : ByteArray) (n : Nat) (h : n ≤ x.size) : (x ++ y).extract n (x ++ y).size = x.extract n x.size ++ y := by
  have e : x = x.extract 0 n ++ x.extract n x.size := by rw [ByteArray.extract_append_extract]; simp
  have hs : (x.extract 0 n).size = n := by rw [ByteArray.size_extract]; omega
  conv => lhs; rw [e]
  rw [ByteArray.append_assoc]
  exact ext_right _ _ _ _ hs (by rw [← ByteArray.append_assoc])
theorem ext_app0 (x y : ByteArray) (n : Nat) (h : n ≤ x.size) : (x ++ y).extract 0 n = x.extract 0 n := by
  have e : x = x.extract 0 n ++ x.extract n x.size := by rw [ByteArray.extract_append_extract]; simp
  have hs : (x.extract 0 n).size = n := by rw [ByteArray.size_extract]; omega
  conv => lhs; rw [e]
  rw [ByteArray.append_assoc]
  exact ext_left _ _ _ hs
theorem pair_app (x y : ByteArray) (h : (pairv x).2.2.2 = true) : pairv (x ++ y) = ((pairv x).1, (pairv x).2.1, (pairv x).2.2.1 ++ y, true) := by
  unfold pairv at h ⊢
  by_cases h1 : (vget x).2.2 = 0
  rotate_left
  · rw [if_neg h1] at h
    cases h
  rw [if_pos h1] at h
  have h2 : (vget (x.extract (vget x).2.1.toNat x.size)).2.2 = 0 := eq_of_beq h
  have o1 := vget_ok x h1
  have o2 := vget_ok _ h2
  rw [ByteArray.size_extract] at o2
  rw [vget_app x y h1, if_pos h1, if_pos h1, ext_app x y _ (by omega), vget_app _ y h2, ext_app x y _ (by omega), h2]
  rfl
theorem drains_app {x l t b} (h : Drains x l t b) : b = false → ∀ {y l2 t2 b2}, Drains (t ++ y) l2 t2 b2 → Drains (x ++ y) (l ++ l2) t2 b2 := by
  induction h with
  | long h1 h2 => intro hb; cases hb
  | more h1 => intro _ y l2 t2 b2 h; exact h
  | short h1 h2 h3 => intro _ y l2 t2 b2 h; exact h
  | @one s l t b h1 h2 h3 h ih =>
    intro hb y l2 t2 b2 hd
    have hp := pair_app s y h1
    have hr := pair_range s
    have e1 := ext_app (pairv s).2.2.1 y (pairv s).2.1.toNat (by omega)
    have e0 := ext_app0 (pairv s).2.2.1 y (pairv s).2.1.toNat (by omega)
    have h' := ih hb hd
    rw [← e1] at h'
    have := Drains.one (s := s ++ y) (l := l ++ l2) (t := t2) (b := b2) (by rw [hp]) (by rw [hp]; exact h2) (by rw [hp]; show ¬ (((pairv s).2.2.1 ++ y).size : Int) < (pairv s).2.1; rw [ByteArray.size_append]; omega) (by rw [hp]; exact h')
    rw [hp] at this
    dsimp only at this
    rw [e0] at this
    exact this
theorem drains_bad {x l t b} (h : Drains x l t b) : b = true → ∀ y, Drains (x ++ y) l (t ++ y) true := by
  induction h with
  | @long s h1 h2 =>
    intro _ y
    have hp := pair_app s y h1
    exact .long (by rw [hp]) (by rw [hp]; exact h2)
  | more h1 => intro hb; cases hb
  | short h1 h2 h3 => intro hb; cases hb
  | @one s l t b h1 h2 h3 h ih =>
    intro hb y
    have hp := pair_app s y h1
    have hr := pair_range s
    have e1 := ext_app (pairv s).2.2.1 y (pairv s).2.1.toNat (by omega)
    have e0 := ext_app0 (pairv s).2.2.1 y (pairv s).2.1.toNat (by omega)
    have h' := ih hb y
    rw [← e1] at h'
    have := Drains.one (s := s ++ y) (l := l) (t := t ++ y) (b := true) (by rw [hp]) (by rw [hp]; exact h2) (by rw [hp]; show ¬ (((pairv s).2.2.1 ++ y).size : Int) < (pairv s).2.1; rw [ByteArray.size_append]; omega) (by rw [hp]; exact h')
    rw [hp] at this
    dsimp only at this
    rw [e0] at this
    exact this
theorem drains_one {x l t b} (h : Drains x l t b) : ∀ {l2 t2 b2}, Drains x l2 t2 b2 → l2 = l ∧ t2 = t ∧ b2 = b := by
  induction h with
  | long h1 h2 =>
    intro l2 t2 b2 hd
    rcases drains_inv hd with ⟨_, _, a, b, c⟩ | ⟨a, _⟩ | ⟨_, a, _⟩ | ⟨_, a, _⟩
    · exact ⟨a, b, c⟩
    · rw [h1] at a; cases a
    · exact absurd h2 a
    · exact absurd h2 a
  | more h1 =>
    intro l2 t2 b2 hd
    rcases drains_inv hd with ⟨a, _⟩ | ⟨_, a, b, c⟩ | ⟨a, _⟩ | ⟨a, _⟩
    · rw [h1] at a; cases a
    · exact ⟨a, b, c⟩
    · rw [h1] at a; cases a
    · rw [h1] at a; cases a
  | short h1 h2 h3 =>
    intro l2 t2 b2 hd
    rcases drains_inv hd with ⟨_, a, _⟩ | ⟨a, _⟩ | ⟨_, _, _, a, b, c⟩ | ⟨_, _, a, _⟩
    · exact absurd a h2
    · rw [h1] at a; cases a
    · exact ⟨a, b, c⟩
    · exact absurd h3 a
  | one h1 h2 h3 h ih =>
    intro l2 t2 b2 hd
    rcases drains_inv hd with ⟨_, a, _⟩ | ⟨a, _⟩ | ⟨_, _, a, _⟩ | ⟨_, _, _, l', a, hd'⟩
    · exact absurd a h2
    · rw [h1] at a; cases a
    · exact absurd a h3
    · obtain ⟨e1, e2, e3⟩ := ih hd'
      exact ⟨by rw [a, e1], e2, e3⟩
theorem drains_len {x l t b} (h : Drains x l t b) : l.length + t.size ≤ x.size := by
  induction h with
  | long h1 h2 => simp
  | more h1 => simp
  | short h1 h2 h3 => simp
  | one h1 h2 h3 h ih =>
    rename_i s l t b
    have hr := pair_range s
    have := hr.2.2.2.2.2 h1
    rw [ByteArray.size_extract] at ih
    simp only [List.length_cons]
    omega

end Go.Proofs.YtiokdkhhffngiaaDoor.Pure
