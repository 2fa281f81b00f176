/- VarintPuts, the plain law: any number is written by the program as the reference writes it, in the fewest bytes, or is none; for every int64. -/
import Derived.Test.YtbbjeifbcijkcaaDoorGoodVarintPuts
namespace Go.Proofs.YtbbjeifbcijkcaaDoor.Pure
open Go.RowKit Go.Proofs.YtbbjeifbcijkcaaDoor.PVarintPuts Go.Proofs.YtbbjeifbcijkcaaDoorW.PrintWords Go.Proofs.YtbbjeifbcijkcaaDoorW.PrintLast Go.Proofs.YtbbjeifbcijkcaaDoor.Opening Go.Proofs.YtbbjeifbcijkcaaDoor.Hand
set_option linter.unusedVariables false
set_option linter.unusedSimpArgs false
theorem wrap_in (x : Int) (h0 : -9223372036854775808 ≤ x) (h1 : x ≤ 9223372036854775807) : wrap64 x = x := by
  unfold wrap64
  omega
theorem mx_eq (a b : Int) : mx a b = if a < b then b else a := rfl
theorem mn_eq (a b : Int) : mn a b = if b < a then b else a := rfl
theorem u64_eq (n : Int) : IntKind.u64.wrap n = n % 18446744073709551616 := by simp [IntKind.wrap, IntKind.bits, IntKind.signed]
theorem u64_range (n : Int) : 0 ≤ IntKind.u64.wrap n ∧ IntKind.u64.wrap n < 18446744073709551616 := by
  rw [u64_eq]
  omega
theorem u32_eq (n : Int) : IntKind.u32.wrap n = n % 4294967296 := by simp [IntKind.wrap, IntKind.bits, IntKind.signed]
/-! ### What Put writes -/
/-- A number's last k bytes, the highest first. -/
def be : Int → Nat → List Int
  | _, 0 => []
  | n, k + 1 => be (n / 256) k ++ [n % 256]
theorem be_length : ∀ (k : Nat) (n : Int), (be n k).length = k
  | 0, _ => rfl
  | k + 1, n => by simp [be, be_length k]
theorem be_get : ∀ (k : Nat) (n : Int) (j : Nat), j < k → (be n k)[j]? = some (n / 256 ^ (k - 1 - j) % 256)
  | 0, _, j, h => by omega
  | k + 1, n, j, h => by
    simp only [be]
    by_cases hj : j < k
    · rw [List.getElem?_append_left (by rw [be_length]; exact hj), be_get k (n / 256) j hj]
      congr 1
      rw [Int.ediv_ediv_of_nonneg (by omega)]
      congr 1
      rw [show k + 1 - 1 - j = (k - 1 - j) + 1 by omega, Int.pow_succ, Int.mul_comm]
    · obtain rfl : j = k := by omega
      rw [List.getElem?_append_right (by rw [be_length]; omega), be_length]
      simp
theorem be_range (k : Nat) (n : Int) (x : Int) (h : x ∈ be n k) : 0 ≤ x ∧ x < 256 := by
  obtain ⟨j, hj⟩ := List.getElem?_of_mem h
  have hl : j < k := by
    have := (List.getElem?_eq_some_iff.1 hj).1
    rwa [be_length] at this
  rw [be_get k n j hl] at hj
  have := Option.some.inj hj
  omega
def vsize (n : Int) : Nat := if n < 0 then 0 else if n < 64 then 1 else if n < 16384 then 2 else if n < 1073741824 then 4 else if n < 4611686018427387904 then 8 else 0
theorem form_cases (n : Int) : (vform n = -1 ∧ vsize n = 0 ∧ (n < 0 ∨ 4611686018427387904 ≤ n)) ∨ (vform n = 0 ∧ vsize n = 1 ∧ 0 ≤ n ∧ n < 64) ∨ (vform n = 1 ∧ vsize n = 2 ∧ 64 ≤ n ∧ n < 16384) ∨ (vform n = 2 ∧ vsize n = 4 ∧ 16384 ≤ n ∧ n < 1073741824) ∨ (vform n = 3 ∧ vsize n = 8 ∧ 1073741824 ≤ n ∧ n < 4611686018427387904) := by
  unfold vform vsize
  repeat' split
  all_goals omega
/-- A number's bytes, its form in the first one. -/
def vlist (n : Int) : List Int := (be n (vsize n)).set 0 ((be n (vsize n)).getD 0 0 + 64 * vform n)
def vput (n : Int) : ByteArray := if vform n < 0 then ⟨#[]⟩ else strOfNums (vlist n)
/-- The first byte has room for the form. -/
theorem head_small (n : Int) (h : 0 ≤ vform n) : 0 ≤ (be n (vsize n)).getD 0 0 ∧ (be n (vsize n)).getD 0 0 < 64 := by
  rcases form_cases n with ⟨a, b, _⟩ | ⟨a, b, c, d⟩ | ⟨a, b, c, d⟩ | ⟨a, b, c, d⟩ | ⟨a, b, c, d⟩
  · omega
  all_goals
    rw [b, List.getD_eq_getElem?_getD, be_get _ _ 0 (by omega)]
    simp
    omega
theorem u8_or64 (x y : Int) (h0 : 0 ≤ x) (h1 : x < 64) (hy0 : 0 ≤ y) (hy : y < 4) : Go.bits .or .u8 x (y * 64) = x + 64 * y := by
  have hc : y = 0 ∨ y = 1 ∨ y = 2 ∨ y = 3 := by omega
  obtain ⟨a, rfl⟩ := Int.eq_ofNat_of_zero_le h0
  have ha : a < 64 := by omega
  have key : ∀ b : Fin 64, ∀ c : Fin 4, Go.bits .or .u8 ((b.val : Nat) : Int) ((c.val : Int) * 64) = (b.val : Int) + 64 * (c.val : Int) := by decide +kernel
  rcases hc with rfl | rfl | rfl | rfl
  · exact key ⟨a, ha⟩ 0
  · exact key ⟨a, ha⟩ 1
  · exact key ⟨a, ha⟩ 2
  · exact key ⟨a, ha⟩ 3
theorem put_loop (n f : Int) (K : Nat) (hK : K ≤ 8) (hK0 : 0 < K) (hn : 0 ≤ n) (hf0 : 0 ≤ f) (hf : f < 4) (hh : (be n K).getD 0 0 < 64) (d : Nat) : ∀ (i : Nat) (l : List Int), K - i = d → i ≤ K → l.length = K → (∀ j : Nat, j < i → l[j]? = (be n K)[j]?) →
    Ev (fun k => varint_Put.l0 k n f l (K : Int) i) (strOfNums ((be n K).set 0 ((be n K).getD 0 0 + 64 * f))) := by
  induction d with
  | zero =>
    intro i l hd hi hl hj
    obtain rfl : i = K := by omega
    have he : l = be n i := by
      apply List.ext_getElem?
      intro j
      by_cases h : j < i
      · exact hj j h
      · rw [List.getElem?_eq_none (by omega), List.getElem?_eq_none (by rw [be_length]; omega)]
    subst he
    refine Ev.step (f := fun _ => some (strOfNums ((be n i).set 0 ((be n i).getD 0 0 + 64 * f)))) (fun k => ?_) (Ev.now _)
    have h0 : 0 ≤ (be n i).getD 0 0 := by
      rw [List.getD_eq_getElem?_getD, be_get _ _ 0 hK0]
      simp
      omega
    simp only [varint_Put.l0]
    rw [if_neg (by omega), if_pos (by rw [be_length]; omega), show f % 256 * 64 % 256 = f * 64 by omega, show rd (be n i) 0 = (be n i).getD 0 0 from rfl, u8_or64 _ _ h0 hh hf0 hf]
    rfl
  | succ d ih =>
    intro i l hd hi hl hj
    refine Ev.step (fun k => ?_) (ih (i + 1) (l.set i (n / 256 ^ (K - 1 - i) % 256)) (by omega) (by omega) (by rw [List.length_set]; exact hl) (fun j hj2 => ?_))
    · have es : shr .i64 n (8 * (((K : Int) - 1) - i)) = n / 256 ^ (K - 1 - i) := by
        unfold shr
        rw [show min (8 * (((K : Int) - 1) - i)).toNat IntKind.i64.bits = 8 * (K - 1 - i) by simp [IntKind.bits]; omega, show (256 : Int) = 2 ^ 8 from rfl, ← Int.pow_mul]
      simp only [varint_Put.l0]
      rw [if_pos (by omega), hl, wrap_in ((K : Int) - 1) (by omega) (by omega), wrap_in ((K : Int) - 1 - i) (by omega) (by omega), wrap_in (8 * ((K : Int) - 1 - i)) (by omega) (by omega), if_pos (by omega), if_pos (by omega), if_pos (by omega), es, wrap_in _ (by omega) (by omega)]
      rfl
    · by_cases e : i = j
      · subst e
        rw [List.getElem?_set_self (by omega), be_get K n i (by omega)]
      · rw [List.getElem?_set_ne e, hj j (by omega)]
theorem put_ev (n : Int) : Ev (fun k => varint_Put.f k n) (vput n) := by
  have hc := form_cases n
  by_cases h : vform n < 0
  · refine Ev.congr (f := fun _ => some (vput n)) (fun k => ?_) (Ev.now _)
    simp only [varint_Put.f, varint_form.f, Option.bind_some]
    rw [if_pos h]
    simp [vput, h]
  · have hh := head_small n (by omega)
    have hr : rd ([1, 2, 4, 8] : List Int) (vform n) = (vsize n : Int) := by
      rcases hc with ⟨a, b, _⟩ | ⟨a, b, _⟩ | ⟨a, b, _⟩ | ⟨a, b, _⟩ | ⟨a, b, _⟩
      · omega
      all_goals rw [a, b]; rfl
    have hp := put_loop n (vform n) (vsize n) (by omega) (by omega) (by omega) (by omega) (by omega) hh.2 (vsize n) 0 (List.replicate (vsize n) 0) (by omega) (by omega) (by simp) (fun j hj => by omega)
    have e : vput n = strOfNums ((be n (vsize n)).set 0 ((be n (vsize n)).getD 0 0 + 64 * vform n)) := by simp [vput, h, vlist]
    rw [e]
    refine Ev.congr (fun k => ?_) hp
    simp only [varint_Put.f, varint_form.f, Option.bind_some]
    rw [if_neg h, if_pos (by omega), if_pos (by omega), hr, if_pos (by omega), if_pos (by omega)]
    simp
theorem vput_size (n : Int) : (vput n).size = vsize n := by
  have hc := form_cases n
  unfold vput
  by_cases h : vform n < 0
  · rw [if_pos h]
    show 0 = _
    omega
  · rw [if_neg h, strOfNums_size, vlist, List.length_set, be_length]
theorem strOfNums_append (a b : List Int) : strOfNums (a ++ b) = strOfNums a ++ strOfNums b := by
  apply ByteArray.ext
  simp [strOfNums]
theorem size_a (n : Int) : varint_Size.f n = some (vsize n : Int) := by
  have hc := form_cases n
  simp only [varint_Size.f, varint_form.f, Option.bind_some]
  by_cases h : vform n < 0
  · rw [if_pos h]
    congr 1
    omega
  · rw [if_neg h, if_pos (by omega), if_pos (by omega)]
    rcases hc with ⟨a, b, _⟩ | ⟨a, b, _⟩ | ⟨a, b, _⟩ | ⟨a, b, _⟩ | ⟨a, b, _⟩
    · omega
    all_goals rw [a, b]; rfl
theorem size_r (n : Int) : Ev (fun k => vizardref01_Size.f k n) (vsize n : Int) := by
  refine Ev.of (fun k => vizardref01_Size.mono n k) (k := 3) ?_
  unfold vsize
  simp only [vizardref01_Size.f, vizardref01_Size.j0]
  by_cases h0 : n < 0
  · simp [h0]
  · by_cases h1 : n > 4611686018427387903
    · simp [h0, h1, show ¬ n < 64 by omega, show ¬ n < 16384 by omega, show ¬ n < 1073741824 by omega, show ¬ n < 4611686018427387904 by omega]
    · simp only [h0, h1, if_false, decide_false, Bool.false_eq_true, show n < 4611686018427387904 by omega, if_true]
      repeat' split
      all_goals first | rfl | omega
theorem bytes_r : ∀ (K : Nat) (n : Int), 0 ≤ n → n < 9223372036854775808 → K ≤ 8 → Ev (fun k => vizardref01_Bytes.f k n K) (strOfNums (be n K))
  | 0, n, _, _, _ => by
    refine Ev.step (f := fun _ => some (⟨#[]⟩ : ByteArray)) (fun k => ?_) (Ev.now _)
    simp [vizardref01_Bytes.f]
  | K + 1, n, h0, h1, hK => by
    have e1 : Int.tdiv n 256 = n / 256 := Int.tdiv_eq_ediv_of_nonneg h0
    have e2 : Int.tmod n 256 = n % 256 := Int.tmod_eq_emod_of_nonneg h0
    refine Ev.step (f := fun k => (vizardref01_Bytes.f k (n / 256) K).bind fun t111 => ((some (([n % 256] : List Int) : List Int)).bind fun y112 => (if t111.size + (strOfNums y112).size ≤ 9223372036854775807 then (some (t111 ++ (strOfNums y112))) else (none)))) (fun k => ?_) (Ev.bind (bytes_r K (n / 256) (by omega) (by omega) (by omega)) (Ev.congr (f := fun _ => some (strOfNums (be n (K + 1)))) (fun _ => ?_) (Ev.now _)))
    · simp only [vizardref01_Bytes.f]
      rw [if_neg (by omega), e1, e2, wrap_in _ (by omega) (by omega), wrap_in _ (by omega) (by omega), show n % 256 % 256 = n % 256 by omega, show ((K + 1 : Nat) : Int) - 1 = K by omega]
    · simp only [Option.bind_some]
      rw [if_pos (by rw [strOfNums_size, strOfNums_size, be_length]; simp; omega)]
      congr 1
      simp only [be]
      exact (strOfNums_append _ _).symm
theorem bytesOf_be (n : Int) (K : Nat) : bytesOf (strOfNums (be n K)) = be n K := by
  unfold bytesOf
  rw [strOfNums_data, List.map_map]
  refine List.ext_getElem? (fun j => ?_)
  rw [List.getElem?_map]
  cases hv : (be n K)[j]? with
  | none => rfl
  | some x =>
    have := be_range K n x (List.mem_of_getElem? hv)
    simp
    omega
theorem put_r (n : Int) : Ev (fun k => vizardref01_Put.f k n) (vput n) := by
  have hc := form_cases n
  refine Ev.bind (size_r n) ?_
  by_cases h : vform n < 0
  · have e : (vsize n : Int) = 0 := by omega
    simp only [if_pos e]
    have e2 : vput n = ⟨#[]⟩ := by simp [vput, h]
    rw [e2]
    exact Ev.now _
  · have e : ¬ (vsize n : Int) = 0 := by omega
    simp only [if_neg e]
    refine Ev.bind (bytes_r (vsize n) n (by omega) (by omega) (by omega)) ?_
    have hm : vizardref01_Put.mark (vsize n : Int) = some (vform n) := by
      rcases hc with ⟨a, b, _⟩ | ⟨a, b, _⟩ | ⟨a, b, _⟩ | ⟨a, b, _⟩ | ⟨a, b, _⟩
      · omega
      all_goals rw [a, b]; rfl
    have hs : (strOfNums (be n (vsize n))).size = vsize n := by rw [strOfNums_size, be_length]
    have hh := head_small n (by omega)
    refine Ev.congr (f := fun _ => some (vput n)) (fun k => ?_) (Ev.now _)
    rw [hm]
    simp only [Option.bind_some]
    rw [if_pos (by omega), if_pos (by omega), bytesOf_be, show ((be n (vsize n)).getD 0 0 + 64 * vform n) % 256 = (be n (vsize n)).getD 0 0 + 64 * vform n by omega]
    simp [vput, h, vlist]
theorem VarintPuts : Law.Pure := by
  intro n _
  refine (Ev.congr (f := fun k => (vizardref01_Size.f k n).bind fun t => (if (vsize n : Int) = t then ((varint_Put.f k n).bind fun a => ((vizardref01_Put.f k n).bind fun b => (some (a.toList == b.toList)))) else (some false))) (fun k => ?_) (Ev.bind (size_r n) ?_)).rounds
  · simp only [vizardlaw01_VarintPuts.f]
    rw [size_a]
    rfl
  · simp only [if_true]
    refine Ev.bind (put_ev n) (Ev.bind (put_r n) ?_)
    simp only [beq_self_eq_true]
    exact Ev.now _

end Go.Proofs.YtbbjeifbcijkcaaDoor.Pure
