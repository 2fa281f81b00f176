/- VarintGets, the plain law: from any bytes the program and the reference take the same number and the same text, or find them too short. -/
import Derived.Test.YtbbjeifbcijkcaaDoorGoodVarintGets
namespace Go.Proofs.YtbbjeifbcijkcaaDoor.Pure
open Go.RowKit Go.Proofs.YtbbjeifbcijkcaaDoor.PVarintGets Go.Proofs.YtbbjeifbcijkcaaDoorW.PrintWords Go.Proofs.YtbbjeifbcijkcaaDoorW.PrintLast Go.Proofs.YtbbjeifbcijkcaaDoor.Opening
set_option linter.unusedVariables false
set_option linter.unusedSimpArgs false
theorem wrap_in (x : Int) (h0 : -9223372036854775808 ≤ x) (h1 : x ≤ 9223372036854775807) : wrap64 x = x := by
  unfold wrap64
  omega
theorem mx_eq (a b : Int) : mx a b = if a < b then b else a := rfl
theorem mn_eq (a b : Int) : mn a b = if b < a then b else a := rfl
theorem u64_eq (n : Int) : IntKind.u64.wrap n = n % 18446744073709551616 := by simp [IntKind.wrap, IntKind.bits, IntKind.signed]
theorem u64_range (n : Int) : 0 ≤ IntKind.u64.wrap n ∧ IntKind.u64.wrap n < 18446744073709551616 := by
  rw [u64_eq]
  omega
theorem u32_eq (n : Int) : IntKind.u32.wrap n = n % 4294967296 := by simp [IntKind.wrap, IntKind.bits, IntKind.signed]
theorem bits_and63 (x : Int) (h0 : 0 ≤ x) (h1 : x < 256) : Go.bits .and .u8 x 63 = x % 64 := u8_and63 x h0 h1
theorem or_byte (x y : Int) (hx : 0 ≤ x) (hx1 : x < 36028797018963968) (hy : 0 ≤ y) (hy1 : y < 256) : Go.bits .or .i64 (x * 256) y = x * 256 + y :=
  bits_join .i64 63 (by decide) (fun n h0 h1 => by rw [IntKind.wrap_i64]; omega) 8 _ _ (by omega) (by omega) (by omega) hy (by omega) (by omega)
/-- What the first bytes come to, the first one's two highest bits struck. -/
def vacc (s : ByteArray) : Nat → Int
  | 0 => 0
  | 1 => bt s 0 % 64
  | (i + 2) => vacc s (i + 1) * 256 + bt s ((i + 1 : Nat) : Int)
def vlenOf (b : Int) : Int := if b < 64 then 1 else if b < 128 then 2 else if b < 192 then 4 else 8
def vget (s : ByteArray) : Int × Int × Int := if s.size = 0 then (0, 0, 1) else if (s.size : Int) < vlenOf (bt s 0) then (0, 0, 1) else (vacc s (vlenOf (bt s 0)).toNat, vlenOf (bt s 0), 0)
theorem vlen_cases (b : Int) (h0 : 0 ≤ b) (h1 : b ≤ 255) : (vlenOf b = 1 ∧ b / 64 = 0) ∨ (vlenOf b = 2 ∧ b / 64 = 1) ∨ (vlenOf b = 4 ∧ b / 64 = 2) ∨ (vlenOf b = 8 ∧ b / 64 = 3) := by
  unfold vlenOf
  repeat' split
  all_goals omega
theorem vacc_range (s : ByteArray) : ∀ i : Nat, 0 ≤ vacc s (i + 1) ∧ vacc s (i + 1) < 64 * 256 ^ i
  | 0 => by
    simp only [vacc]
    omega
  | i + 1 => by
    have h := vacc_range s i
    have hb := bt_range s ((i + 1 : Nat) : Int)
    simp only [vacc, Int.pow_succ]
    omega
theorem vacc_bound (s : ByteArray) (k : Nat) (h1 : 1 ≤ k) (h8 : k < 8) : 0 ≤ vacc s k ∧ vacc s k < 18014398509481984 := by
  obtain ⟨i, rfl⟩ : ∃ i, k = i + 1 := ⟨k - 1, by omega⟩
  have h := vacc_range s i
  have h6 : i = 0 ∨ i = 1 ∨ i = 2 ∨ i = 3 ∨ i = 4 ∨ i = 5 ∨ i = 6 := by omega
  rcases h6 with rfl | rfl | rfl | rfl | rfl | rfl | rfl <;> omega
theorem vacc_le (s : ByteArray) (k : Nat) (h1 : 1 ≤ k) (h8 : k ≤ 8) : 0 ≤ vacc s k ∧ vacc s k ≤ 4611686018427387903 := by
  obtain ⟨i, rfl⟩ : ∃ i, k = i + 1 := ⟨k - 1, by omega⟩
  have h := vacc_range s i
  have h6 : i = 0 ∨ i = 1 ∨ i = 2 ∨ i = 3 ∨ i = 4 ∨ i = 5 ∨ i = 6 ∨ i = 7 := by omega
  rcases h6 with rfl | rfl | rfl | rfl | rfl | rfl | rfl | rfl <;> omega
theorem vacc_step (s : ByteArray) (k : Nat) (h1 : 1 ≤ k) : vacc s (k + 1) = vacc s k * 256 + bt s (k : Int) := by
  obtain ⟨i, rfl⟩ : ∃ i, k = i + 1 := ⟨k - 1, by omega⟩
  rfl
theorem get_loop (s : ByteArray) (K : Nat) (hK : K ≤ 8) (hs : K ≤ s.size) (d : Nat) : ∀ i : Nat, 1 ≤ i → K - i = d → i ≤ K → Ev (fun k => varint_Get.l0 k s K (vacc s i) i) (vacc s K, (K : Int), 0) := by
  induction d with
  | zero =>
    intro i h1 hd hi
    obtain rfl : i = K := by omega
    refine Ev.step (f := fun _ => some (vacc s i, (i : Int), 0)) (fun k => ?_) (Ev.now _)
    simp only [varint_Get.l0]
    rw [if_neg (by omega)]
  | succ d ih =>
    intro i h1 hd hi
    have hv := vacc_bound s i h1 (by omega)
    have hb := bt_range s (i : Int)
    refine Ev.step (fun k => ?_) (ih (i + 1) (by omega) (by omega) (by omega))
    simp only [varint_Get.l0]
    rw [if_pos (by omega), if_pos (by omega), if_pos (by omega), wrap_in (vacc s i * 256) (by omega) (by omega), wrap_in (bt s i) (by omega) (by omega), or_byte _ _ hv.1 (by omega) hb.1 (by omega), wrap_in _ (by omega) (by omega), vacc_step s i h1]
    rfl
theorem toList_nil (s : ByteArray) : (s.toList = ([] : List UInt8)) ↔ s.size = 0 := by
  have h : s.toList.length = s.size := by rw [ByteArray.toList_eq]; exact Array.length_toList
  constructor
  · intro e; rw [e] at h; simpa using h.symm
  · intro e; rw [e] at h; exact List.length_eq_zero_iff.1 h
theorem get_ev (s : ByteArray) : Ev (fun k => varint_Get.f k s) (vget s) := by
  by_cases h : s.size = 0
  · refine Ev.congr (f := fun _ => some (vget s)) (fun k => ?_) (Ev.now _)
    simp only [varint_Get.f]
    rw [if_pos ((toList_nil s).2 h)]
    simp [vget, h]
  · have hb := bt_range s 0
    have hr : rd ([1, 2, 4, 8] : List Int) (bt s 0 / 64) = vlenOf (bt s 0) := by
      rcases vlen_cases _ hb.1 hb.2 with ⟨a, b⟩ | ⟨a, b⟩ | ⟨a, b⟩ | ⟨a, b⟩ <;> rw [a, b] <;> rfl
    by_cases hlt : (s.size : Int) < vlenOf (bt s 0)
    · refine Ev.congr (f := fun _ => some (vget s)) (fun k => ?_) (Ev.now _)
      simp only [varint_Get.f]
      rw [if_neg (fun e => h ((toList_nil s).1 e)), if_pos (by omega), if_pos (by omega), if_pos (by omega), hr, if_pos hlt]
      simp [vget, h, hlt]
    · have hc := vlen_cases _ hb.1 hb.2
      obtain ⟨K, hK⟩ : ∃ K : Nat, vlenOf (bt s 0) = K := ⟨(vlenOf (bt s 0)).toNat, by omega⟩
      have hg := get_loop s K (by omega) (by omega) (K - 1) 1 (by omega) (by omega) (by omega)
      have e : vget s = (vacc s K, (K : Int), 0) := by simp [vget, h, hK]; omega
      rw [e]
      refine Ev.congr (fun k => ?_) hg
      simp only [varint_Get.f]
      rw [if_neg (fun e => h ((toList_nil s).1 e)), if_pos (by omega), if_pos (by omega), if_pos (by omega), hr, if_neg hlt, hK, bits_and63 _ hb.1 (by omega), wrap_in _ (by omega) (by omega)]
      rfl
/-- What Take answers. -/
def vtake (s : ByteArray) : ByteArray × Int × Int :=
  if (vget s).2.2 = 0 then (if (vget s).1 > (s.size : Int) - (vget s).2.1 then (⟨#[]⟩, 0, 1) else (s.extract ((vget s).2.1).toNat ((vget s).2.1 + (vget s).1).toNat, (vget s).2.1 + (vget s).1, 0)) else (⟨#[]⟩, 0, 1)
theorem vget_ok (s : ByteArray) (h : (vget s).2.2 = 0) : 1 ≤ (vget s).2.1 ∧ (vget s).2.1 ≤ 8 ∧ (vget s).2.1 ≤ s.size ∧ 0 ≤ (vget s).1 ∧ (vget s).1 ≤ 4611686018427387903 := by
  have hb := bt_range s 0
  have hc := vlen_cases _ hb.1 hb.2
  unfold vget at h ⊢
  split at h
  · simp at h
  · rename_i h0
    rw [if_neg h0]
    split at h
    · simp at h
    · rename_i h1
      rw [if_neg h1]
      have := vacc_le s (vlenOf (bt s 0)).toNat (by omega) (by omega)
      simp only
      omega
theorem vget_err (s : ByteArray) (h : (vget s).2.2 ≠ 0) : vget s = (0, 0, 1) := by
  unfold vget at h ⊢
  repeat' split
  all_goals first | rfl | (simp_all; done)
theorem take_ev (s : ByteArray) (hs : s.size ≤ 140737488351232) : Ev (fun k => varint_Take.f k s) (vtake s) := by
  refine Ev.bind (get_ev s) (Ev.congr (f := fun _ => some (vtake s)) (fun k => ?_) (Ev.now _))
  unfold vtake
  by_cases h : (vget s).2.2 = 0
  · have := vget_ok s h
    rw [if_pos h, if_pos h, wrap_in ((s.size : Int) - _) (by omega) (by omega)]
    by_cases h2 : (vget s).1 > (s.size : Int) - (vget s).2.1
    · rw [if_pos h2, if_pos h2]
    · rw [if_neg h2, if_neg h2, wrap_in _ (by omega) (by omega), if_pos (by omega), if_pos (by omega), if_pos (by omega)]
  · rw [if_neg h, if_neg h]
theorem bt_append_left (a b : ByteArray) (i : Nat) (h : i < a.size) : bt (a ++ b) (i : Int) = bt a (i : Int) := by
  have h2 : (a ++ b).size = a.size + b.size := ByteArray.size_append
  simp only [bt, Int.toNat_natCast]
  rw [dif_pos (show i < (a ++ b).size by omega), dif_pos h, ByteArray.getElem_append_left h]
theorem bt_append_right (a b : ByteArray) (i : Nat) : bt (a ++ b) ((a.size + i : Nat) : Int) = bt b (i : Int) := by
  have h2 : (a ++ b).size = a.size + b.size := ByteArray.size_append
  simp only [bt, Int.toNat_natCast]
  by_cases h : i < b.size
  · rw [dif_pos (show a.size + i < (a ++ b).size by omega), dif_pos h, ByteArray.getElem_append_right (by omega)]
    simp
  · rw [dif_neg (by omega), dif_neg h]
theorem bt_extract (s : ByteArray) (a b i : Nat) (h : i < b - a) (hb : b ≤ s.size) : bt (s.extract a b) (i : Int) = bt s ((a + i : Nat) : Int) := by
  have h2 : (s.extract a b).size = b - a := by rw [ByteArray.size_extract]; omega
  simp only [bt, Int.toNat_natCast]
  rw [dif_pos (by omega), dif_pos (by omega), ByteArray.getElem_extract]
/-- What bytes come to, the highest first. -/
def nacc (s : ByteArray) : Nat → Int
  | 0 => 0
  | i + 1 => nacc s i * 256 + bt s (i : Int)
theorem number_loop (s : ByteArray) (hs : s.size ≤ 8) (hb : ∀ i : Nat, i < s.size → 0 ≤ nacc s i ∧ nacc s i < 18014398509481984) (d : Nat) : ∀ i : Nat, s.size - i = d → i ≤ s.size → Ev (fun k => vizardref01_Number.l0 k s (nacc s i) i) (nacc s s.size) := by
  induction d with
  | zero =>
    intro i hd hi
    obtain rfl : i = s.size := by omega
    refine Ev.step (f := fun _ => some (nacc s s.size)) (fun k => ?_) (Ev.now _)
    simp only [vizardref01_Number.l0]
    rw [if_neg (by omega)]
  | succ d ih =>
    intro i hd hi
    have hv := hb i (by omega)
    have hr := bt_range s (i : Int)
    refine Ev.step (fun k => ?_) (ih (i + 1) (by omega) (by omega))
    simp only [vizardref01_Number.l0]
    rw [if_pos (by omega), if_pos (by omega), wrap_in (nacc s i * 256) (by omega) (by omega), wrap_in (bt s i) (by omega) (by omega), wrap_in _ (by omega) (by omega), wrap_in _ (by omega) (by omega)]
    rfl
theorem one_size (x : Int) : (strOfNums [x]).size = 1 := rfl
theorem one_bt (x : Int) (h0 : 0 ≤ x) (h1 : x ≤ 255) : bt (strOfNums [x]) 0 = x := by
  have h : bt (strOfNums [x]) 0 = ((UInt8.ofNat x.toNat).toNat : Int) := rfl
  rw [h]
  simp
  omega
theorem rget_loop (s : ByteArray) (h0 : 0 < s.size) (hs : s.size ≤ 140737488351232) (d : Nat) : ∀ (i K : Nat), (bt s 0 / 64) - i = d → (i = 0 ∧ K = 1 ∨ i = 1 ∧ K = 2 ∨ i = 2 ∧ K = 4 ∨ i = 3 ∧ K = 8) → (i : Int) ≤ bt s 0 / 64 →
    Ev (fun k => vizardref01_Get.l0 k s K i) (vget s) := by
  have hb := bt_range s 0
  induction d with
  | zero =>
    intro i K hd hK hi
    have hc := vlen_cases _ hb.1 hb.2
    have hl : vlenOf (bt s 0) = K := by omega
    have e1 : Int.tdiv (bt s 0) 64 = bt s 0 / 64 := Int.tdiv_eq_ediv_of_nonneg hb.1
    have e2 : Int.tmod (bt s 0) 64 = bt s 0 % 64 := Int.tmod_eq_emod_of_nonneg hb.1
    by_cases hlt : (s.size : Int) < K
    · refine Ev.step (f := fun _ => some (vget s)) (fun k => ?_) (Ev.now _)
      simp only [vizardref01_Get.l0]
      rw [if_pos (by omega), e1, if_neg (by omega), if_pos hlt]
      simp [vget, hl, hlt, show ¬ s.size = 0 by omega]
    · let t := strOfNums [bt s 0 % 64] ++ s.extract 1 K
      have hts : t.size = K := by
        have : t.size = (strOfNums [bt s 0 % 64]).size + (s.extract 1 K).size := ByteArray.size_append
        rw [this, one_size, ByteArray.size_extract]
        omega
      have hn : ∀ j : Nat, 1 ≤ j → j ≤ K → nacc t j = vacc s j := by
        intro j
        induction j with
        | zero => intro h; omega
        | succ j ihj =>
          intro h1 h2
          by_cases hj : j = 0
          · subst hj
            simp only [nacc, vacc]
            have : bt t ((0 : Nat) : Int) = bt s 0 % 64 := by
              rw [bt_append_left _ _ 0 (by rw [one_size]; omega)]
              exact one_bt _ (by omega) (by omega)
            rw [this]
            omega
          · rw [vacc_step s j (by omega), ← ihj (by omega) (by omega)]
            simp only [nacc]
            congr 1
            have : bt t (((strOfNums [bt s 0 % 64]).size + (j - 1) : Nat) : Int) = bt (s.extract 1 K) ((j - 1 : Nat) : Int) := bt_append_right _ _ _
            rw [one_size, show 1 + (j - 1) = j by omega, bt_extract s 1 K (j - 1) (by omega) (by omega), show 1 + (j - 1) = j by omega] at this
            exact this
      have hnum := number_loop t (by omega) (fun j hj => by
        by_cases h1 : j = 0
        · subst h1; simp [nacc]
        · rw [hn j (by omega) (by omega)]; exact vacc_bound s j (by omega) (by omega)) t.size 0 (by omega) (by omega)
      rw [hts, hn K (by omega) (by omega)] at hnum
      have e : vget s = (vacc s K, (K : Int), 0) := by simp [vget, hl, show ¬ s.size = 0 by omega]; omega
      rw [e]
      refine Ev.step (f := fun k => (vizardref01_Number.f k t).bind fun t105 => some (t105, (K : Int), (0 : Int))) (fun k => ?_) (Ev.bind hnum (Ev.now _))
      have hsz : (strOfNums [bt s 0 % 64]).size + (s.extract 1 K).size ≤ 9223372036854775807 := by
        rw [one_size, ByteArray.size_extract]
        omega
      simp only [vizardref01_Get.l0, e1, e2]
      rw [if_pos (by omega), if_neg (by omega), if_neg hlt]
      simp only [Option.bind_some, Int.toNat_natCast]
      rw [if_pos (by omega), if_pos (by omega), if_pos hsz]
  | succ d ih =>
    intro i K hd hK hi
    have e1 : Int.tdiv (bt s 0) 64 = bt s 0 / 64 := Int.tdiv_eq_ediv_of_nonneg hb.1
    refine Ev.step (fun k => ?_) (ih (i + 1) (2 * K) (by omega) (by omega) (by omega))
    simp only [vizardref01_Get.l0]
    rw [if_pos (by omega), e1, if_pos (by omega), wrap_in _ (by omega) (by omega), show ((i : Int) + 1) % 256 = ((i + 1 : Nat) : Int) by omega]
    rfl
theorem rget_ev (s : ByteArray) (hs : s.size ≤ 140737488351232) : Ev (fun k => vizardref01_Get.f k s) (vget s) := by
  by_cases h : s.size = 0
  · refine Ev.congr (f := fun _ => some (vget s)) (fun k => ?_) (Ev.now _)
    simp only [vizardref01_Get.f]
    rw [if_pos (by omega)]
    simp [vget, h]
  · have hb := bt_range s 0
    refine Ev.congr (fun k => ?_) (rget_loop s (by omega) hs (bt s 0 / 64).toNat 0 1 (by omega) (by omega) (by omega))
    simp only [vizardref01_Get.f]
    rw [if_neg (by omega)]
    rfl
theorem rtake_ev (s : ByteArray) (hs : s.size ≤ 140737488351232) : Ev (fun k => vizardref01_Take.f k s) (vtake s) := by
  refine Ev.bind (rget_ev s hs) (Ev.congr (f := fun _ => some (vtake s)) (fun k => ?_) (Ev.now _))
  unfold vtake
  by_cases h : (vget s).2.2 = 0
  · have := vget_ok s h
    rw [if_pos h, if_pos h, wrap_in ((s.size : Int) - _) (by omega) (by omega)]
    by_cases h2 : (s.size : Int) - (vget s).2.1 < (vget s).1
    · have h3 : (vget s).1 > (s.size : Int) - (vget s).2.1 := h2
      simp only [if_pos h2, if_pos h3]
    · have h3 : ¬ (vget s).1 > (s.size : Int) - (vget s).2.1 := h2
      simp only [if_neg h2, if_neg h3]
      rw [wrap_in _ (by omega) (by omega), if_pos (by omega), if_pos (by omega), if_pos (by omega)]
  · rw [if_neg h, if_neg h]
theorem VarintGets : Law.Pure := by
  intro s hs
  refine (Ev.bind (get_ev s) (Ev.bind (rget_ev s hs) (Ev.bind (take_ev s hs) (Ev.bind (rtake_ev s hs) ?_)))).rounds
  simp only [if_true, beq_self_eq_true]
  exact Ev.now _

end Go.Proofs.YtbbjeifbcijkcaaDoor.Pure
