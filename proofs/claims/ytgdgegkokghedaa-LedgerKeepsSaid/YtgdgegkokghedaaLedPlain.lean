/- ledger: plain words. -/
import Derived.Test.YtgdgegkokghedaaPreds3
namespace Go.Proofs.Ytgdgegkokghedaa.Led
open Go.RowKit Go.Proofs.YtgdgegkokghedaaW.PrintWords Go.Proofs.YtgdgegkokghedaaW.PrintLast Go.Proofs.YtgdgegkokghedaaW.PrintMore Go.Proofs.Ytgdgegkokghedaa.PLedgerKeeps Go.Proofs.Ytgdgegkokghedaa
set_option linter.unusedVariables false
set_option linter.unusedSimpArgs false
def nums (l : List S58) : List Int := l.map (·.f0)
theorem numbers_l (l : List S58) (hl : l.length ≤ 100000) : ∀ (n i : Nat) (out : List Int), i + n = l.length → out = nums (l.take i) → ledger_numbers.l0 (n + 1) out l (l.length : Int) (i : Int) = some (nums l)
  | 0, i, out, h, ho => by
    unfold ledger_numbers.l0
    rw [if_neg (by omega), ho, show i = l.length by omega, List.take_length]
  | n + 1, i, out, h, ho => by
    unfold ledger_numbers.l0
    have hi : i < l.length := by omega
    have hlen : out.length ≤ 100000 := by rw [ho]; simp [nums]; omega
    rw [if_pos (by omega), if_pos (by omega), if_pos (by omega), if_pos (by omega), show wrap64 ((i : Int) + 1) = ((i + 1 : Nat) : Int) by unfold wrap64; omega]
    refine numbers_l l hl n (i + 1) _ (by omega) ?_
    rw [ho, take58 l i hi]
    simp [nums, rd_T58]
theorem numbers_f (l : List S58) (hl : l.length ≤ 100000) : ledger_numbers.f (l.length + 1) l = some (nums l) := numbers_l l hl l.length 0 [] (by omega) rfl
def fineB (x : S34) : Bool := decide (0 ≤ x.f0) && decide (x.f0 ≤ x.f1) && decide (x.f1 ≤ 4611686018427387903)
def goodB (r : List S34) (i : Nat) : Bool := fineB (r.getD i z34) && (decide (i = 0) || decide ((r.getD i z34).f1 < (r.getD (i - 1) z34).f0 - 1))
def chkFrom (r : List S34) (i : Nat) : Nat → Int
  | 0 => 0
  | n + 1 => if goodB r i then chkFrom r (i + 1) n else 2
def chkV (r : List S34) : Int := if 16 < r.length then 8 else chkFrom r 0 r.length
theorem fineB_iff (x : S34) : fineB x = true ↔ 0 ≤ x.f0 ∧ x.f0 ≤ x.f1 ∧ x.f1 ≤ 4611686018427387903 := by simp [fineB, and_assoc]
theorem acks_fine_f (a b : Int) : acks_fine.f a b = some (fineB ⟨a, b⟩) := by
  unfold acks_fine.f fineB
  dsimp only
  by_cases h1 : 0 ≤ a <;> by_cases h2 : a ≤ b <;> simp [h1, h2]
theorem ref_fine_f (a b : Int) : vizardref08_fine.f a b = some (fineB ⟨a, b⟩) := by
  unfold vizardref08_fine.f fineB
  dsimp only
  by_cases h1 : 0 ≤ a <;> by_cases h2 : a ≤ b <;> by_cases h3 : b ≤ 4611686018427387903 <;> simp [h1, h2, h3]
theorem chk_l1 (r : List S34) (hr : r.length ≤ 16) : ∀ (n i : Nat), i + n = r.length → (0 < i → fineB (r.getD (i - 1) z34) = true) → acks_Check.l0 (n + 1) r r (r.length : Int) (i : Int) = some (chkFrom r i n)
  | 0, i, h, hp => by
    unfold acks_Check.l0 chkFrom
    rw [if_neg (by omega)]
  | n + 1, i, h, hp => by
    have hnx := chk_l1 r hr n (i + 1) (by omega)
    unfold acks_Check.l0 chkFrom
    rw [if_pos (by omega), if_pos (by omega), if_pos (by omega), acks_fine_f]
    rw [show rd_T34 r (i : Int) = r.getD i z34 by unfold rd_T34; rw [Int.toNat_natCast]]
    rw [show (⟨(r.getD i z34).f0, (r.getD i z34).f1⟩ : S34) = r.getD i z34 from rfl]
    simp only [Option.bind_some]
    cases hf : fineB (r.getD i z34) with
    | false =>
      rw [if_neg (by simp), if_neg (by unfold goodB; rw [hf]; simp)]
    | true =>
      have hnx := hnx (fun _ => by rw [Nat.add_sub_cancel]; exact hf)
      rw [if_pos rfl, show wrap64 ((i : Int) + 1) = ((i + 1 : Nat) : Int) by unfold wrap64; omega]
      by_cases h0 : i = 0
      · rw [if_neg (by omega), if_pos (by unfold goodB; rw [hf, h0]; rfl)]
        exact hnx
      · have hq := (fineB_iff _).1 (hp (by omega))
        have hx := (fineB_iff _).1 hf
        rw [show wrap64 ((i : Int) - 1) = ((i - 1 : Nat) : Int) by unfold wrap64; omega]
        rw [if_pos (by omega), if_pos (by omega), if_pos (by omega)]
        rw [show rd_T34 r ((i - 1 : Nat) : Int) = r.getD (i - 1) z34 by unfold rd_T34; rw [Int.toNat_natCast]]
        rw [show wrap64 ((r.getD (i - 1) z34).f0 - 1) = (r.getD (i - 1) z34).f0 - 1 by unfold wrap64; omega]
        by_cases hc : (r.getD i z34).f1 < (r.getD (i - 1) z34).f0 - 1
        · rw [if_neg (by omega), if_pos (by unfold goodB; rw [hf, decide_eq_true hc]; simp)]
          exact hnx
        · rw [if_pos (by omega), if_neg (by unfold goodB; rw [hf, decide_eq_false hc, decide_eq_false h0]; simp)]
theorem chk_l2 (r : List S34) (hr : r.length ≤ 16) : ∀ (n i : Nat), i + n = r.length → (0 < i → fineB (r.getD (i - 1) z34) = true) → vizardref08_Check.l0 (n + 1) r (i : Int) = some (chkFrom r i n)
  | 0, i, h, hp => by
    unfold vizardref08_Check.l0 chkFrom
    rw [if_neg (by omega)]
  | n + 1, i, h, hp => by
    have hnx := chk_l2 r hr n (i + 1) (by omega)
    unfold vizardref08_Check.l0 chkFrom
    rw [if_pos (by omega), if_pos (by omega), ref_fine_f]
    rw [show rd_T34 r (i : Int) = r.getD i z34 by unfold rd_T34; rw [Int.toNat_natCast]]
    rw [show (⟨(r.getD i z34).f0, (r.getD i z34).f1⟩ : S34) = r.getD i z34 from rfl]
    simp only [Option.bind_some]
    cases hf : fineB (r.getD i z34) with
    | false =>
      rw [if_neg (by simp), if_neg (by unfold goodB; rw [hf]; simp)]
    | true =>
      have hnx := hnx (fun _ => by rw [Nat.add_sub_cancel]; exact hf)
      rw [if_pos rfl, show wrap64 ((i : Int) + 1) = ((i + 1 : Nat) : Int) by unfold wrap64; omega]
      by_cases h0 : i = 0
      · rw [if_neg (by omega), if_pos (by unfold goodB; rw [hf, h0]; rfl)]
        exact hnx
      · have hq := (fineB_iff _).1 (hp (by omega))
        have hx := (fineB_iff _).1 hf
        rw [show wrap64 ((i : Int) - 1) = ((i - 1 : Nat) : Int) by unfold wrap64; omega]
        rw [if_pos (by omega), if_pos (by omega), if_pos (by omega)]
        rw [show rd_T34 r ((i - 1 : Nat) : Int) = r.getD (i - 1) z34 by unfold rd_T34; rw [Int.toNat_natCast]]
        rw [show wrap64 ((r.getD (i - 1) z34).f0 - (r.getD i z34).f1) = (r.getD (i - 1) z34).f0 - (r.getD i z34).f1 by unfold wrap64; omega]
        by_cases hc : (r.getD i z34).f1 < (r.getD (i - 1) z34).f0 - 1
        · rw [if_neg (by omega), if_neg (by omega), if_pos (by unfold goodB; rw [hf, decide_eq_true hc]; simp)]
          exact hnx
        · rw [if_neg (show ¬ goodB r i = true by unfold goodB; rw [hf, decide_eq_false hc, decide_eq_false h0]; simp)]
          by_cases hd : (r.getD i z34).f1 ≥ (r.getD (i - 1) z34).f0
          · rw [if_pos hd]
          · rw [if_neg hd, if_pos (by omega)]
theorem chk_acks (r : List S34) : acks_Check.f (r.length + 1) r = some (chkV r) := by
  unfold acks_Check.f chkV
  by_cases h : 16 < r.length
  · rw [if_pos (by omega), if_pos h]
  · rw [if_neg (by omega), if_neg h]
    exact chk_l1 r (by omega) r.length 0 (by omega) (fun h => by omega)
theorem chk_ref (r : List S34) : vizardref08_Check.f (r.length + 1) r = some (chkV r) := by
  unfold vizardref08_Check.f chkV
  by_cases h : 16 < r.length
  · rw [if_pos (by omega), if_pos h]
  · rw [if_neg (by omega), if_neg h]
    exact chk_l2 r (by omega) r.length 0 (by omega) (fun h => by omega)
theorem chkFrom_good (r : List S34) : ∀ (n i : Nat), chkFrom r i n = 0 → ∀ j, i ≤ j → j < i + n → goodB r j = true
  | 0, i, h, j, h1, h2 => by omega
  | n + 1, i, h, j, h1, h2 => by
    unfold chkFrom at h
    cases hg : goodB r i with
    | false => rw [hg] at h; simp at h
    | true =>
      rw [hg, if_pos rfl] at h
      by_cases e : j = i
      · rw [e]; exact hg
      · exact chkFrom_good r n (i + 1) h j (by omega) (by omega)
theorem chkV_good (r : List S34) (h : chkV r = 0) : r.length ≤ 16 ∧ ∀ i, i < r.length → goodB r i = true := by
  unfold chkV at h
  by_cases hl : 16 < r.length
  · rw [if_pos hl] at h; omega
  · rw [if_neg hl] at h
    exact ⟨by omega, fun i hi => chkFrom_good r _ _ h i (by omega) (by omega)⟩
theorem chkV_one (x : S34) (h : fineB x = true) : chkV [x] = 0 := by
  have : goodB [x] 0 = true := by unfold goodB; simp [h]
  unfold chkV chkFrom chkFrom
  simp [this]
theorem chkV_vals (r : List S34) : chkV r = 0 ∨ chkV r = 2 ∨ chkV r = 8 := by
  have : ∀ n i, chkFrom r i n = 0 ∨ chkFrom r i n = 2 := by
    intro n
    induction n with
    | zero => exact fun i => .inl rfl
    | succ n ih => intro i; unfold chkFrom; split; exact ih _; exact .inr rfl
  unfold chkV
  split
  · exact .inr (.inr rfl)
  · rcases this r.length 0 with h | h
    · exact .inl h
    · exact .inr (.inl h)
/-! ### The state -/
structure Inv (s : LS) : Prop where
  t0 : -1 ≤ s.top
  t1 : s.top ≤ 4611686018427387903
  w0 : 2400 ≤ s.win
  w1 : s.win ≤ 1073741824
  b0 : 0 ≤ s.back
  b1 : s.back ≤ 6
  fl : ∀ x ∈ s.fl, 0 ≤ x.f0 ∧ x.f0 ≤ s.top ∧ 1 ≤ x.f2 ∧ x.f2 ≤ 1200
  asc : s.fl.Pairwise (fun x y => x.f0 < y.f0)
theorem inv_init : Inv initL := ⟨by decide, by decide, by decide, by decide, by decide, by decide, fun x (hx : x ∈ ([] : List S58)) => by simp at hx, List.Pairwise.nil⟩
def sentS (s : LS) (n now z : Int) : LS := { s with fl := s.fl ++ [⟨n, now, z⟩], top := n }
theorem inv_sent {s : LS} (h : Inv s) {n now z : Int} (ho : sentOk s n z) : Inv (sentS s n now z) := by
  obtain ⟨h1, h2, h3, h4⟩ := ho
  have := h.t0
  refine ⟨by show -1 ≤ n; omega, h2, h.w0, h.w1, h.b0, h.b1, fun x hx => ?_, ?_⟩
  · show 0 ≤ x.f0 ∧ x.f0 ≤ n ∧ _
    rcases List.mem_append.1 hx with hx | hx
    · have := h.fl x hx; omega
    · rw [List.mem_singleton] at hx; subst hx; exact ⟨by show 0 ≤ n; omega, Int.le_refl _, h3, h4⟩
  · refine List.pairwise_append.2 ⟨h.asc, List.pairwise_singleton _ _, fun x hx y hy => ?_⟩
    rw [List.mem_singleton] at hy
    subst hy
    have := h.fl x hx
    show x.f0 < n
    omega
theorem growW_range {win thr z : Int} (h0 : 2400 ≤ win) (h1 : win ≤ 1073741824) (hz0 : 1 ≤ z) (hz1 : z ≤ 1200) : 2400 ≤ growW win thr z ∧ growW win thr z ≤ 1073741824 := by
  have hq0 : 0 ≤ Int.tdiv (1200 * z) win := Int.tdiv_nonneg (by omega) (by omega)
  unfold growW growX
  split <;> split <;> omega
/-- What came there does to the state. -/
def toldS (s : LS) : List S58 → LS
  | [] => s
  | x :: l => toldS { s with win := growW s.win s.thr x.f2, back := 0 } l
theorem inv_told : ∀ (l : List S58) (s : LS), Inv s → (∀ x ∈ l, 1 ≤ x.f2 ∧ x.f2 ≤ 1200) → Inv (toldS s l)
  | [], s, h, _ => h
  | x :: l, s, h, hx => by
    have h1 := hx x List.mem_cons_self
    have h2 := growW_range (thr := s.thr) h.w0 h.w1 h1.1 h1.2
    exact inv_told l _ ⟨h.t0, h.t1, h2.1, h2.2, Int.le_refl 0, (by omega : (0 : Int) ≤ 6), h.fl, h.asc⟩ (fun y hy => hx y (List.mem_cons_of_mem _ hy))
theorem told_app : ∀ (a b : List S58) (s : LS), toldS s (a ++ b) = toldS (toldS s a) b
  | [], b, s => rfl
  | x :: a, b, s => told_app a b _
theorem told_fl : ∀ (l : List S58) (s : LS), (toldS s l).fl = s.fl ∧ (toldS s l).top = s.top ∧ (toldS s l).thr = s.thr ∧ (toldS s l).mark = s.mark
  | [], s => ⟨rfl, rfl, rfl, rfl⟩
  | x :: l, s => told_fl l _
theorem inv_keep {s : LS} (h : Inv s) (q : S58 → Bool) : Inv { s with fl := s.fl.filter q } :=
  ⟨h.t0, h.t1, h.w0, h.w1, h.b0, h.b1, fun x hx => h.fl x (List.mem_filter.1 hx).1, h.asc.filter _⟩
theorem inv_lose {s : LS} (h : Inv s) (l : List S58) : Inv (loseS s l) := by
  have hw0 := h.w0
  have hw1 := h.w1
  unfold loseS
  split
  · exact h
  · split
    · have hd : Int.tdiv s.win 2 = s.win / 2 := Int.tdiv_eq_ediv_of_nonneg (by omega)
      refine ⟨h.t0, h.t1, ?_, ?_, h.b0, h.b1, h.fl, h.asc⟩
      · show 2400 ≤ (if 2400 < Int.tdiv s.win 2 then Int.tdiv s.win 2 else 2400)
        split <;> omega
      · show (if 2400 < Int.tdiv s.win 2 then Int.tdiv s.win 2 else 2400) ≤ 1073741824
        rw [hd]; split <;> omega
    · exact h
theorem lose_fl (s : LS) (l : List S58) : (loseS s l).fl = s.fl ∧ (loseS s l).top = s.top ∧ (loseS s l).back = s.back := by
  unfold loseS
  split
  · exact ⟨rfl, rfl, rfl⟩
  · split <;> exact ⟨rfl, rfl, rfl⟩
end Go.Proofs.Ytgdgegkokghedaa.Led
