/- ledger.Ledger: what each act does, in one contract each. -/
import Derived.Test.YtgdgegkokghedaaExpire
namespace Go.Proofs.Ytgdgegkokghedaa.Led
open Go.RowKit Go.Deep Go.Proofs.YtgdgegkokghedaaW.PrintWords Go.Proofs.YtgdgegkokghedaaW.PrintLast Go.Proofs.YtgdgegkokghedaaW.PrintMore Go.Proofs.Ytgdgegkokghedaa.PLedgerKeeps Go.Proofs.Ytgdgegkokghedaa
set_option linter.unusedVariables false
set_option linter.unusedSimpArgs false
structure AckR where
  st : LS
  told : List Int
  lost : List Int
  er : Int
def ackR (s : LS) (r : List S34) : AckR :=
  if chkV r ≠ 0 then ⟨s, [], [], 2⟩ else if r.length = 0 then ⟨s, [], [], 0⟩ else if hiOf r > s.top then ⟨s, [], [], 2⟩ else ⟨ackS3 s r, nums (ackTold s r), nums (ackLost s r), 0⟩
theorem acked_c (w0 W w1 : World) (g cr : Nat) (Ar : Option Addr) (r : List S34) (v v1 : Value) (s : LS) (h : LP w0 W w1 g v v1 s) (hg : w0.heap.size ≤ g) (hC : ∀ w, KeepBut w1 w g v1.ownBlock → Kd.C k34 w Ar r.length r) (hcap : r.length ≤ cr) (hI : Inv s) (hn : s.fl.length ≤ 100000) :
    Calls Try.prog 12 #[.pointer (some ⟨g, 0, none⟩), .slice Ar r.length cr] w1 fun e w' => Acks w0 W w1 w' g v (ackR s r).st (ackR s r).told (ackR s r).lost (ackR s r).er e := by
  unfold ackR
  by_cases h1 : chkV r ≠ 0
  · rw [if_pos h1]; exact acked_bad w0 W w1 g cr Ar r v v1 s h hg hC hcap h1
  · rw [if_neg h1]
    have h1 := Classical.not_not.1 h1
    by_cases h2 : r.length = 0
    · rw [if_pos h2]; exact acked_nil w0 W w1 g cr Ar r v v1 s h hg hC hcap h1 h2
    · rw [if_neg h2]
      by_cases h3 : hiOf r > s.top
      · rw [if_pos h3]; exact acked_high w0 W w1 g cr Ar r v v1 s h hg hC hcap h1 (by omega) h3
      · rw [if_neg h3]; exact acked_main w0 W w1 g cr Ar r v v1 s h hg hC hcap hI hn h1 (by omega) (by omega)
def expR (now : Int) (s : LS) : LS × List Int := if dueV now s then (expS s, nums s.fl) else (s, [])
theorem expire_c (w0 W w1 : World) (g : Nat) (now : Int) (v v1 : Value) (s : LS) (h : LP w0 W w1 g v v1 s) (hg : w0.heap.size ≤ g) (hI : Inv s) (hn : s.fl.length ≤ 100000) :
    Calls Try.prog 13 #[.pointer (some ⟨g, 0, none⟩), .int .i64 now] w1 fun e w' => Exps w0 W w1 w' g v (expR now s).1 (expR now s).2 e := by
  unfold expR
  cases hd : dueV now s
  · exact expire_no w0 W w1 g now v v1 s h hI hd
  · exact expire_yes w0 W w1 g now v v1 s h hg hI hn hd
theorem inv_exp {s : LS} (h : Inv s) : Inv (expS s) := by
  have h0 : Inv { s with fl := [] } := ⟨h.t0, h.t1, h.w0, h.w1, h.b0, h.b1, fun x (hx : x ∈ ([] : List S58)) => by simp at hx, List.Pairwise.nil⟩
  have h1 := inv_lose h0 s.fl
  have := h.b0
  have := h.b1
  refine ⟨h1.t0, h1.t1, h1.w0, h1.w1, ?_, ?_, h1.fl, h1.asc⟩
  · show 0 ≤ (if 6 < s.back + 1 then 6 else s.back + 1)
    split <;> omega
  · show (if 6 < s.back + 1 then 6 else s.back + 1) ≤ 6
    split <;> omega
theorem inv_expR {now : Int} {s : LS} (h : Inv s) : Inv (expR now s).1 := by
  unfold expR
  split
  · exact inv_exp h
  · exact h
theorem inv_ack {s : LS} (h : Inv s) (r : List S34) : Inv (ackR s r).st := by
  unfold ackR
  split
  · exact h
  · split
    · exact h
    · split
      · exact h
      · refine inv_lose (inv_keep (inv_told _ _ (inv_keep h _) (fun x hx => (h.fl x (List.mem_filter.1 hx).1).2.2)) _) _
theorem exp_len (now : Int) (s : LS) : (expR now s).1.fl.length ≤ s.fl.length := by
  unfold expR
  split
  · show (expS s).fl.length ≤ _
    unfold expS
    rw [show ({ loseS { s with fl := [] } s.fl with back := (if 6 < s.back + 1 then 6 else s.back + 1) } : LS).fl = (loseS { s with fl := [] } s.fl).fl from rfl, (lose_fl _ _).1]
    exact Nat.zero_le _
  · exact Nat.le_refl _
theorem ack_len (s : LS) (r : List S34) : (ackR s r).st.fl.length ≤ s.fl.length := by
  unfold ackR
  split
  · exact Nat.le_refl _
  · split
    · exact Nat.le_refl _
    · split
      · exact Nat.le_refl _
      · show (ackS3 s r).fl.length ≤ _
        unfold ackS3
        rw [(lose_fl _ _).1]
        unfold ackS2
        refine Nat.le_trans (List.length_filter_le _ _) ?_
        unfold ackS1
        rw [(told_fl _ _).1]
        exact List.length_filter_le _ _
/-- A row of one range that was built. -/
theorem one_C {w : World} {b t : Nat} {lo hi : Int} (h : w.heap[b]? = some (.cells #[.int .i64 lo, .int .i64 hi] t (0, 0))) : Kd.C k34 w (some ⟨b, 0, none⟩) 1 [⟨lo, hi⟩] := by
  refine ⟨rfl, by decide, fun _ => ⟨_, rfl, fun j p hj => ?_⟩⟩
  cases j with
  | succ j => simp at hj
  | zero =>
    obtain rfl : (⟨lo, hi⟩ : S34) = p := by simpa using hj
    refine ⟨[.int .i64 lo, .int .i64 hi], rfl, k34_mk _ _, fun i u hi_ => ?_⟩
    rw [show 0 * k34.sz + i = i by omega, add0]
    rcases i with _ | _ | i
    · exact (blk_cell h 0).trans (by simpa using hi_)
    · exact (blk_cell h 1).trans (by simpa using hi_)
    · simp at hi_
theorem one_keep {w1 : World} {b t g : Nat} {own : Option Nat} {lo hi : Int} (h : w1.heap[b]? = some (.cells #[.int .i64 lo, .int .i64 hi] t (0, 0))) (hg : b ≠ g) (ho : some b ≠ own) : ∀ w, KeepBut w1 w g own → Kd.C k34 w (some ⟨b, 0, none⟩) ([(⟨lo, hi⟩ : S34)] : List S34).length [⟨lo, hi⟩] :=
  fun w hk => one_C ((hk.2 b (blk_lt h) hg ho).trans h)
end Go.Proofs.Ytgdgegkokghedaa.Led
