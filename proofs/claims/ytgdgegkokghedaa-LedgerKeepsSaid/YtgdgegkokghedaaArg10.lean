/- Ledger: rows of ranges that came in, or were built before, are kept over the acts. -/
import Derived.Test.YtgdgegkokghedaaWalkEnds
namespace Go.Proofs.Ytgdgegkokghedaa.Led
open Go.RowKit Go.Deep Go.Proofs.YtgdgegkokghedaaW.PrintWords Go.Proofs.YtgdgegkokghedaaW.PrintLast Go.Proofs.YtgdgegkokghedaaW.PrintMore Go.Proofs.Ytgdgegkokghedaa.PLedgerKeeps Go.Proofs.Ytgdgegkokghedaa Go.Proofs.Ytgdgegkokghedaa.Walk
set_option linter.unusedVariables false
set_option linter.unusedSimpArgs false
theorem c34_heap {w w2 : World} {A : Option Addr} {n : Nat} {xs : List S34} (h : Kd.C k34 w A n xs) (hk : ∀ k, k < w.heap.size → w2.heap[k]? = w.heap[k]?) : Kd.C k34 w2 A n xs := by
  refine ⟨h.1, h.2.1, fun hn => ?_⟩
  obtain ⟨ad, e, hc⟩ := h.2.2 hn
  refine ⟨ad, e, fun j p hj => ?_⟩
  obtain ⟨us, hl, hK, hcells⟩ := hc j p hj
  refine ⟨us, hl, hK, fun i u hu => ?_⟩
  have h1 := hcells i u hu
  generalize ad.add (j * k34.sz + i) = a at h1
  unfold World.cell? at h1 ⊢
  rcases Nat.lt_or_ge a.block w.heap.size with hb | hb
  · rw [hk _ hb]; exact h1
  · rw [Array.getElem?_eq_none hb] at h1; simp at h1
theorem LP.arg {w0 W w1 : World} {g : Nat} {v v1 : Value} {s : LS} (h : LP w0 W w1 g v v1 s) (hg : w0.heap.size ≤ g) {A : Option Addr} {n : Nat} {xs : List S34} (hC : Kd.C k34 w0 A n xs) : ∀ w, KeepBut w1 w g v1.ownBlock → Kd.C k34 w A n xs := fun w hk => by
  refine c34_heap hC (fun k hlt => (hk.2 k (Nat.lt_of_lt_of_le hlt h.bel.size) (fun he => by omega) (fun he => ?_)).trans (h.bel.block k hlt))
  have := ((Kd.R_bound h.lg.row).1 k he.symm).2.1
  omega
theorem LP.built {w0 W w1 : World} {g b t : Nat} {v v1 : Value} {s : LS} {lo hi : Int} (h : LP w0 W w1 g v v1 s) (hb : W.heap[b]? = some (.cells #[.int .i64 lo, .int .i64 hi] t (0, 0))) (hg : b ≠ g) (ho : some b ≠ v.ownBlock) : ∀ w, KeepBut w1 w g v1.ownBlock → Kd.C k34 w (some ⟨b, 0, none⟩) 1 [⟨lo, hi⟩] := by
  refine one_keep ((h.keep.2 b (blk_lt hb) hg ho).trans hb) hg (fun he => ?_)
  rcases h.own with e | ⟨c, e, hc⟩
  · exact ho (he.trans e)
  · have hl := blk_lt hb
    rw [e] at he
    injection he with he
    omega
theorem ack_fl {s : LS} (h : s.fl = []) (r : List S34) : (ackR s r).told = [] ∧ (ackR s r).lost = [] ∧ (ackR s r).st.fl = [] := by
  unfold ackR
  split
  · exact ⟨rfl, rfl, h⟩
  · split
    · exact ⟨rfl, rfl, h⟩
    · split
      · exact ⟨rfl, rfl, h⟩
      · have e1 : ackTold s r = [] := by unfold ackTold; rw [h]; rfl
        have e2 : (ackS0 s r).fl = [] := by unfold ackS0; rw [h]; rfl
        have e3 : (ackS1 s r).fl = [] := by unfold ackS1; rw [(told_fl _ _).1]; exact e2
        have e4 : ackLost s r = [] := by unfold ackLost; rw [e3]; rfl
        refine ⟨by show Led.nums (ackTold s r) = []; rw [e1]; rfl, by show Led.nums (ackLost s r) = []; rw [e4]; rfl, ?_⟩
        show (ackS3 s r).fl = []
        unfold ackS3
        rw [(lose_fl _ _).1]
        show (ackS1 s r).fl.filter _ = []
        rw [e3]
        rfl
theorem ack_top (s : LS) (r : List S34) : (ackR s r).st.top = s.top := by
  unfold ackR
  split
  · rfl
  · split
    · rfl
    · split
      · rfl
      · show (ackS3 s r).top = s.top
        unfold ackS3
        rw [(lose_fl _ _).2.1]
        show (ackS1 s r).top = s.top
        unfold ackS1
        rw [(told_fl _ _).2.1]
        rfl
theorem _root_.Go.Proofs.Ytgdgegkokghedaa.Walk.SentP.next0 {s : LS} {n : Nat} (h : SentP s n) (hn : n ≤ 100000) {z : Int} (h0 : 1 ≤ z) (h1 : z ≤ 1200) : SentP { s with fl := s.fl ++ [⟨(n : Int), 0, z⟩], top := (n : Int) } (n + 1) :=
  ⟨inv_sent h.inv (h.ok hn h0 h1), by show (n : Int) = _; omega, by show (s.fl ++ _).length = _; rw [List.length_append, h.len]; rfl, h.back, fun _ => ⟨⟨(n : Int), 0, z⟩, List.mem_append_right _ (List.mem_singleton.2 rfl), rfl⟩⟩
theorem ack_over {s : LS} {n : Nat} (h : SentP s n) (hn : n ≤ 100000) : ackR s [⟨0, (n : Int)⟩] = ⟨s, [], [], 2⟩ := by
  have hc : chkV [⟨0, (n : Int)⟩] = 0 := chkV_one _ ((fineB_iff _).2 ⟨Int.le_refl _, by show (0 : Int) ≤ n; omega, by show (n : Int) ≤ _; omega⟩)
  unfold ackR
  rw [if_neg (by rw [hc]; decide), if_neg (by simp), if_pos (show hiOf [⟨0, (n : Int)⟩] > s.top by rw [h.top]; show (n : Int) > _; omega)]
theorem ack_again {s : LS} {n : Nat} (h0 : 0 < n) (hn : n ≤ 100000) (hf : s.fl = []) (ht : s.top = (n : Int) - 1) : (ackR s [⟨0, (n : Int) - 1⟩]).er = 0 := by
  have hc : chkV [⟨0, (n : Int) - 1⟩] = 0 := chkV_one _ ((fineB_iff _).2 ⟨Int.le_refl _, by show (0 : Int) ≤ n - 1; omega, by show (n : Int) - 1 ≤ _; omega⟩)
  unfold ackR
  rw [if_neg (by rw [hc]; decide), if_neg (by simp), if_neg (show ¬ hiOf [⟨0, (n : Int) - 1⟩] > s.top by rw [ht]; show ¬ (n : Int) - 1 > _; omega)]
theorem acked_l (w0 W w1 : World) (g cr : Nat) (Ar : Option Addr) (r : List S34) (v v1 : Value) (s : LS) (h : LP w0 W w1 g v v1 s) (hg : w0.heap.size ≤ g) (hC : ∀ w, KeepBut w1 w g v1.ownBlock → Kd.C k34 w Ar r.length r) (hcap : r.length ≤ cr) (hI : Inv s) (hn : s.fl.length ≤ 100000) {l n1 n2 : Nat} {er : Int} {s' : LS} (hl : r.length = l) (h1 : (ackR s r).told.length = n1) (h2 : (ackR s r).lost.length = n2) (h3 : (ackR s r).er = er) (h4 : (ackR s r).st = s') :
    Calls Try.prog 12 #[.pointer (some ⟨g, 0, none⟩), .slice Ar l cr] w1 fun e w' => ∃ Aa ca Ab cb v2, e = .returned (.tuple #[.slice Aa n1 ca, .slice Ab n2 cb, .int .i64 er]) ∧ LP w0 W w' g v v2 s' := by
  have h := acked_c w0 W w1 g cr Ar r v v1 s h hg hC hcap hI hn
  rw [hl] at h
  refine h.mono ?_
  rintro e w' ⟨va, vb, v2, rfl, h2', ha, hb⟩
  obtain ⟨Aa, ca, rfl⟩ := Kd.R_slice ha
  obtain ⟨Ab, cb, rfl⟩ := Kd.R_slice hb
  rw [h1, h2, h3]
  rw [h4] at h2'
  exact ⟨_, _, _, _, _, rfl, h2'⟩
end Go.Proofs.Ytgdgegkokghedaa.Led
