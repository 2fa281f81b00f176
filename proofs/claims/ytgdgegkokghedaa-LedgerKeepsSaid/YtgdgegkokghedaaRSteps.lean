/- Layer 10: the ref's acts answer as the ledger's: one state, one answer. -/
import Derived.Test.YtgdgegkokghedaaRAcked
import Derived.Test.YtgdgegkokghedaaRExpire
namespace Go.Proofs.Ytgdgegkokghedaa.Led
open Go.RowKit Go.Deep Go.Proofs.YtgdgegkokghedaaW.PrintWords Go.Proofs.YtgdgegkokghedaaW.PrintLast Go.Proofs.YtgdgegkokghedaaW.PrintMore Go.Proofs.Ytgdgegkokghedaa.PLedgerKeeps Go.Proofs.Ytgdgegkokghedaa Go.Proofs.Ytgdgegkokghedaa.Walk
set_option linter.unusedVariables false
set_option linter.unusedSimpArgs false
/-- On an ascending row the last is the greatest. -/
theorem lose_eq (s : LS) : ∀ (l : List S58), l.Pairwise (fun x y => x.f0 < y.f0) → loseS s l = loseN s (Led.nums l) := by
  intro l h
  unfold loseS
  by_cases hz : l.length = 0
  · rw [if_pos hz]
    have e : l = [] := List.length_eq_zero_iff.1 hz
    subst e
    exact (loseN_miss (fun n hn => by cases hn)).symm
  · rw [if_neg hz]
    have hm : l.getD (l.length - 1) z58 = l[l.length - 1]'(by omega) := by rw [List.getD_eq_getElem?_getD, List.getElem?_eq_getElem (by omega)]; rfl
    by_cases hl : (l.getD (l.length - 1) z58).f0 > s.mark
    · rw [if_pos hl]
      refine (loseN_hit (n := (l.getD (l.length - 1) z58).f0) ?_ hl).symm
      rw [hm]
      exact List.mem_map.2 ⟨_, List.getElem_mem _, rfl⟩
    · rw [if_neg hl]
      refine (loseN_miss (fun n hn => ?_)).symm
      obtain ⟨x, hx, rfl⟩ := List.mem_map.1 hn
      obtain ⟨j, hj, rfl⟩ := List.mem_iff_getElem.1 hx
      rw [hm] at hl
      by_cases he : j = l.length - 1
      · subst he; exact hl
      · have := List.pairwise_iff_getElem.1 h j (l.length - 1) hj (by omega) (by omega)
        omega
theorem rexp_eq (now : Int) {s : LS} (h : Inv s) : rexpR now s = expR now s := by
  unfold rexpR expR
  split
  · have e : rexpS s = expS s := by
      unfold rexpS expS
      rw [lose_eq _ _ h.asc]
    rw [e]
  · rfl
theorem told_with (f : List S58) : ∀ (l : List S58) (s : LS), ({ toldS s l with fl := f } : LS) = toldS { s with fl := f } l
  | [], s => rfl
  | x :: l, s => told_with f l { s with win := growW s.win s.thr x.f2, back := 0 }
theorem rack_eq {s : LS} (h : Inv s) (r : List S34) (hs : 0 < r.length) : rackS s r = ackS3 s r ∧ Led.nums ((rackRest s r).filter (farQ r)) = Led.nums (ackLost s r) := by
  have hq : farQ r = farP (hiOf r) := by funext x; unfold farQ; rw [decide_eq_true hs, Bool.true_and]
  have e1 : (ackS1 s r).fl = rackRest s r := by
    unfold ackS1
    rw [(told_fl _ _).1]
    rfl
  have el : (rackRest s r).filter (farQ r) = ackLost s r := by rw [hq]; unfold ackLost; rw [e1]
  refine ⟨?_, by rw [el]⟩
  unfold rackS ackS3
  rw [el]
  have ha : (ackLost s r).Pairwise (fun x y => x.f0 < y.f0) := by
    rw [← el]
    exact (h.asc.filter _).filter _
  rw [lose_eq _ _ ha]
  have e2 : ({ toldS s (ackTold s r) with fl := (rackRest s r).filter (fun x => !farQ r x) } : LS) = ackS2 s r := by
    show _ = ({ toldS (ackS0 s r) (ackTold s r) with fl := (ackS1 s r).fl.filter (fun x => !farP (hiOf r) x) } : LS)
    rw [e1, ← hq]
    exact (told_with _ _ s).trans (told_with _ _ (ackS0 s r)).symm
  rw [e2]
theorem rack_nil {s : LS} (r : List S34) (hs : ¬ 0 < r.length) : rackS s r = s ∧ ackTold s r = [] ∧ (rackRest s r).filter (farQ r) = [] := by
  obtain rfl : r = [] := List.length_eq_zero_iff.1 (by omega)
  have ht : ackTold s [] = [] := by
    unfold ackTold
    exact List.filter_eq_nil_iff.2 (fun x hx => by unfold anyR; simp)
  have hr : rackRest s [] = s.fl := by
    unfold rackRest
    exact List.filter_eq_self.2 (fun x hx => by unfold anyR; simp)
  have hl : (rackRest s []).filter (farQ []) = [] := List.filter_eq_nil_iff.2 (fun x hx => by unfold farQ; simp)
  have hk : (rackRest s []).filter (fun x => !farQ [] x) = s.fl := by
    rw [hr]
    exact List.filter_eq_self.2 (fun x hx => by unfold farQ; simp)
  refine ⟨?_, ht, hl⟩
  unfold rackS
  rw [ht, hl, hk]
  exact loseN_miss (fun n hn => by cases hn)
theorem racked_c (w0 W w1 : World) (g cr : Nat) (Ar : Option Addr) (r : List S34) (v v1 : Value) (s : LS) (h : RP w0 W w1 g v v1 s) (hg : w0.heap.size ≤ g) (hC : ∀ w, KeepBut w1 w g v1.ownBlock → Kd.C k34 w Ar r.length r) (hcap : r.length ≤ cr) (hI : Inv s) (hn : s.fl.length ≤ 100000) :
    Calls Try.prog 16 #[.pointer (some ⟨g, 0, none⟩), .slice Ar r.length cr] w1 fun e w' => RAcks w0 W w1 w' g v (ackR s r).st (ackR s r).told (ackR s r).lost (ackR s r).er e := by
  unfold ackR
  by_cases h1 : chkV r ≠ 0
  · rw [if_pos h1]; exact racked_bad w0 W w1 g cr Ar r v v1 s h hg hC hcap h1
  · rw [if_neg h1]
    have h1 := Classical.not_not.1 h1
    by_cases h2 : r.length = 0
    · rw [if_pos h2]
      have hm := racked_main w0 W w1 g cr Ar r v v1 s h hg hC hcap hI hn h1 (fun h => absurd h (by omega))
      obtain ⟨a, b, c⟩ := rack_nil (s := s) r (by omega)
      rw [a, b, c] at hm
      exact hm
    · rw [if_neg h2]
      by_cases h3 : hiOf r > s.top
      · rw [if_pos h3]; exact racked_high w0 W w1 g cr Ar r v v1 s h hg hC hcap h1 (by omega) h3
      · rw [if_neg h3]
        have hm := racked_main w0 W w1 g cr Ar r v v1 s h hg hC hcap hI hn h1 (fun _ => by omega)
        obtain ⟨a, b⟩ := rack_eq hI r (by omega)
        rw [a, b] at hm
        exact hm
end Go.Proofs.Ytgdgegkokghedaa.Led
