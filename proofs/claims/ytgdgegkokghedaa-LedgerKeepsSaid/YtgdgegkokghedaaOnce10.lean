/- Ledger: what is sent, what is on its way, what was told: the counts. -/
import Derived.Test.YtgdgegkokghedaaArg10
import Derived.Test.YtgdgegkokghedaaBSet
namespace Go.Proofs.Ytgdgegkokghedaa.Led
open Go.RowKit Go.Deep Go.Proofs.YtgdgegkokghedaaW.PrintWords Go.Proofs.YtgdgegkokghedaaW.PrintLast Go.Proofs.YtgdgegkokghedaaW.PrintMore Go.Proofs.Ytgdgegkokghedaa.PLedgerKeeps Go.Proofs.Ytgdgegkokghedaa Go.Proofs.Ytgdgegkokghedaa.Walk Go.Proofs.Ytgdgegkokghedaa.BSet
set_option linter.unusedVariables false
set_option linter.unusedSimpArgs false
/-- What an act takes out of the flight. -/
structure Parts (s s' : LS) (out : List Int) : Prop where
  perm : (Led.nums s.fl).Perm (out ++ Led.nums s'.fl)
  top : s'.top = s.top
theorem Parts.none (s : LS) : Parts s s [] := ⟨List.Perm.refl _, rfl⟩
theorem nums_split (p : S58 → Bool) (l : List S58) : (Led.nums l).Perm (Led.nums (l.filter p) ++ Led.nums (l.filter (fun x => !p x))) := by
  unfold Led.nums
  rw [← List.map_append]
  exact ((List.filter_append_perm p l).map _).symm
theorem ack_parts (s : LS) (r : List S34) : Parts s (ackR s r).st ((ackR s r).told ++ (ackR s r).lost) := by
  refine ⟨?_, ack_top s r⟩
  unfold ackR
  split
  · exact List.Perm.refl _
  · split
    · exact List.Perm.refl _
    · split
      · exact List.Perm.refl _
      · show (Led.nums s.fl).Perm ((Led.nums (ackTold s r) ++ Led.nums (ackLost s r)) ++ Led.nums (ackS3 s r).fl)
        have e3 : (ackS3 s r).fl = ((ackS1 s r).fl).filter (fun x => !farP (hiOf r) x) := by
          unfold ackS3
          rw [(lose_fl _ _).1]
          rfl
        have e1 : (ackS1 s r).fl = s.fl.filter (fun x => !anyR x.f0 r) := by
          unfold ackS1
          rw [(told_fl _ _).1]
          rfl
        rw [e3]
        refine (nums_split (fun x => anyR x.f0 r) s.fl).trans ?_
        rw [List.append_assoc]
        refine List.Perm.append_left _ ?_
        rw [← e1]
        exact nums_split (farP (hiOf r)) (ackS1 s r).fl
theorem exp_parts (now : Int) (s : LS) : Parts s (expR now s).1 (expR now s).2 := by
  unfold expR
  split
  · have e : (expS s).fl = [] := by
      unfold expS
      exact (lose_fl _ _).1
    have et : (expS s).top = s.top := by
      unfold expS
      exact (lose_fl _ _).2.1
    refine ⟨?_, et⟩
    show (Led.nums s.fl).Perm (Led.nums s.fl ++ Led.nums (expS s).fl)
    rw [e]
    unfold Led.nums
    rw [List.map_nil, List.append_nil]
  · exact Parts.none s
/-- What was sent (sl), what was told before (dl), what was told just now (out); n bounds how many were sent. -/
structure OQ (s : LS) (sl dl out : List Int) (n : Nat) : Prop where
  inv : Inv s
  top : ∀ k ∈ sl, k ≤ s.top
  pos : ∀ k ∈ sl, 0 ≤ k
  perm : sl.Perm (Led.nums s.fl ++ out ++ dl)
  nd : sl.Nodup
  len : sl.length ≤ n
theorem OQ.init : OQ initL [] [] [] 0 := ⟨inv_init, fun k hk => by simp at hk, fun k hk => by simp at hk, List.Perm.refl _, List.nodup_nil, Nat.le_refl _⟩
theorem OQ.mono {s : LS} {sl dl out : List Int} {n m : Nat} (h : OQ s sl dl out n) (hm : n ≤ m) : OQ s sl dl out m := ⟨h.inv, h.top, h.pos, h.perm, h.nd, Nat.le_trans h.len hm⟩
theorem OQ.sent {s : LS} {sl dl : List Int} {n : Nat} (h : OQ s sl dl [] n) {k now z : Int} (ho : sentOk s k z) : OQ { s with fl := s.fl ++ [⟨k, now, z⟩], top := k } (k :: sl) dl [] (n + 1) ∧ k ∉ sl := by
  have hk : k ∉ sl := fun hk => by have := h.top k hk; have := ho.1; omega
  refine ⟨⟨inv_sent h.inv ho, fun j hj => ?_, fun j hj => ?_, ?_, List.nodup_cons.2 ⟨hk, h.nd⟩, Nat.succ_le_succ h.len⟩, hk⟩
  · rcases List.mem_cons.1 hj with e | e
    · exact Int.le_of_eq e
    · exact Int.le_trans (h.top j e) (Int.le_of_lt ho.1)
  · rcases List.mem_cons.1 hj with e | e
    · have := h.inv.t0; have := ho.1; omega
    · exact h.pos j e
  · show (k :: sl).Perm (Led.nums (s.fl ++ [⟨k, now, z⟩]) ++ [] ++ dl)
    have e : Led.nums (s.fl ++ [⟨k, now, z⟩]) = Led.nums s.fl ++ [k] := by unfold Led.nums; rw [List.map_append]; rfl
    rw [e]
    have hp := h.perm
    rw [List.append_nil] at hp ⊢
    rw [List.append_assoc, List.singleton_append]
    exact (List.Perm.cons k hp).trans List.perm_middle.symm
theorem OQ.act {s s' : LS} {sl dl out : List Int} {n : Nat} (h : OQ s sl dl [] n) (hp : Parts s s' out) (hi : Inv s') : OQ s' sl dl out n := by
  refine ⟨hi, fun k hk => by rw [hp.top]; exact h.top k hk, h.pos, ?_, h.nd, h.len⟩
  have h1 := h.perm
  rw [List.append_nil] at h1
  exact h1.trans (List.Perm.append_right _ (hp.perm.trans List.perm_append_comm))
theorem OQ.done {s : LS} {sl dl out : List Int} {n : Nat} (h : OQ s sl dl out n) : OQ s sl (out.reverse ++ dl) [] n := by
  refine ⟨h.inv, h.top, h.pos, ?_, h.nd, h.len⟩
  rw [List.append_nil]
  refine h.perm.trans ?_
  rw [List.append_assoc]
  exact List.Perm.append_left _ (List.Perm.append_right _ (List.reverse_perm out).symm)
theorem OQ.at {s : LS} {sl dl out : List Int} {n : Nat} (h : OQ s sl dl out n) {k : Nat} (hk : k < out.length) : out.getD k 0 ∈ sl ∧ out.getD k 0 ∉ (out.take k).reverse ++ dl ∧ 0 ≤ out.getD k 0 ∧ out.getD k 0 ≤ 4611686018427387903 := by
  have e : out.getD k 0 = out[k] := by rw [List.getD_eq_getElem?_getD, List.getElem?_eq_getElem hk]; rfl
  have hm : out.getD k 0 ∈ out := by rw [e]; exact List.getElem_mem hk
  have hs : out.getD k 0 ∈ sl := h.perm.mem_iff.2 (List.mem_append_left _ (List.mem_append_right _ hm))
  refine ⟨hs, fun hx => ?_, h.pos _ hs, Int.le_trans (h.top _ hs) h.inv.t1⟩
  have hn : (Led.nums s.fl ++ out ++ dl).Nodup := h.perm.nodup_iff.1 h.nd
  rw [List.append_assoc] at hn
  have hn := (List.nodup_append.1 hn).2.1
  obtain ⟨h1, -, h3⟩ := List.nodup_append.1 hn
  rcases List.mem_append.1 hx with hx | hx
  · rw [List.mem_reverse, List.mem_take_iff_getElem] at hx
    obtain ⟨j, hj, he⟩ := hx
    rw [e] at he
    exact List.pairwise_iff_getElem.1 h1 j k (by omega) hk (by omega) he
  · exact h3 _ hm _ hx rfl
theorem OQ.count {s : LS} {sl dl : List Int} {n : Nat} (h : OQ s sl dl [] n) : (s.fl.length : Int) = (sl.length : Int) - (dl.length : Int) ∧ dl.length ≤ sl.length ∧ s.fl.length ≤ sl.length := by
  have hl := h.perm.length_eq
  rw [List.append_nil, List.length_append] at hl
  unfold Led.nums at hl
  rw [List.length_map] at hl
  omega
theorem OQ.flen {s : LS} {sl dl out : List Int} {n : Nat} (h : OQ s sl dl out n) : s.fl.length ≤ n ∧ out.length ≤ n ∧ dl.length ≤ n := by
  have hl := h.perm.length_eq
  have := h.len
  rw [List.length_append, List.length_append] at hl
  unfold Led.nums at hl
  rw [List.length_map] at hl
  omega
theorem take_rev (out : List Int) {k : Nat} (hk : k < out.length) : (out.take (k + 1)).reverse = out.getD k 0 :: (out.take k).reverse := by
  have e : out.getD k 0 = out[k] := by rw [List.getD_eq_getElem?_getD, List.getElem?_eq_getElem hk]; rfl
  rw [e, List.take_succ_eq_append_getElem hk, List.reverse_append]
  rfl
/-! the map, and what else lies on the heap -/
theorem _root_.Go.Proofs.Ytgdgegkokghedaa.BSet.BSet.later {B : Nat} {w w2 : World} {g b : Nat} {s : LS} {v : Value} {l : List Int} (h : BSet w b l) (hl : LG B w g s v) (hk : KeepBut w w2 g v.ownBlock) : BSet w2 b l := by
  obtain ⟨es, clock, hb⟩ := h.blk
  refine h.same (hk.2 b h.lt (fun he => ?_) (fun he => ?_))
  · rw [he, hl.blk] at hb
    cases hb
  · obtain ⟨cells, hc⟩ := Kd.R_typed hl.row b he.symm
    rw [hb] at hc
    cases hc
theorem R_turned {α : Type} {d : Kd α} {e base b : Nat} {ok : Nat → Prop} {w w2 : World} {v : Value} {xs : List α} (h : d.R e w base ok v xs) (hE : d.E = []) {l : List Int} (hs : BSet w b l) (ht : w.mapTurned w2 b) : d.R e w2 base ok v xs := by
  obtain ⟨es, clock, hb⟩ := hs.blk
  refine Kd.R_grown2 h hE ht.grown (fun k hk he => ?_)
  injection hk with hk
  subst hk
  obtain ⟨cells, hc⟩ := Kd.R_typed h b he.symm
  rw [hb] at hc
  cases hc
theorem LP.turned {w0 W w1 w2 : World} {g b : Nat} {v v1 : Value} {s : LS} {l : List Int} (h : LP w0 W w1 g v v1 s) (hs : BSet w1 b l) (ht : w1.mapTurned w2 b) (h0 : w0.heap.size ≤ b) (hW : W.heap.size ≤ b) : LP w0 W w2 g v v1 s := by
  obtain ⟨es, clock, hb⟩ := hs.blk
  have hg := ht.grown
  have hne : g ≠ b := fun he => by
    rw [← he, h.lg.blk] at hb
    cases hb
  refine ⟨⟨(hg.block g (blk_lt h.lg.blk) (fun he => hne (Option.some.inj he))).trans h.lg.blk, R_turned h.lg.row rfl hs ht⟩, h.bel.grown hg h.bel.size (fun j hj => by cases hj; exact h0), ⟨Nat.le_trans h.keep.1 hg.size, fun k hk hkg hr => ?_⟩, h.own⟩
  exact (hg.block k (Nat.lt_of_lt_of_le hk h.keep.1) (fun he => by have := Option.some.inj he; omega)).trans (h.keep.2 k hk hkg hr)
theorem _root_.Go.Proofs.Ytgdgegkokghedaa.BSet.BSet.other {w w2 : World} {b c : Nat} {l : List Int} (h : BSet w c l) (ht : w.mapTurned w2 b) (hne : c ≠ b) : BSet w2 c l := h.same (ht.grown.block c h.lt (fun he => hne (Option.some.inj he)))
end Go.Proofs.Ytgdgegkokghedaa.Led
