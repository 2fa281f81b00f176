/- Layer 20: Count. gen/mk_q20d.py writes this text. -/
import Derived.Test.YtcieopcihbgfdaaNx20
import Derived.Test.YtcieopcihbgfdaaRng20
namespace Go.Proofs.Ytcieopcihbgfdaa.Fq
open Go.RowKit Go.Proofs.YtcieopcihbgfdaaW.PrintWords Go.Proofs.YtcieopcihbgfdaaW.PrintLast Go.Proofs.YtcieopcihbgfdaaW.PrintMore Go.Proofs.Ytcieopcihbgfdaa.PFairDoes Go.Proofs.Ytcieopcihbgfdaa Go.Proofs.Ytcieopcihbgfdaa.Fair
set_option linter.unusedVariables false
set_option linter.unusedSimpArgs false
def sumL (left : Int → Bool) : List Qu → Nat
  | [] => 0
  | x :: r => (if left x.id = true then x.l.length else 0) + sumL left r
theorem sumL_all {left : Int → Bool} : ∀ {st : List Qu}, (∀ x ∈ st, left x.id = true) → sumL left st = countL st
  | [], _ => rfl
  | x :: r, h => by
    unfold sumL countL
    rw [if_pos (h x List.mem_cons_self), sumL_all (fun y hy => h y (List.mem_cons_of_mem _ hy))]
theorem sumL_none {left : Int → Bool} (h : ∀ k, left k = false) : ∀ st : List Qu, sumL left st = 0
  | [] => rfl
  | x :: r => by
    unfold sumL
    rw [h x.id, sumL_none h r]
    rfl
theorem sumL_same {left left' : Int → Bool} : ∀ {st : List Qu}, (∀ x ∈ st, left x.id = left' x.id) → sumL left st = sumL left' st
  | [], _ => rfl
  | x :: r, h => by
    unfold sumL
    rw [h x List.mem_cons_self, sumL_same (fun y hy => h y (List.mem_cons_of_mem _ hy))]
theorem sumL_strike {left : Int → Bool} {x : Qu} : ∀ {st : List Qu}, (st.map (·.id)).Nodup → x ∈ st → left x.id = true → sumL left st = x.l.length + sumL (fun j => left j && !decide (j = x.id)) st
  | [], _, hx, _ => by cases hx
  | y :: r, hnd, hx, hl => by
    rw [List.map_cons, List.nodup_cons] at hnd
    unfold sumL
    rcases List.mem_cons.1 hx with rfl | hx1
    · have e : sumL left r = sumL (fun j => left j && !decide (j = x.id)) r := sumL_same (fun z hz => by
        have hne : z.id ≠ x.id := fun e => hnd.1 (List.mem_map.2 ⟨z, hz, e⟩)
        simp [hne])
      rw [← e]
      simp [hl]
    · have hne : y.id ≠ x.id := fun e => hnd.1 (List.mem_map.2 ⟨x, hx1, e.symm⟩)
      rw [sumL_strike hnd.2 hx1 hl]
      have e : (left y.id && !decide (y.id = x.id)) = left y.id := by simp [hne]
      rw [e]
      omega
theorem countL_le {B : Nat} : ∀ {st : List Qu}, (∀ x ∈ st, x.l.length ≤ B) → countL st ≤ st.length * B
  | [], _ => by simp [countL]
  | x :: r, h => by
    unfold countL
    have h1 := h x List.mem_cons_self
    have h2 := countL_le (B := B) (st := r) (fun y hy => h y (List.mem_cons_of_mem _ hy))
    rw [List.length_cons, Nat.add_mul, Nat.one_mul]
    omega
theorem count_max {s : FS} (hi : FI s) (hl : s.st.length ≤ 100000) : countL s.st ≤ 200000000000 := by
  have := countL_le (B := 1048576) (st := s.st) (fun x hx => by have := (hi.q x hx).le; have := hi.l1; omega)
  have h2 : s.st.length * 1048576 ≤ 100000 * 1048576 := Nat.mul_le_mul_right _ hl
  omega
theorem sum_wrap {q n : Nat} {c : Nat} (h : q + (n + c) ≤ 200000000000) : wrap64 ((q : Int) + (n : Int)) = ((q + n : Nat) : Int) ∧ IntKind.i64.wrap ((q : Int) + (n : Int)) = ((q + n : Nat) : Int) := by
  have h1 : wrap64 ((q : Int) + (n : Int)) = ((q + n : Nat) : Int) := by unfold wrap64; omega
  exact ⟨h1, (i64_w _).trans h1⟩
theorem entry_facts {w0 W w1 : World} {ok : Nat → Prop} {g m : Nat} {vr : Value} {qb : Int → Nat} {ow : Nat → Int} {s : FS} {k : Int} {v : Value} {left : Int → Bool} {q : Nat} (h : FH w0 W W ok g m vr qb ow s.lim s.qu s.sv (ids s) s.st.length (fm (ids s) qb) s.st) (hi : FI s) (hl : s.st.length ≤ 100000) (hf : fm (ids s) qb k = some v) (hlk : left k = true) (hb : Below W.heap.size W w1) (hq : q + sumL left s.st = countL s.st) :
    ∃ b n A c, v = .pointer (some ⟨b, 0, none⟩) ∧ w1.cell? ⟨b, 0, none⟩ = some (.slice A n c) ∧ (wrap64 ((q : Int) + (n : Int)) = ((q + n : Nat) : Int) ∧ IntKind.i64.wrap ((q : Int) + (n : Int)) = ((q + n : Nat) : Int)) ∧ (q + n) + sumL (fun j => left j && !decide (j = k)) s.st = countL s.st := by
  by_cases hm : k ∈ ids s
  · obtain ⟨x, hx, rfl⟩ := mem_ids hm
    rw [fm_in hm] at hf
    injection hf with hf
    obtain ⟨v', hv, hvq⟩ := ((h.below hb).qs x hx).blk
    obtain ⟨A, c, rfl, _⟩ := Kd.Q_slice hvq
    have h1 := sumL_strike hi.nd hx hlk
    have h2 := count_max hi hl
    exact ⟨_, x.l.length, A, c, hf.symm, (blk_cell hv 0).trans rfl, sum_wrap (c := sumL (fun j => left j && !decide (j = x.id)) s.st) (by omega), by omega⟩
  · rw [fm_out hm] at hf
    cases hf
set_option maxHeartbeats 8000000 in
set_option maxRecDepth 100000 in
theorem count_c (g : Nat) (s : FS) (ok : Nat → Prop) (w0 W : World) (h : FO w0 W W ok g s) (hi : FI s) (hl : s.st.length ≤ 100000) :
    Calls Try.prog 12 #[.pointer (some ⟨g, 0, none⟩)] W fun e w' => e = .returned (.int .i64 (countL s.st : Int)) ∧ FO w0 W w' ok g s ∧ Below W.heap.size W w' := by
  have HF := Aside0.mk h
  have HI := Aside0.mk hi
  have HL := Aside0.mk hl
  obtain ⟨m, vr, qb, ow, hH⟩ := h
  obtain ⟨-, -, c2, -, -, -, -⟩ := hH.cells
  have HH := Aside0.mk hH
  clear hH hi hl
  go_enter Try.func12, Try.ntmps12
  go_wp2_with (first | (at_range; refine VM.range_arm rfl (.tmp 9) rfl HH.out.mp Try.underlying47 rfl ?_; intro w1 cnt1 hr_ hg_ hs_; have HR1 := Aside0.mk hr_; have HB1 := Aside0.mk (show Below W.heap.size W w1 from (Below.refl _ _).grown hg_ (Nat.le_refl _) (fun k e => by cases e)); have HSZ := Aside0.mk hs_; clear hr_ hg_ hs_) | go_in)
  go_frame
  go_loopw [3] (fun v3 wr => ∃ (q : Nat) (left : Int → Bool) (cnt : Nat), v3 = .int .i64 (q : Int) ∧ Aside0 (VM.VRange wr m W.heap.size s.st.length (fm (ids s) qb) left cnt) ∧ Aside0 (Below W.heap.size W wr) ∧ Aside0 (q + sumL left s.st = countL s.st)) (fun _ wr => wr.rangeLeft m W.heap.size)
  case atStart => exact ⟨0, _, _, rfl, HR1, HB1, ⟨by rw [Nat.zero_add]; exact sumL_all (fun x hx => by rw [fm_in (show x.id ∈ ids s from List.mem_map.2 ⟨x, hx, rfl⟩)]; rfl)⟩⟩
  case round =>
    clear HR1 HB1 HSZ
    obtain ⟨q, left, cnt, rfl, HR, HB, HQ⟩ := hrel
    go_wp2_with (first | (at_next; refine VM.next_arm rfl (.tmp 10) rfl HR.out rfl ?_ ?_; all_goals (first | (intro k v w2 cnt2 hwf hlk hf hr2 hlt hg2 hs2 hen; have HR2 := Aside0.mk hr2; have HLT := Aside0.mk hlt; have HB2 := Aside0.mk (show Below W.heap.size W w2 from HB.out.grown hg2 HB.out.size (fun k e => by injection e with e; omega)); obtain ⟨b_, n_, A_, c_, hv_, hc_, ⟨hw1_, hw2_⟩, hq_⟩ := entry_facts HH.out HI.out HL.out hf hlk HB2.out HQ.out; have HQ2 := Aside0.mk hq_; subst hv_; clear hwf hlk hf hr2 hlt hg2 hs2 hq_) | (intro hdone; have HDN := Aside0.mk hdone; clear hdone))))
    · go_ret
      have h0 : q = countL s.st := by have h1 := HQ.out; rw [sumL_none HDN.out] at h1; omega
      rw [h0]
      exact ⟨rfl, HF.out.below HB.out, HB.out⟩
    · refine ⟨⟨q + n_, _, _, by simp, HR2, HB2, HQ2⟩, ?_⟩
      rw [HR2.out.left_eq, HR.out.left_eq]; exact HLT.out
end Go.Proofs.Ytcieopcihbgfdaa.Fq
