/- Layer 20: the reference's Drop and Count. gen/mk_rd20.py writes this text. -/
import Derived.Test.YtcieopcihbgfdaaRx20
namespace Go.Proofs.Ytcieopcihbgfdaa.Rf
open Go.RowKit Go.Proofs.YtcieopcihbgfdaaW.PrintWords Go.Proofs.YtcieopcihbgfdaaW.PrintLast Go.Proofs.YtcieopcihbgfdaaW.PrintMore Go.Proofs.Ytcieopcihbgfdaa.PFairDoes Go.Proofs.Ytcieopcihbgfdaa Go.Proofs.Ytcieopcihbgfdaa.Fair Go.Proofs.Ytcieopcihbgfdaa.Fq
set_option linter.unusedVariables false
set_option linter.unusedSimpArgs false
theorem rq_through {w w1 : World} {B : Nat} {ok : Nat → Prop} {v : Value} {st : List Qu} {row : Option Nat} (h : rq.Q 60 w B ok v st) (hg : w.grownBy w1 row) (hk : ∀ k, row = some k → ∃ c, w.heap[k]? = some (.cells c 60 (0, 0))) (hv : ∀ k, row = some k → v.ownBlock ≠ some k) : rq.Q 60 w1 B ok v st := by
  obtain ⟨h0, inner, ho, hr⟩ := h
  refine ⟨h0, inner, q_move ho (fun k hk => hg.block k (q_lt ho k hk) (fun e => hv k e.symm hk)), hr.imp_ (fun x cs hM => ?_)⟩
  refine rq.M_mono (fun k hk => hk.1) (rq.M_move (fun k hk => ?_) (rq.M_bound hM))
  obtain ⟨_, _, hlt, q, hq, c, hc⟩ := hk
  have hq : q = 9 := List.mem_singleton.1 hq
  subst hq
  exact hg.block k hlt (fun e => by obtain ⟨c2, hc2⟩ := hk k e.symm; exact ty_ne hc hc2 (by decide) rfl)
theorem RH.through {w0 W w w1 : World} {ok : Nat → Prop} {g : Nat} {lim qu : Int} {v vl : Value} {sv : Bool} {st ll : List Qu} {okl : Nat → Prop} (h : RH w0 W w ok g lim qu v sv st) (hb : Below w0.heap.size w0 w1) (hg : w.grownBy w1 vl.ownBlock) (hl : rq.Q 60 w w0.heap.size okl vl ll) (hv : ∀ k, v.ownBlock = some k → k < W.heap.size) (hvl : ∀ k, vl.ownBlock = some k → W.heap.size ≤ k) : RH w0 W w1 ok g lim qu v sv st := by
  have hty := fun k (e : vl.ownBlock = some k) => Kd.Q_typed hl k e
  have hk1 : Kept W w1 ok := ⟨Nat.le_trans h.keep.1 hg.size, fun i hi hn => (hg.block i (Nat.lt_of_lt_of_le hi h.keep.1) (fun e => by have := hvl i e.symm; omega)).trans (h.keep.2 i hi hn)⟩
  exact ⟨hb, hk1, (hg.block g (blk_lt h.blk) (rq_type hl h.blk (by decide))).trans h.blk, h.geg, h.okg, rq_through h.row hg hty (fun k e e2 => by have := hv k e2; have := hvl k e; omega)⟩
theorem delQ_filter {id : Int} : ∀ {st : List Qu}, (st.map (·.id)).Nodup → delQ st id = st.filter (fun x => decide (x.id ≠ id))
  | [], _ => rfl
  | x :: r, hnd => by
    rw [List.map_cons, List.nodup_cons] at hnd
    unfold delQ
    by_cases hx : x.id = id
    · rw [if_pos hx, List.filter_cons, if_neg (by simp [hx])]
      refine (List.filter_eq_self.2 (fun y hy => ?_)).symm
      exact decide_eq_true (fun e => hnd.1 (List.mem_map.2 ⟨y, hy, e.trans hx.symm⟩))
    · rw [if_neg hx, List.filter_cons, if_pos (by simp [hx]), delQ_filter hnd.2]
theorem dropS_eq {s : FS} (hi : FI s) (id : Int) : dropS s id = ⟨s.lim, s.qu, s.st.filter (fun x => decide (x.id ≠ id)), if headIs s.st id = true then false else s.sv⟩ := by
  rw [← delQ_filter (st := s.st) hi.nd]
  unfold dropS
  by_cases hm : id ∈ ids s
  · rw [if_pos hm]; rfl
  · rw [if_neg hm]
    have hne : ∀ y ∈ s.st, y.id ≠ id := fun y hy e => hm (List.mem_map.2 ⟨y, hy, e⟩)
    have e1 : delQ s.st id = s.st := by
      rw [delQ_filter (st := s.st) hi.nd]
      exact List.filter_eq_self.2 (fun y hy => decide_eq_true (hne y hy))
    have e2 : headIs s.st id = false := by
      cases hs : s.st with
      | nil => rfl
      | cons z r => exact decide_eq_false (hne z (by rw [hs]; exact List.mem_cons_self))
    rw [e1, e2]
    rfl
theorem listOf_app {id : Int} : ∀ (a : List Qu) (x : Qu), listOf (a ++ [x]) id = if (∃ y ∈ a, y.id = id) then listOf a id else if x.id = id then x.l else []
  | [], x => by
    rw [if_neg (by rintro ⟨y, hy, _⟩; cases hy)]
    rfl
  | z :: a, x => by
    show (if z.id = id then z.l else listOf (a ++ [x]) id) = _
    by_cases hz : z.id = id
    · rw [if_pos hz, if_pos ⟨z, List.mem_cons_self, hz⟩]
      show _ = if z.id = id then z.l else listOf a id
      rw [if_pos hz]
    · rw [if_neg hz, listOf_app a x]
      by_cases he : ∃ y ∈ a, y.id = id
      · obtain ⟨y, hy, e⟩ := he
        rw [if_pos ⟨y, hy, e⟩, if_pos ⟨y, List.mem_cons_of_mem _ hy, e⟩]
        show _ = if z.id = id then z.l else listOf a id
        rw [if_neg hz]
      · have hno : ¬ ∃ y ∈ z :: a, y.id = id := by
          rintro ⟨y, hy, e⟩
          rcases List.mem_cons.1 hy with h | h
          · rw [h] at e; exact hz e
          · exact he ⟨y, h, e⟩
        rw [if_neg he, if_neg hno]
theorem take_snoc {st : List Qu} {i : Nat} (hi : i < st.length) : st.take (i + 1) = st.take i ++ [st[i]] := by
  rw [List.take_add_one, List.getElem?_eq_getElem hi]
  rfl
theorem miss_n {st : List Qu} {id : Int} {i : Nat} (hi : i < st.length) (hx : st[i].id ≠ id) : listOf (st.take (i + 1)) id = listOf (st.take i) id ∧ (st.take (i + 1)).filter (fun x => decide (x.id ≠ id)) = (st.take i).filter (fun x => decide (x.id ≠ id)) ++ [st[i]] := by
  rw [take_snoc hi]
  refine ⟨?_, ?_⟩
  · rw [listOf_app, if_neg hx]
    by_cases he : ∃ y ∈ st.take i, y.id = id
    · rw [if_pos he]
    · rw [if_neg he]
      exact (listOf_none (fun y hy e => he ⟨y, hy, e⟩)).symm
  · rw [List.filter_append, List.filter_cons, if_pos (by simp [hx])]
    rfl
theorem hit_n {st : List Qu} {id : Int} {i : Nat} (hi : i < st.length) (hnd : (st.map (·.id)).Nodup) (hx : st[i].id = id) : listOf (st.take (i + 1)) id = st[i].l ∧ (st.take (i + 1)).filter (fun x => decide (x.id ≠ id)) = (st.take i).filter (fun x => decide (x.id ≠ id)) := by
  have hno : ¬ ∃ y ∈ st.take i, y.id = id := by
    rintro ⟨y, hy, e⟩
    obtain ⟨j, hj, rfl⟩ := List.getElem_of_mem hy
    rw [List.length_take] at hj
    rw [List.getElem_take] at e
    have h1 : (st.map (·.id))[j]'(by rw [List.length_map]; omega) = (st.map (·.id))[i]'(by rw [List.length_map]; exact hi) := by
      rw [List.getElem_map, List.getElem_map, e, hx]
    exact List.pairwise_iff_getElem.1 hnd j i (by rw [List.length_map]; omega) (by rw [List.length_map]; exact hi) (by omega) h1
  rw [take_snoc hi]
  refine ⟨?_, ?_⟩
  · rw [listOf_app, if_neg hno, if_pos hx]
  · rw [List.filter_append, List.filter_cons, if_neg (by simp [hx])]
    simp
def svf (st : List Qu) (id : Int) (sv : Bool) (i : Nat) : Bool := if i = 0 then sv else if headIs st id = true then false else sv
theorem svf_0 (st : List Qu) (id : Int) (sv : Bool) : svf st id sv 0 = sv := if_pos rfl
theorem svf_more {st : List Qu} {id : Int} {sv : Bool} {i : Nat} (h : i ≠ 0) : svf st id sv (i + 1) = svf st id sv i := by unfold svf; rw [if_neg (by omega), if_neg h]
theorem svf_hit {st : List Qu} {id : Int} {sv : Bool} (hi : 0 < st.length) (hx : st[0].id = id) : svf st id sv 1 = false := by
  unfold svf
  rw [if_neg (by omega)]
  cases st with
  | nil => simp at hi
  | cons z r =>
    rw [show headIs (z :: r) id = true from decide_eq_true (show z.id = id from hx)]
    rfl
theorem svf_miss {st : List Qu} {id : Int} {sv : Bool} (hi : 0 < st.length) (hx : st[0].id ≠ id) : svf st id sv 1 = sv := by
  unfold svf
  rw [if_neg (by omega)]
  cases st with
  | nil => simp at hi
  | cons z r =>
    rw [show headIs (z :: r) id = false from decide_eq_false (show ¬ z.id = id from hx)]
    rfl
theorem svf_end {st : List Qu} {id : Int} {sv : Bool} {i : Nat} (h : i = st.length) : svf st id sv i = if headIs st id = true then false else sv := by
  unfold svf
  by_cases h0 : i = 0
  · rw [if_pos h0]
    have : st = [] := List.length_eq_zero_iff.1 (by omega)
    subst this
    rfl
  · rw [if_neg h0]
theorem svf_next {st : List Qu} {id : Int} {sv : Bool} {i : Nat} (hi : i < st.length) (hx : st[i].id ≠ id) : svf st id sv (i + 1) = svf st id sv i := by
  by_cases h : i = 0
  · subst h
    rw [svf_0]
    exact svf_miss hi hx
  · exact svf_more h
theorem own_more {W w : World} {vl v1 : Value} (h : ∀ k, vl.ownBlock = some k → W.heap.size ≤ k) (hs : W.heap.size ≤ w.heap.size) (hat : v1.ownBlock = vl.ownBlock ∨ ∃ b, v1.ownBlock = some b ∧ w.heap.size ≤ b) : ∀ k, v1.ownBlock = some k → W.heap.size ≤ k := by
  intro k hk
  rcases hat with h1 | ⟨b, h1, h2⟩
  · exact h k (h1.symm.trans hk)
  · have : b = k := Option.some.inj (h1.symm.trans hk)
    omega
theorem q_apart {w : World} {B : Nat} {ok ok2 : Nat → Prop} {v vl : Value} {l : List ByteArray} {ll : List Qu} {P : Nat → Prop} (h : Kd.string.Q 9 w B (fun k => ok k ∧ P k) v l) (hl : rq.Q 60 w B ok2 vl ll) : Kd.string.Q 9 w B (fun k => ok k ∧ some k ≠ vl.ownBlock) v l :=
  Kd.Q_mono (Kd.Q_bound h) (fun k hk => ⟨hk.1.1, fun e => by
    obtain ⟨_, _, _, q, hq, c, hc⟩ := hk
    obtain ⟨c2, hc2⟩ := Kd.Q_typed hl k e.symm
    have hq : q = 9 := by
      rcases List.mem_cons.1 hq with h | h
      · exact h
      · cases h
    subst hq
    exact ty_ne hc hc2 (by decide) rfl⟩)
set_option maxHeartbeats 8000000 in
set_option maxRecDepth 100000 in
theorem rdrop_c (g : Nat) (id : Int) (s : FS) (ok : Nat → Prop) (w0 W : World) (h : RO w0 W W ok g s) (hi : FI s) (hl : s.st.length ≤ 100000) :
    Calls Try.prog 17 #[.pointer (some ⟨g, 0, none⟩), .int .i64 id] W fun e w' => e = .returned (.int .i64 (dropE s id)) ∧ RO w0 W w' ok g (dropS s id) := by
  obtain ⟨v, hH⟩ := h
  have HND := Aside0.mk hi.nd
  have HI := Aside0.mk hi
  have HVO := Aside0.mk (fun k (e : v.ownBlock = some k) => Kd.Q_lt hH.row k e)
  obtain ⟨AV, cV, rfl, -⟩ := Kd.Q_slice hH.row
  obtain ⟨n, hn⟩ : ∃ z, s.st.length = z := ⟨_, rfl⟩
  rw [hn] at hH HVO
  have HH0 := Aside0.mk hH
  have HN := Aside0.mk hn
  have HLN := Aside0.mk (show n ≤ 100000 by omega)
  clear hi hl hn hH
  go_enter Try.func17, Try.ntmps17
  go_wp2_with (fail)
  go_loopw [5, 6, 7] (fun v5 v6 v7 wr => ∃ (i : Nat) (vl : Value), v5 = .int .i64 ((listOf (s.st.take i) id).length : Int) ∧ v6 = vl ∧ v7 = .int .i64 (i : Int) ∧ Aside0 (i ≤ n) ∧ Aside0 (RH w0 W wr ok g s.lim s.qu (.slice AV n cV) (svf s.st id s.sv i) s.st) ∧ Aside0 (rq.Q 60 wr w0.heap.size (fun k => ok k ∨ W.heap.size ≤ k) vl ((s.st.take i).filter (fun x => decide (x.id ≠ id)))) ∧ Aside0 (∀ k, vl.ownBlock = some k → W.heap.size ≤ k)) (fun _ _ v7 _ => ((n : Int) - intOf v7).toNat)
  case atStart => exact ⟨0, _, rfl, rfl, rfl, ⟨by omega⟩, ⟨by rw [svf_0]; exact HH0.out⟩, ⟨Kd.Q_nil _ _ _ _ _⟩, ⟨fun k e => by cases e⟩⟩
  case round =>
    obtain ⟨i, vl0, rfl, rfl, rfl, HI1, HH, HQ, HOWN⟩ := hrel
    obtain ⟨LL, hLL⟩ : ∃ z, (s.st.take i).filter (fun x => decide (x.id ≠ id)) = z := ⟨_, rfl⟩
    rw [hLL] at HQ
    obtain ⟨A6, c6, rfl, -⟩ := Kd.Q_slice HQ.out
    obtain ⟨L6, hL6⟩ : ∃ z, LL.length = z := ⟨_, rfl⟩
    rw [hL6] at HQ HOWN ⊢
    have HLL := Aside0.mk hLL
    have HL6 := Aside0.mk (show LL.length = L6 ∧ LL.length ≤ n by refine ⟨hL6, ?_⟩; rw [← hLL]; have h1 := List.length_filter_le (fun x => decide (x.id ≠ id)) (s.st.take i); rw [List.length_take] at h1; have := HN.out; omega)
    obtain ⟨c0, -, c2, c3, -, f3⟩ := HH.out.cells
    by_cases d1 : i < n
    · have hd1 := d1
      obtain ⟨b, o, c, hv⟩ := rq_slice HH.out.row (by have := HN.out; omega)
      injection hv with hA hl_ hc_
      subst hA
      subst hc_
      clear hl_
      have hin : i < s.st.length := by have := HN.out; omega
      have HIN := Aside0.mk hin
      obtain ⟨vl, x0, x1, x2, hql⟩ := rq_at HH.out.row i hin
      obtain ⟨x, hx⟩ : ∃ z, s.st[i] = z := ⟨_, rfl⟩
      rw [hx] at x0 x2 hql
      have HXI := Aside0.mk hx
      obtain ⟨AX, cX, rfl, hcx⟩ := Kd.Q_slice hql
      obtain ⟨LX, hLX⟩ : ∃ z, x.l.length = z := ⟨_, rfl⟩
      rw [hLX] at x1 hcx hql
      have HLX := Aside0.mk hLX
      have HQL := Aside0.mk hql
      obtain ⟨i1, i2, i3, i4, i5, i6, i7⟩ := ri_facts d1 HLN.out
      have HD1 := Aside0.mk d1
      have HQX := Aside0.mk (show Kd.string.Q 9 wr w0.heap.size (fun k => (ok k ∨ W.heap.size ≤ k) ∧ some k ≠ (Value.slice A6 L6 c6).ownBlock) (.slice AX LX cX) x.l from q_apart hql HQ.out)
      obtain ⟨nn, hnn⟩ : ∃ z, (listOf (s.st.take i) id).length = z := ⟨_, rfl⟩
      rw [hnn]
      have HNN := Aside0.mk hnn
      clear d1 hd1 hx hLX hql hcx hLL hL6 hnn
      by_cases hid : x.id = id
      · have HT := Aside0.mk (hit_n (id := id) HIN.out HND.out (by rw [HXI.out]; exact hid))
        have E1 : (x.id == id) = true := beq_iff_eq.2 hid
        have HID := Aside0.mk hid
        clear hid
        by_cases hz : i = 0
        · have e1 : ((i : Int) == 0) = true := by rw [hz]; rfl
          have e2 : (i == 0) = true := by rw [hz]; rfl
          have HZ := Aside0.mk hz
          clear hz
          go_wp2_with (fail)
          go_roundw
          case rel =>
            refine ⟨i + 1, _, ?_, rfl, by first | rfl | simp, ⟨by have := HD1.out; omega⟩, ⟨?_⟩, ⟨?_⟩, HOWN⟩
            · rw [HT.out.1, HXI.out, HLX.out]
            · have h1 := HH.out.setsv false
              have hz := HZ.out
              subst hz
              rw [svf_hit HIN.out (by rw [HXI.out]; exact HID.out)]
              exact h1
            · rw [HT.out.2, HLL.out]
              exact rq_set HQ.out HH.out.blk (by decide) (by decide) 3 _
          case measure => clear i1 i2; have := HD1.out; simp [intOf]; omega
        · have e1 : ((i : Int) == 0) = false := beq_eq_false_iff_ne.2 (by omega)
          have e2 : (i == 0) = false := beq_eq_false_iff_ne.2 hz
          have HZ := Aside0.mk hz
          clear hz
          go_wp2_with (fail)
          go_roundw
          case rel => exact ⟨i + 1, _, by rw [HT.out.1, HXI.out, HLX.out], rfl, by first | rfl | simp, ⟨by have := HD1.out; omega⟩, ⟨by rw [svf_more HZ.out]; exact HH.out⟩, ⟨by rw [HT.out.2, HLL.out]; exact HQ.out⟩, HOWN⟩
          case measure => clear i1 i2; have := HD1.out; simp [intOf]; omega
      · have HT := Aside0.mk (miss_n (id := id) HIN.out (by rw [HXI.out]; exact hid))
        have E1 : (x.id == id) = false := beq_eq_false_iff_ne.2 hid
        have HID := Aside0.mk hid
        clear hid
        go_wp2_with ((with_reducible refine gate_builtin (b := .append) (xs := #[.tmp 27, .tmp 35]) rfl ?_); at_builtin; refine Kd.Q_append rq (w0 := w0) w0.heap.size rfl (.tmp 27) (.tmp 35) 56 60 (.agg #[.int .i64 0, .slice none 0 0, .int .i64 0]) 40 rfl Try.underlying56 infoQ rfl (by decide) (by decide) (.slice A6 L6 c6) LL x [.int .i64 x.id, .slice AX LX cX, .int .i64 x.d] (fun k => ok k ∨ W.heap.size ≤ k) (fun k => (ok k ∨ W.heap.size ≤ k) ∧ some k ≠ (Value.slice A6 L6 c6).ownBlock) rfl rfl ?aP ?aO ?aF HQ.out HH.out.bel ?aS ?aL ?_; (case aP => exact ⟨_, rfl, HQX.out⟩); (case aO => exact fun k hk => ⟨hk.1, hk.2⟩); (case aF => exact fun k hk => .inr (Nat.le_trans HH.out.keep.1 hk)); (case aS => exact HH.out.bel.size); (case aL => have := HL6.out; have := HLN.out; omega); intro v1 w3 hQ_ hB_ hg_ hat_; have HOWN3 := Aside0.mk (own_more HOWN.out HH.out.keep.1 hat_); have HH3 := Aside0.mk (HH.out.through hB_ hg_ HQ.out HVO.out HOWN.out); have HQ3 := Aside0.mk hQ_; clear hQ_ hB_ hg_ hat_)
        go_roundw
        case rel =>
          refine ⟨i + 1, _, ?_, rfl, by first | rfl | simp, ⟨by have := HD1.out; omega⟩, ⟨?_⟩, ⟨?_⟩, HOWN3⟩
          · rw [HT.out.1, HNN.out]
          · rw [svf_next HIN.out (by rw [HXI.out]; exact HID.out)]; exact HH3.out
          · rw [HT.out.2, HLL.out, HXI.out]; exact HQ3.out
        case measure => clear i1 i2; have := HD1.out; simp [intOf]; omega
    · have hin : i = n := by have := HI1.out; omega
      have M1 : decide ((i : Int) < (n : Int)) = false := decide_eq_false (by omega)
      have M2 : decide (i < n) = false := decide_eq_false (by omega)
      have htk : s.st.take i = s.st := List.take_of_length_le (by have := HN.out; omega)
      rw [htk] at hLL ⊢
      have HLL2 := Aside0.mk hLL
      have HSV := Aside0.mk (svf_end (st := s.st) (id := id) (sv := s.sv) (show i = s.st.length by have := HN.out; omega))
      have HDE := Aside0.mk (show dropE s id = ((listOf s.st id).length : Int) from rfl)
      obtain ⟨nn, hnn⟩ : ∃ z, (listOf s.st id).length = z := ⟨_, rfl⟩
      rw [hnn] at HDE ⊢
      obtain ⟨-, -, -, -, g2_, -⟩ := HH.out.cells
      have H3 := Aside0.mk (HH.out.setrow HQ.out)
      clear d1 hin htk hLL hL6 hnn
      go_wp2_with (fail)
      go_ret
      rw [HDE.out, dropS_eq HI.out]
      refine ⟨rfl, .slice A6 L6 c6, ?_⟩
      have h3 := H3.out
      rw [HSV.out, ← HLL2.out] at h3
      exact h3
set_option maxHeartbeats 8000000 in
set_option maxRecDepth 100000 in
theorem rcount_c (g : Nat) (s : FS) (ok : Nat → Prop) (w0 W : World) (h : RO w0 W W ok g s) (hi : FI s) (hl : s.st.length ≤ 100000) :
    Calls Try.prog 18 #[.pointer (some ⟨g, 0, none⟩)] W fun e w' => e = .returned (.int .i64 (countL s.st : Int)) ∧ RO w0 W w' ok g s := by
  have HF := Aside0.mk h
  obtain ⟨v, hH⟩ := h
  have HND := Aside0.mk hi.nd
  have HI := Aside0.mk hi
  have HVO := Aside0.mk (fun k (e : v.ownBlock = some k) => Kd.Q_lt hH.row k e)
  obtain ⟨AV, cV, rfl, -⟩ := Kd.Q_slice hH.row
  obtain ⟨n, hn⟩ : ∃ z, s.st.length = z := ⟨_, rfl⟩
  rw [hn] at hH HVO
  have HH0 := Aside0.mk hH
  have HN := Aside0.mk hn
  have HLN := Aside0.mk (show n ≤ 100000 by omega)
  obtain ⟨-, -, c2, -, -, -⟩ := hH.cells
  clear hi hl hn hH
  go_enter Try.func18, Try.ntmps18
  go_wp2_with (fail)
  go_loopw [3, 4] (fun v3 v4 wr => ∃ i : Nat, v3 = .int .i64 (countL (s.st.take i) : Int) ∧ v4 = .int .i64 (i : Int) ∧ wr = W ∧ Aside0 (i ≤ n)) (fun _ v4 _ => ((n : Int) - intOf v4).toNat)
  case atStart => exact ⟨0, rfl, rfl, rfl, ⟨by omega⟩⟩
  case round =>
    obtain ⟨i, rfl, rfl, rfl, HI1⟩ := hrel
    by_cases d1 : i < n
    · have hd1 := d1
      obtain ⟨b, o, c, hv⟩ := rq_slice HH0.out.row (by have := HN.out; omega)
      injection hv with hA hl_ hc_
      subst hA
      subst hc_
      clear hl_
      have hin : i < s.st.length := by have := HN.out; omega
      have HIN := Aside0.mk hin
      obtain ⟨vl, x0, x1, x2, hql⟩ := rq_at HH0.out.row i hin
      obtain ⟨x, hx⟩ : ∃ z, s.st[i] = z := ⟨_, rfl⟩
      rw [hx] at x0 x2 hql
      have HXI := Aside0.mk hx
      obtain ⟨AX, cX, rfl, hcx⟩ := Kd.Q_slice hql
      obtain ⟨LX, hLX⟩ : ∃ z, x.l.length = z := ⟨_, rfl⟩
      rw [hLX] at x1 hcx hql
      have HLX := Aside0.mk hLX
      have HQL := Aside0.mk hql
      obtain ⟨i1, i2, i3, i4, i5, i6, i7⟩ := ri_facts d1 HLN.out
      have HD1 := Aside0.mk d1
      have hcs : countL (s.st.take (i + 1)) = countL (s.st.take i) + LX := by rw [take_snoc hin, countL_app, hx]; show _ + (x.l.length + 0) = _; omega
      have hcm : countL (s.st.take (i + 1)) ≤ 200000000000 := Nat.le_trans (by have h1 : countL s.st = countL (s.st.take (i + 1)) + countL (s.st.drop (i + 1)) := (by rw [← countL_app, List.take_append_drop]); omega) (count_max HI.out (by have := HN.out; have := HLN.out; omega))
      rw [hcs] at hcm
      obtain ⟨q, hq⟩ : ∃ z, countL (s.st.take i) = z := ⟨_, rfl⟩
      rw [hq] at hcs hcm ⊢
      obtain ⟨u1, u2⟩ := sum_wrap (q := q) (n := LX) (c := 0) (by omega)
      have HCS := Aside0.mk hcs
      clear d1 hd1 hx hLX hql hcx hcs hcm hq
      go_wp2_with (fail)
      go_roundw
      case rel => exact ⟨i + 1, by rw [HCS.out]; first | rfl | simp, by first | rfl | simp, by first | rfl | trivial, ⟨by have := HD1.out; omega⟩⟩
      case measure => clear i1 i2 u1 u2; have := HD1.out; simp [intOf]; omega
    · have hin : i = n := by have := HI1.out; omega
      have M1 : decide ((i : Int) < (n : Int)) = false := decide_eq_false (by omega)
      have M2 : decide (i < n) = false := decide_eq_false (by omega)
      have htk : s.st.take i = s.st := List.take_of_length_le (by have := HN.out; omega)
      rw [htk]
      clear d1 hin htk
      go_wp2_with (fail)
      go_ret
      exact ⟨rfl, HF.out⟩
end Go.Proofs.Ytcieopcihbgfdaa.Rf
