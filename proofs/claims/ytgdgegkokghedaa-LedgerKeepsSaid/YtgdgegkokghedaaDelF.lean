/- slices.DeleteFunc over packets, its function value ledger.Ledger.take's. -/
import Derived.Test.YtgdgegkokghedaaTake
namespace Go.Proofs.Ytgdgegkokghedaa.Led
open Go.RowKit Go.Deep Go.Proofs.YtgdgegkokghedaaW.PrintWords Go.Proofs.YtgdgegkokghedaaW.PrintLast Go.Proofs.YtgdgegkokghedaaW.PrintMore Go.Proofs.Ytgdgegkokghedaa.PLedgerKeeps Go.Proofs.Ytgdgegkokghedaa
set_option linter.unusedVariables false
set_option linter.unusedSimpArgs false
theorem setCells_app (b : Nat) : ∀ (xs ys : List Value) (o : Nat) (w : World), w.setCells b o (xs ++ ys) = (w.setCells b o xs).setCells b (o + xs.length) ys
  | [], ys, o, w => by simp [World.setCells]
  | x :: r, ys, o, w => by
    simp only [List.cons_append, World.setCells, List.length_cons]
    rw [setCells_app b r ys (o + 1) _, show o + 1 + r.length = o + (r.length + 1) by omega]
theorem grown_then {w w1 w2 : World} {r : Option Nat} (h : w.grownBy w1 r) (k : w1.grownBy w2 r) : w.grownBy w2 r := ⟨k.os.trans h.os, k.tape.trans h.tape, k.output.trans h.output, Nat.le_trans h.size k.size, fun i hi hn => (k.block i (Nat.lt_of_lt_of_le hi h.size) hn).trans (h.block i hi hn)⟩
/-- A whole packet of an own row is stored. -/
theorem R_el {W : World} {base g n cap : Nat} {ok : Nat → Prop} {xs : List S58} (h : Kd.R k58 58 W base ok (.slice (some ⟨g, 0, none⟩) n cap) xs) (i : Nat) (hi : i < xs.length) (y : S58) :
    Kd.R k58 58 (W.setCells g (i * 3) (pkc y)) base ok (.slice (some ⟨g, 0, none⟩) n cap) (xs.set i y) ∧ W.grownBy (W.setCells g (i * 3) (pkc y)) (some g) := by
  have hflat : ∀ (w1 w2 : World) (okk : Nat → Prop) (y : S58) (cs : List Value), k58.M w1 base okk y cs → k58.M w2 base okk y cs := fun w1 w2 okk y cs hM => by rw [k58_openM hM]; exact k58_mkM _ _ _ _
  obtain ⟨x0, hx0⟩ : ∃ x0, xs[i] = x0 := ⟨_, rfl⟩
  have a1 := RF.R_field h i hi 0 (by decide) (.int .i64 y.f0) ⟨y.f0, x0.f1, x0.f2⟩ hflat (fun okk cs hM => by rw [hx0] at hM; rw [k58_openM hM]; exact k58_mkM _ _ _ ⟨y.f0, x0.f1, x0.f2⟩)
  have a2 := RF.R_field a1.1 i (by rw [List.length_set]; exact hi) 1 (by decide) (.int .i64 y.f1) ⟨y.f0, y.f1, x0.f2⟩ hflat (fun okk cs hM => by rw [List.getElem_set_self] at hM; rw [k58_openM hM]; exact k58_mkM _ _ _ ⟨y.f0, y.f1, x0.f2⟩)
  have a3 := RF.R_field a2.1 i (by rw [List.length_set, List.length_set]; exact hi) 2 (by decide) (.int .i64 y.f2) y hflat (fun okk cs hM => by rw [List.getElem_set_self] at hM; rw [k58_openM hM]; exact k58_mkM _ _ _ y)
  rw [List.set_set, List.set_set] at a3
  exact ⟨a3.1, grown_then (grown_then a1.2 a2.2) a3.2⟩
theorem R_els {base g n cap : Nat} {ok : Nat → Prop} : ∀ (ys : List S58) (W : World) (xs : List S58) (i : Nat), Kd.R k58 58 W base ok (.slice (some ⟨g, 0, none⟩) n cap) xs → i + ys.length ≤ xs.length → ∃ xs', xs'.length = xs.length ∧ xs'.take i = xs.take i ∧ Kd.R k58 58 (W.setCells g (i * 3) (ys.flatMap pkc)) base ok (.slice (some ⟨g, 0, none⟩) n cap) xs' ∧ W.grownBy (W.setCells g (i * 3) (ys.flatMap pkc)) (some g)
  | [], W, xs, i, h, hi => ⟨xs, rfl, rfl, by simpa [World.setCells] using h, by simpa [World.setCells] using World.grownBy.refl W _⟩
  | y :: r, W, xs, i, h, hi => by
    rw [List.length_cons] at hi
    obtain ⟨h1, g1⟩ := R_el h i (by omega) y
    obtain ⟨xs', e1, e2, h2, g2⟩ := R_els r _ _ (i + 1) h1 (by rw [List.length_set]; omega)
    rw [List.flatMap_cons, setCells_app, show (pkc y).length = 3 from rfl, show i * 3 + 3 = (i + 1) * 3 by omega]
    refine ⟨xs', by rw [e1, List.length_set], ?_, h2, grown_then g1 g2⟩
    have e3 := congrArg (List.take i) e2
    rw [List.take_take, List.take_take, Nat.min_eq_left (by omega)] at e3
    rw [e3, List.take_set_of_le (Nat.le_refl _)]
theorem zero_flat (n : Nat) : (List.replicate n z58).flatMap pkc = List.replicate (n * 3) (Value.int .i64 0) := by
  induction n with
  | zero => rfl
  | succ n ih => rw [List.replicate_succ, List.flatMap_cons, ih, show (n + 1) * 3 = n * 3 + 1 + 1 + 1 by omega]; rfl
theorem zero_cells (n : Nat) : (Builtin.zeroCells #[Value.int .i64 0, .int .i64 0, .int .i64 0] n).toList = List.replicate (n * 3) (Value.int .i64 0) := by
  apply List.ext_getElem
  · simp [Builtin.zeroCells]
  · intro i h1 h2
    simp only [Builtin.zeroCells, Array.toList_map, List.getElem_map, List.getElem_replicate]
    have : ∀ m, m < 3 → (#[Value.int .i64 0, .int .i64 0, .int .i64 0] : Array Value)[m]! = .int .i64 0 := by
      intro m hm
      rcases (show m = 0 ∨ m = 1 ∨ m = 2 by omega) with rfl | rfl | rfl <;> rfl
    exact this _ (Nat.mod_lt _ (by decide))
theorem run_clear3 (w : World) (ty : TypeId) (b o n c : Nat) (hn : 0 < n) (hc : ∀ j, j < n * 3 → (w.cell? ⟨b, o + j, none⟩).isSome = true) (hf : ∀ j, j < n * 3 → w.frozen? ⟨b, o + j, none⟩ = false) :
    (Builtin.clear_ #[54] ty #[.slice (some ⟨b, o, none⟩) n c]).run Try.prog w = .ok (.tuple #[]) (w.setCells b o ((List.replicate n z58).flatMap pkc)) := by
  rw [zero_flat]
  have hst := run_storeCells_cells (P := Try.prog) b o (List.replicate (n * 3) (Value.int .i64 0)) 0 w (by simpa using hc) (by simpa using hf) (by intro v hv'; rw [List.eq_of_mem_replicate hv']; rfl)
  simp only [Nat.add_zero] at hst
  obtain ⟨m, rfl⟩ : ∃ m, n = m + 1 := ⟨n - 1, by omega⟩
  have hz : ∀ w, (zeroValue 58).run Try.prog w = .ok (.agg #[.int .i64 0, .int .i64 0, .int .i64 0]) w := by
    intro w
    go_simp
  have hv : (Value.agg #[.int .i64 0, .int .i64 0, .int .i64 0]).cells = #[.int .i64 0, .int .i64 0, .int .i64 0] := by rfl
  simp [Builtin.clear_, run_underlying Try.underlying54, hz, hv, zero_cells, hst]
theorem DS.wrote {w0 W w1 w2 : World} {g b3 b5 gb n c : Nat} {F : Value} {cur cur2 tk : List S58} (h : DS w0 W w1 g b3 b5 (.slice (some ⟨gb, 0, none⟩) n c) F cur tk) (hW : w0.heap.size ≤ W.heap.size) (hR : Kd.R k58 58 w2 w0.heap.size (fun k => k ≠ g ∧ k < W.heap.size) (.slice (some ⟨gb, 0, none⟩) n c) cur2) (hg : w1.grownBy w2 (some gb)) : DS w0 W w2 g b3 b5 (.slice (some ⟨gb, 0, none⟩) n c) F cur2 tk := by
  have ho : (Value.slice (some ⟨gb, 0, none⟩) n c).ownBlock = some gb := rfl
  have hgb := h.row.1 gb ho
  have hbb := ((Kd.R_bound h.row).1 gb ho).2.1
  have h3 := h.h3
  have h5 := h.h5
  obtain ⟨vt, hb5, ht⟩ := h.tkc
  have ne : ∀ k, k ≠ gb → some k ≠ some gb := fun k hk he => hk (Option.some.inj he)
  refine ⟨hR, ⟨vt, (hg.block b5 (blk_lt hb5) (ne _ (by omega))).trans hb5, Kd.R_step ht (fun k hk hl => hg.block k hl (ne _ (by omega)))⟩, (hg.block b3 (blk_lt h.cl) (ne _ (by omega))).trans h.cl, h.bel.grown hg h.bel.size (fun k hk => by cases hk; exact hbb), ⟨Nat.le_trans h.ap.1 hg.size, fun k hk hn => ?_⟩, h3, h5, h.h35⟩
  exact (hg.block k (Nat.lt_of_lt_of_le hk h.ap.1) (by rw [ho] at hn; exact hn)).trans (h.ap.2 k hk hn)
theorem filt_step (q : S58 → Bool) (fl : List S58) (j : Nat) (h : j < fl.length) : (fl.take (j + 1)).filter q = (fl.take j).filter q ++ (if q (fl.getD j z58) then [fl.getD j z58] else []) := by
  rw [take58 fl j h, List.filter_append]
  congr 1
  cases hq : q (fl.getD j z58)
  · rw [List.filter_cons_of_neg (by simp only [hq]; decide)]; rfl
  · rw [List.filter_cons_of_pos hq]; rfl
theorem filt_none (q : S58 → Bool) (fl : List S58) : ∀ (k : Nat), k ≤ fl.length → (∀ j, j < k → q (fl.getD j z58) = false) → (fl.take k).filter q = [] ∧ (fl.take k).filter (fun x => !q x) = fl.take k
  | 0, _, _ => by simp
  | k + 1, hk, h => by
    obtain ⟨h1, h2⟩ := filt_none q fl k (by omega) (fun j hj => h j (by omega))
    rw [filt_step q fl k (by omega), filt_step (fun x => !q x) fl k (by omega), h1, h2, h k (by omega), take58 fl k (by omega)]
    simp
/-- The invariant of the loop: what is kept stands ahead, what is not yet looked at stands as it stood. -/
structure Kp (p : S58 → Bool) (fl cur : List S58) (i j : Nat) : Prop where
  head : cur.take i = (fl.take j).filter (fun x => !p x)
  tail : ∀ m, j ≤ m → cur.getD m z58 = fl.getD m z58
  len : cur.length = fl.length
theorem Kp.skip {p : S58 → Bool} {fl cur : List S58} {i j : Nat} (h : Kp p fl cur i j) (hj : j < fl.length) (hp : p (fl.getD j z58) = true) : Kp p fl cur i (j + 1) :=
  ⟨by rw [filt_step _ fl j hj, hp, h.head]; simp, fun m hm => h.tail m (by omega), h.len⟩
theorem Kp.keep {p : S58 → Bool} {fl cur : List S58} {i j : Nat} (h : Kp p fl cur i j) (hj : j < fl.length) (hi : i < j) (hp : p (fl.getD j z58) = false) : Kp p fl (cur.set i (fl.getD j z58)) (i + 1) (j + 1) := by
  have hl := h.len
  refine ⟨?_, fun m hm => ?_, by rw [List.length_set]; exact hl⟩
  · rw [filt_step _ fl j hj, hp, ← h.head, List.take_add_one, List.take_set_of_le (Nat.le_refl _), List.getElem?_set_self (by omega)]
    rfl
  · rw [← h.tail m (by omega)]
    simp only [List.getD_eq_getElem?_getD]
    rw [List.getElem?_set_ne (by omega)]
theorem DS.set_ok {w0 W wr : World} {g b3 b5 gb n c : Nat} {F : Value} {cur tk : List S58} (h : DS w0 W wr g b3 b5 (.slice (some ⟨gb, 0, none⟩) n c) F cur tk) : ∀ off, wr.frozen? ⟨gb, off, none⟩ = false := by
  obtain ⟨h0, inner, ho, -⟩ := h.row
  obtain ⟨cells, hc⟩ := own_typed ho gb rfl
  exact fun off => blk_frozen hc off
theorem add0 (gb k : Nat) : (⟨gb, 0, none⟩ : Addr).add k = ⟨gb, k, none⟩ := by unfold Addr.add; split <;> simp_all
theorem DS.at0 {w0 W wr : World} {g b3 b5 n c gb : Nat} {F : Value} {cur tk : List S58} (h : DS w0 W wr g b3 b5 (.slice (some ⟨gb, 0, none⟩) n c) F cur tk) (i : Int) (h0 : 0 ≤ i) (h1 : i < n) : wr.cell? ⟨gb, i.toNat * 3, none⟩ = some (.int .i64 (cur.getD i.toNat z58).f0) ∧ wr.cell? ⟨gb, i.toNat * 3 + 1, none⟩ = some (.int .i64 (cur.getD i.toNat z58).f1) ∧ wr.cell? ⟨gb, i.toNat * 3 + 2, none⟩ = some (.int .i64 (cur.getD i.toNat z58).f2) := by
  obtain ⟨ad, hA, x0, x1, x2⟩ := h.at i h0 h1
  obtain rfl : ad = ⟨gb, 0, none⟩ := (Option.some.inj hA).symm
  rw [add0] at x0 x1 x2
  exact ⟨x0, x1, x2⟩
theorem DS.far {w0 W wr w : World} {g b3 b5 : Nat} {v F : Value} {cur tk : List S58} (h : DS w0 W wr g b3 b5 v F cur tk) (hb : Below wr.heap.size wr w) (kv : Nat) (hk : wr.heap.size ≤ kv) (vt : Value) (hv : w.heap[b5]? = some (.cells #[vt] 54 (0, 0))) : vt.ownBlock ≠ some kv := by
  obtain ⟨v0, h1, h2⟩ := h.tkc
  rw [blk_below h1 hb] at hv
  injection hv with hv
  injection hv with hv
  injection hv with hv
  injection hv with hv
  subst hv
  intro he
  have := ((Kd.R_bound h2).1 kv he).2.2.1
  omega
theorem DS.b5lt {w0 W wr : World} {g b3 b5 : Nat} {v F : Value} {cur tk : List S58} (h : DS w0 W wr g b3 b5 v F cur tk) : b5 < wr.heap.size := by
  obtain ⟨v0, h1, h2⟩ := h.tkc
  exact blk_lt h1
theorem first_hit (p : S58 → Bool) (fl : List S58) : ∀ n : Nat, (∀ j, j < n → p (fl.getD j z58) = false) ∨ ∃ k, k < n ∧ p (fl.getD k z58) = true ∧ ∀ j, j < k → p (fl.getD j z58) = false
  | 0 => .inl (fun j hj => absurd hj (by omega))
  | n + 1 => by
    rcases first_hit p fl n with h | ⟨k, h1, h2, h3⟩
    · cases hq : p (fl.getD n z58)
      · exact .inl (fun j hj => by by_cases e : j = n; · rw [e]; exact hq
                                   exact h j (by omega))
      · exact .inr ⟨n, by omega, hq, h⟩
    · exact .inr ⟨k, by omega, h2, h3⟩
set_option maxHeartbeats 8000000 in
set_option maxRecDepth 100000 in
theorem del_c (w0 W w1 : World) (g b3 b5 K n c : Nat) (A : Option Addr) (caps : Array Value) (p : S58 → Bool) (fl : List S58) (hp : PredC K caps p (Value.slice A n c).ownBlock W) (h : DS w0 W w1 g b3 b5 (.slice A n c) (clo K caps) fl []) (hW : w0.heap.size ≤ W.heap.size) (hl : n ≤ 100000) :
    Calls Try.prog 39 #[.slice A n c, .func (.func 40) #[] #[.pointer (some ⟨b3, 0, none⟩), .pointer (some ⟨b5, 0, none⟩)]] w1 fun e w' => ∃ m cur, e = .returned (.slice A m c) ∧ DS w0 W w' g b3 b5 (.slice A n c) (clo K caps) cur (fl.filter p) ∧ m ≤ cur.length ∧ cur.take m = fl.filter (fun x => !p x) := by
  have hidx := idx_c w0 W w1 g b3 b5 K n c A caps p fl hp h hW hl
  have hlen := h.len
  have HL := Aside0.mk h
  have HW := Aside0.mk hW
  have HN := Aside0.mk hl
  have HP := Aside0.mk hp
  have HE := Aside0.mk hlen
  clear h hW hl hp hlen
  rcases first_hit p fl n with hall | ⟨k, k1, hpk, hall⟩
  · have HX := Aside0.mk (Calls.mono hidx (R' := fun e w' => e = .returned (.int .i64 (-1)) ∧ DS w0 W w' g b3 b5 (.slice A n c) (clo K caps) fl []) (by
      rintro e w' ⟨i, rfl, ⟨rfl, -, hd⟩ | ⟨i0, i1, hpi, -, -⟩⟩
      · exact ⟨rfl, hd⟩
      · rw [hall i.toNat (by omega)] at hpi; cases hpi))
    have HALL := Aside0.mk hall
    clear hidx hall
    go_enter Try.func39, Try.ntmps39
    go_wp2_with (go_at_call 42; (with_reducible refine (HX.out).mono ?_); rintro e w2 ⟨rfl, hk⟩; have HK := Aside0.mk hk; clear hk)
    go_ret
    have hfn := filt_none p fl n (by have := HE.out; omega) HALL.out
    rw [List.take_of_length_le (by have := HE.out; omega)] at hfn
    exact ⟨n, fl, rfl, by rw [hfn.1]; exact HK.out, by have := HE.out; omega, by rw [hfn.2, List.take_of_length_le (by have := HE.out; omega)]⟩
  · have HX := Aside0.mk (Calls.mono hidx (R' := fun e w' => e = .returned (.int .i64 (k : Int)) ∧ DS w0 W w' g b3 b5 (.slice A n c) (clo K caps) fl [fl.getD k z58]) (by
      rintro e w' ⟨i, rfl, ⟨rfl, hno, -⟩ | ⟨i0, i1, hpi, hbe, hd⟩⟩
      · rw [hno k k1] at hpk; cases hpk
      · have : i.toNat = k := by
          rcases Nat.lt_trichotomy i.toNat k with hlt | he | hgt
          · rw [hall _ hlt] at hpi; cases hpi
          · exact he
          · rw [hbe k hgt] at hpk; cases hpk
        rw [this] at hd
        exact ⟨by rw [← this, Int.toNat_of_nonneg i0], hd⟩))
    have hne : ((k : Int) == -1) = false := beq_eq_false_iff_ne.mpr (by omega)
    obtain ⟨ad, rfl, -⟩ := HL.out.at k (by omega) (by omega)
    obtain ⟨gb, rfl⟩ := Kd.R_head HL.out.row
    have hfn := filt_none p fl k (by have := HE.out; omega) hall
    have HK0 := Aside0.mk (show Kp p fl fl k (k + 1) from ⟨by rw [filt_step _ fl k (by have := HE.out; omega), hpk, hfn.2]; simp, fun _ _ => rfl, rfl⟩)
    have HT0 := Aside0.mk (show (fl.take (k + 1)).filter p = [fl.getD k z58] by rw [filt_step _ fl k (by have := HE.out; omega), hpk, hfn.1]; rfl)
    have HI := Aside0.mk k1
    have hw1 : wrap64 ((k : Int) + 1) = (k : Int) + 1 := by have := HN.out; unfold wrap64; omega
    have hw2 : IntKind.i64.wrap ((k : Int) + 1) = (k : Int) + 1 := (i64_w _).trans hw1
    clear hidx hall hpk hfn k1
    go_enter Try.func39, Try.ntmps39
    go_wp2_with (go_at_call 42; (with_reducible refine (HX.out).mono ?_); rintro e w2 ⟨rfl, hk⟩; have HK := Aside0.mk hk; clear hk)
    go_loopw [5, 6] (fun v5 v6 wr => ∃ i j : Int, v5 = .int .i64 i ∧ v6 = .int .i64 j ∧ Aside0 (0 ≤ i ∧ i < j ∧ j ≤ n) ∧ ∃ cur, Aside0 (DS w0 W wr g b3 b5 (.slice (some ⟨gb, 0, none⟩) n c) (clo K caps) cur ((fl.take j.toNat).filter p)) ∧ Aside0 (Kp p fl cur i.toNat j.toNat)) (fun _ v6 _ => ((n : Int) - intOf v6).toNat)
    case atStart =>
      exact ⟨k, (k : Int) + 1, rfl, rfl, ⟨by omega, by omega, by have := HI.out; omega⟩, fl, by rw [show ((k : Int) + 1).toNat = k + 1 by omega, HT0.out]; exact HK, HK0⟩
    case round =>
      clear HX HL HK HK0 HT0 HI hw1 hw2 hne
      obtain ⟨i, j, rfl, rfl, HIJ, cur, HD, HKP⟩ := hrel
      by_cases d1 : j < (n : Int)
      · have M1 : decide (j < (n : Int)) = true := decide_eq_true d1
        obtain ⟨x0, x1, x2⟩ := HD.out.at0 j (by have := HIJ.out; omega) d1
        rw [HKP.out.tail j.toNat (Nat.le_refl _)] at x0 x1 x2
        have p0 := eq_true (show 0 ≤ j by have := HIJ.out; omega)
        have p1 := eq_true d1
        have p2 := eq_true HIJ.out.1
        have p3 := eq_true (show i < (n : Int) by have := HIJ.out; omega)
        have hw1 : wrap64 (i + 1) = i + 1 := by have := HN.out; have := HIJ.out; unfold wrap64; omega
        have hw2 : IntKind.i64.wrap (i + 1) = i + 1 := (i64_w _).trans hw1
        have hw3 : wrap64 (j + 1) = j + 1 := by have := HN.out; have := HIJ.out; unfold wrap64; omega
        have hw4 : IntKind.i64.wrap (j + 1) = j + 1 := (i64_w _).trans hw3
        have hcall := fun w h => tk1_c w0 W w g b3 b5 K caps p (.slice (some ⟨gb, 0, none⟩) n c) cur ((fl.take j.toNat).filter p) (fl.getD j.toNat z58) HP.out h HW.out (by have := HN.out; have := List.length_filter_le p (fl.take j.toNat); have : (fl.take j.toNat).length ≤ j.toNat := by (rw [List.length_take]; omega)
                                                                                                                                                                            omega)
        have HJX := Aside0.mk d1
        cases hq : p (fl.getD j.toNat z58) with
        | false =>
          have HQ := Aside0.mk hq
          rw [hq] at hcall
          have HC := Aside0.mk hcall
          generalize hx : fl.getD j.toNat z58 = x at x0 x1 x2 HC HQ ⊢
          clear hcall hq d1
          obtain ⟨f0, f1, f2⟩ := x
          unfold pk at HC
          dsimp only at x0 x1 x2 HC
          have PB := Aside0.mk (blk_new wr (.cells #[.int .i64 f0, .int .i64 f1, .int .i64 f2] 58))
          go_wp2_with (go_at_call 40; (with_reducible refine (HC.out _ (HD.out.below (below_alloc (Below.refl _ _) _))).mono ?_); rintro e w3 ⟨rfl, h3, hkv⟩; have hvb := (hkv wr.heap.size (blk_lt PB.out) (fun he => by have := HD.out.b5lt; omega) (fun vt hv => HD.out.far (below_alloc (Below.refl _ _) _) _ (Nat.le_refl _) vt hv)).trans PB.out; have g0 := (blk_cell hvb 0).trans (rfl : _ = some (Value.int .i64 f0)); have g1 := (blk_cell hvb 1).trans (rfl : _ = some (Value.int .i64 f1)); have g2 := (blk_cell hvb 2).trans (rfl : _ = some (Value.int .i64 f2)); have H3 := Aside0.mk h3; clear h3 hkv hvb; obtain ⟨y0, y1, y2⟩ := H3.out.at0 i HIJ.out.1 (by have := HIJ.out; have := HJX.out; omega); have z0 := H3.out.set_ok (i.toNat * 3); have z1 := H3.out.set_ok (i.toNat * 3 + 1); have z2 := H3.out.set_ok (i.toNat * 3 + 2))
          go_roundw
          case rel =>
            have hlt : j.toNat < fl.length := by have := HE.out; have := HJX.out; have := HIJ.out; omega
            have hle := HD.out.len
            obtain ⟨r1, r2⟩ := R_el H3.out.row i.toNat (by have := HIJ.out; have := HJX.out; omega) ⟨f0, f1, f2⟩
            have hds := H3.out.wrote HW.out r1 r2
            have hkp := HKP.out.keep hlt (by have := HIJ.out; omega) (by rw [hx]; exact HQ.out)
            rw [hx] at hkp
            have hft : (fl.take (j + 1).toNat).filter p = (fl.take j.toNat).filter p := by rw [show (j + 1).toNat = j.toNat + 1 by have := HIJ.out; omega, filt_step p fl j.toNat hlt, hx, HQ.out]; simp
            refine ⟨i + 1, j + 1, rfl, rfl, ⟨by have := HIJ.out; omega, by have := HIJ.out; omega, by have := HJX.out; omega⟩, cur.set i.toNat ⟨f0, f1, f2⟩, ⟨?_⟩, ⟨?_⟩⟩
            · rw [hft]; first | exact hds | simpa using hds
            · rw [show (j + 1).toNat = j.toNat + 1 by have := HIJ.out; omega, show (i + 1).toNat = i.toNat + 1 by have := HIJ.out; omega]; exact hkp
          case measure => have := HJX.out; simp [intOf]; omega
        | true =>
          have HQ := Aside0.mk hq
          rw [hq] at hcall
          have HC := Aside0.mk hcall
          generalize hx : fl.getD j.toNat z58 = x at x0 x1 x2 HC HQ ⊢
          clear hcall hq d1
          obtain ⟨f0, f1, f2⟩ := x
          unfold pk at HC
          dsimp only at x0 x1 x2 HC
          have PB := Aside0.mk (blk_new wr (.cells #[.int .i64 f0, .int .i64 f1, .int .i64 f2] 58))
          go_wp2_with (go_at_call 40; (with_reducible refine (HC.out _ (HD.out.below (below_alloc (Below.refl _ _) _))).mono ?_); rintro e w3 ⟨rfl, h3, hkv⟩; have hvb := (hkv wr.heap.size (blk_lt PB.out) (fun he => by have := HD.out.b5lt; omega) (fun vt hv => HD.out.far (below_alloc (Below.refl _ _) _) _ (Nat.le_refl _) vt hv)).trans PB.out; have H3 := Aside0.mk h3; clear h3 hkv hvb)
          go_roundw
          case rel =>
            have hlt : j.toNat < fl.length := by have := HE.out; have := HJX.out; have := HIJ.out; omega
            have hkp := HKP.out.skip hlt (by rw [hx]; exact HQ.out)
            have hft : (fl.take (j + 1).toNat).filter p = (fl.take j.toNat).filter p ++ [⟨f0, f1, f2⟩] := by rw [show (j + 1).toNat = j.toNat + 1 by have := HIJ.out; omega, filt_step p fl j.toNat hlt, hx, HQ.out]; simp
            refine ⟨i, j + 1, rfl, rfl, ⟨by have := HIJ.out; omega, by have := HIJ.out; omega, by have := HJX.out; omega⟩, cur, ⟨?_⟩, ⟨?_⟩⟩
            · rw [hft]; first | exact H3.out | simpa using H3.out
            · rw [show (j + 1).toNat = j.toNat + 1 by have := HIJ.out; omega]; exact hkp
          case measure => have := HJX.out; simp [intOf]; omega
      · have M1 : decide (j < (n : Int)) = false := decide_eq_false d1
        have hjn : j.toNat = fl.length := by have := HE.out; have := HIJ.out; omega
        have p2 := eq_true HIJ.out.1
        have p3 := eq_true (show i ≤ (n : Int) by have := HIJ.out; omega)
        have hnc : n ≤ c := (Kd.R_reads' HD.out.row).2.1
        have hin : i.toNat < n := by have := HIJ.out; omega
        have q1 := eq_false (show ¬ c - i.toNat = 0 by omega)
        have q2 := eq_true (show i ≤ (c : Int) by omega)
        have q3 := eq_false (show ¬ c ≤ i.toNat by omega)
        have q5 := eq_false (show ¬ c = i.toNat by omega)
        have q6 := eq_false (show ¬ (c : Int) = i by omega)
        have q7 := eq_false (show ¬ (c : Int) - i = 0 by omega)
        have q8 : (c == i.toNat) = false := beq_eq_false_iff_ne.mpr (by omega)
        have q9 : ((c : Int) == i) = false := beq_eq_false_iff_ne.mpr (by omega)
        have hlen := HD.out.len
        have hcl : ∀ ty, (Builtin.clear_ #[54] ty #[.slice (some ⟨gb, i.toNat * 3, none⟩) (n - i.toNat) (c - i.toNat)]).run Try.prog wr = .ok (.tuple #[]) (wr.setCells gb (i.toNat * 3) ((List.replicate (n - i.toNat) z58).flatMap pkc)) := fun ty => run_clear3 wr ty gb (i.toNat * 3) (n - i.toNat) (c - i.toNat) (by omega) (fun t ht => by
          obtain ⟨a, b, hab, hb⟩ : ∃ a b, t = a * 3 + b ∧ b < 3 := ⟨t / 3, t % 3, by omega, by omega⟩
          obtain ⟨x0, x1, x2⟩ := HD.out.at0 (i.toNat + a : Nat) (by omega) (by omega)
          rw [show ((i.toNat + a : Nat) : Int).toNat * 3 = i.toNat * 3 + a * 3 by omega] at x0 x1 x2
          rw [hab]
          rcases (show b = 0 ∨ b = 1 ∨ b = 2 by omega) with rfl | rfl | rfl
          · rw [show i.toNat * 3 + (a * 3 + 0) = i.toNat * 3 + a * 3 by omega, x0]; rfl
          · rw [show i.toNat * 3 + (a * 3 + 1) = i.toNat * 3 + a * 3 + 1 by omega, x1]; rfl
          · rw [show i.toNat * 3 + (a * 3 + 2) = i.toNat * 3 + a * 3 + 2 by omega, x2]; rfl) (fun t ht => HD.out.set_ok _)
        obtain ⟨cur2, l1, l2, r1, r2⟩ := R_els (List.replicate (n - i.toNat) z58) wr cur i.toNat HD.out.row (by rw [List.length_replicate]; omega)
        obtain ⟨wc, hwc⟩ : ∃ wc, wr.setCells gb (i.toNat * 3) ((List.replicate (n - i.toNat) z58).flatMap pkc) = wc := ⟨_, rfl⟩
        rw [hwc] at hcl r1 r2
        have H9 := Aside0.mk (HD.out.wrote HW.out r1 r2)
        have HL9 := Aside0.mk (And.intro l1 (And.intro l2 hlen))
        have HIN := Aside0.mk hin
        have HJN := Aside0.mk hjn
        have q4 := eq_true (show i ≤ (n : Int) by omega)
        clear hnc r1 r2 hwc l1 l2 hin hjn hlen
        go_wp2_with (fail)
        go_ret
        first | refine ⟨i.toNat, cur2, rfl, ?_, ?_, ?_⟩ | refine ⟨i.toNat, rfl, cur2, ?_, ?_, ?_⟩
        · have h9 := H9.out
          rw [HJN.out, List.take_length] at h9
          exact h9
        · have := HL9.out; have := HIN.out; omega
        · rw [HL9.out.2.1, HKP.out.head, HJN.out, List.take_length]
end Go.Proofs.Ytgdgegkokghedaa.Led
