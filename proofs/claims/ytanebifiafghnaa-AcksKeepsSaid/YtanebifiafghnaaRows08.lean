/- Layer 8: rows of ranges, by their cells: what copy and clear leave. -/
import Derived.Test.YtanebifiafghnaaPAcksRightx
import Derived.Test.YtanebifiafghnaaPAcksRightx0
import Derived.Test.YtanebifiafghnaaPAcksRightx1
import Derived.Test.YtanebifiafghnaaPAcksRightx2
import Derived.Test.YtanebifiafghnaaCalmG
import Derived.Test.YtanebifiafghnaaRField
import Derived.BigRegion
import Derived.BigQuiet
import Derived.LoopN
import Derived.Laws.EntriesVeiled
import Derived.Laws.IdiomCopy
import Derived.Laws.Externs
import Derived.Lib.Overlaps
import Derived.Lib.AppendZerosOnto
import Derived.Shelf.RegionOpenPlain
namespace Go.Proofs.Ytanebifiafghnaa.Ack
open Go.RowKit Go.Deep Go.Proofs.YtanebifiafghnaaW.PrintWords Go.Proofs.YtanebifiafghnaaW.PrintLast Go.Proofs.YtanebifiafghnaaW.PrintMore Go.Proofs.Ytanebifiafghnaa.PAcksRight Go.Proofs.Ytanebifiafghnaa
set_option linter.unusedVariables false
set_option linter.unusedSimpArgs false
def rc (x : S35) : List Value := [.int .i64 x.f0, .int .i64 x.f1]
def flat (l : List S35) : List Value := l.flatMap rc
theorem flat_cons (x : S35) (l : List S35) : flat (x :: l) = rc x ++ flat l := List.flatMap_cons
theorem flat_app (a b : List S35) : flat (a ++ b) = flat a ++ flat b := List.flatMap_append
theorem flat_len : ∀ l : List S35, (flat l).length = l.length * 2
  | [] => rfl
  | x :: l => by
    rw [flat_cons, List.length_append, flat_len l, List.length_cons]
    show 2 + _ = _
    omega
theorem flat_one (l : List S35) : ∀ v ∈ flat l, v.oneCell' = true := fun v hv => by
  obtain ⟨x, _, hx⟩ := List.mem_flatMap.1 hv
  rcases List.mem_cons.1 hx with rfl | hx
  · rfl
  · rcases List.mem_cons.1 hx with rfl | hx
    · rfl
    · cases hx
theorem flat_take (l : List S35) (i : Nat) (hi : i ≤ l.length) : flat (l.take i) = (flat l).take (i * 2) := by
  have h : flat l = flat (l.take i) ++ flat (l.drop i) := by rw [← flat_app, List.take_append_drop]
  rw [h, List.take_left' (by rw [flat_len, List.length_take, Nat.min_eq_left hi])]
theorem flat_drop (l : List S35) (i : Nat) (hi : i ≤ l.length) : flat (l.drop i) = (flat l).drop (i * 2) := by
  have h : flat l = flat (l.take i) ++ flat (l.drop i) := by rw [← flat_app, List.take_append_drop]
  rw [h, List.drop_left' (by rw [flat_len, List.length_take, Nat.min_eq_left hi])]
theorem reps_flat {w : World} {base : Nat} {ok : Nat → Prop} : ∀ (l : List S35) (inner : List Value), Reps (k35.M w base ok) 2 l inner → inner = flat l
  | [], inner, h => by
    have := h.1
    exact List.eq_nil_of_length_eq_zero (by simpa using this)
  | x :: l, inner, h => by
    have h0 := h.2 0 x rfl
    rw [Nat.zero_mul, List.drop_zero] at h0
    have e := k35_openM h0
    have hr : Reps (k35.M w base ok) 2 l (inner.drop 2) := ⟨by have := h.1; rw [List.length_drop]; simp only [List.length_cons] at this; omega, fun j p hj => by
      have := h.2 (j + 1) p hj
      rwa [List.drop_drop, show 2 + j * 2 = (j + 1) * 2 by omega]⟩
    rw [flat_cons, ← reps_flat l _ hr]
    show _ = [_, _] ++ _
    rw [← e, List.take_append_drop]
theorem reps_of_flat {w : World} {base : Nat} {ok : Nat → Prop} (l : List S35) : Reps (k35.M w base ok) 2 l (flat l) := ⟨flat_len l, fun j p hj => by
  obtain ⟨hl, hp⟩ := List.getElem?_eq_some_iff.1 hj
  rw [← flat_drop l j (by omega), List.drop_eq_getElem_cons hl, hp, flat_cons]
  exact k35_mkM _ _ _ _⟩
theorem R_open {W : World} {base g n c : Nat} {ok : Nat → Prop} {l : List S35} (h : Kd.R k35 35 W base ok (.slice (some ⟨g, 0, none⟩) n c) l) : ∃ cur, W.heap[g]? = some (.cells cur 35 (0, 0)) ∧ base ≤ g ∧ ok g ∧ n = l.length ∧ n ≤ c ∧ c ≤ maxLen ∧ cur.size = c * 2 ∧ cur.toList.take (n * 2) = flat l := by
  obtain ⟨hok, inner, ⟨hl, ho⟩, hr⟩ := h
  rcases ho with ⟨hv, _⟩ | ⟨g', cap, cur, hv, hb, hh, hnc, hcm, hcs, ht⟩
  · cases hv
  · injection hv with h1 h2 h3
    injection h1 with h1
    injection h1 with h1 _ _
    subst h1 h2 h3
    refine ⟨cur, hh, hb, hok g rfl, rfl, hnc, hcm, hcs, ?_⟩
    rw [← reps_flat _ _ hr]
    exact ht
theorem R_shut {W : World} {base g c : Nat} {ok : Nat → Prop} {l : List S35} {cur : Array Value} (hh : W.heap[g]? = some (.cells cur 35 (0, 0))) (hb : base ≤ g) (hok : ok g) (hn : l.length ≤ c) (hc : c ≤ maxLen) (hs : cur.size = c * 2) (ht : cur.toList.take (l.length * 2) = flat l) : Kd.R k35 35 W base ok (.slice (some ⟨g, 0, none⟩) l.length c) l :=
  ⟨fun k hk => by cases hk; exact hok, flat l, ⟨flat_len l, .inr ⟨g, c, cur, rfl, hb, hh, hn, hc, hs, ht⟩⟩, reps_of_flat l⟩
theorem add0 (gb k : Nat) : (⟨gb, 0, none⟩ : Addr).add k = ⟨gb, k, none⟩ := by unfold Addr.add; split <;> simp_all
theorem addo (gb o k : Nat) : (⟨gb, o, none⟩ : Addr).add k = ⟨gb, o + k, none⟩ := by unfold Addr.add; split <;> simp_all
theorem info35_ : (Try.prog.info? 35).map (fun i => (i.zero, i.size, i.bytes)) = some (some (.agg #[.int .i64 0, .int .i64 0]), 2, 16) := by kernel_rfl
theorem size35_ : (Try.prog.info? 35).map (·.size) = some 2 := by kernel_rfl
theorem run_copy2 (w : World) (ty b o dLen dCap : Nat) (a : Addr) (sLen sCap : Nat) (cs : List Value) (hn : cs.length = Nat.min sLen dLen * 2)
    (hsrc : ∀ j v, cs[j]? = some v → w.cell? (a.add j) = some v) (hc : ∀ j, j < cs.length → (w.cell? ⟨b, o + j, none⟩).isSome = true) (hf : ∀ j, j < cs.length → w.frozen? ⟨b, o + j, none⟩ = false) (h1 : ∀ v ∈ cs, v.oneCell' = true) :
    (Builtin.copy_ #[22, 22] ty #[.slice (some ⟨b, o, none⟩) dLen dCap, .slice (some a) sLen sCap]).run Try.prog w = .ok (goInt (Nat.min sLen dLen)) (w.setCells b o cs) := by
  have hl := run_loadCells_list (P := Try.prog) w a cs hsrc
  have hst := run_storeCells_cells (P := Try.prog) b o cs 0 w (by simpa using hc) (by simpa using hf) h1
  have hs := size35_
  cases hq : Try.prog.info? 35 with
  | none => simp [hq] at hs
  | some i =>
    have hi : i.size = 2 := by simpa [hq] using hs
    simp [Builtin.copy_, run_underlying Try.underlying22, Builtin.lenOf, Builtin.firstCells, sizeOf, typeInfo, hq, hi, ← hn, hl, hst]
theorem zero_flat (n : Nat) : flat (List.replicate n z35) = List.replicate (n * 2) (Value.int .i64 0) := by
  induction n with
  | zero => rfl
  | succ n ih => rw [List.replicate_succ, flat_cons, ih, show (n + 1) * 2 = n * 2 + 1 + 1 by omega]; rfl
theorem zero_cells (n : Nat) : (Builtin.zeroCells #[Value.int .i64 0, .int .i64 0] n).toList = List.replicate (n * 2) (Value.int .i64 0) := by
  apply List.ext_getElem
  · simp [Builtin.zeroCells]
  · intro i h1 h2
    simp only [Builtin.zeroCells, Array.toList_map, List.getElem_map, List.getElem_replicate]
    have : ∀ m, m < 2 → (#[Value.int .i64 0, .int .i64 0] : Array Value)[m]! = .int .i64 0 := by
      intro m hm
      rcases (show m = 0 ∨ m = 1 by omega) with rfl | rfl <;> rfl
    exact this _ (Nat.mod_lt _ (by decide))
theorem run_clear2 (w : World) (ty : TypeId) (b o n c : Nat) (hn : 0 < n) (hc : ∀ j, j < n * 2 → (w.cell? ⟨b, o + j, none⟩).isSome = true) (hf : ∀ j, j < n * 2 → w.frozen? ⟨b, o + j, none⟩ = false) :
    (Builtin.clear_ #[22] ty #[.slice (some ⟨b, o, none⟩) n c]).run Try.prog w = .ok (.tuple #[]) (w.setCells b o (List.replicate (n * 2) (Value.int .i64 0))) := by
  have hst := run_storeCells_cells (P := Try.prog) b o (List.replicate (n * 2) (Value.int .i64 0)) 0 w (by simpa using hc) (by simpa using hf) (by intro v hv'; rw [List.eq_of_mem_replicate hv']; rfl)
  simp only [Nat.add_zero] at hst
  obtain ⟨m, rfl⟩ : ∃ m, n = m + 1 := ⟨n - 1, by omega⟩
  have hz : ∀ w, (zeroValue 35).run Try.prog w = .ok (.agg #[.int .i64 0, .int .i64 0]) w := by
    intro w
    go_simp
  have hv : (Value.agg #[.int .i64 0, .int .i64 0]).cells = #[.int .i64 0, .int .i64 0] := by rfl
  simp [Builtin.clear_, run_underlying Try.underlying22, hz, hv, zero_cells, hst]
/-- A block of ranges after cells were written into it. -/
theorem wrote {w : World} {g o : Nat} {vs : List Value} {cur : Array Value} (h : w.heap[g]? = some (.cells cur 35 (0, 0))) (hf : o + vs.length ≤ cur.size) : ∃ cur', (w.setCells g o vs).heap[g]? = some (.cells cur' 35 (0, 0)) ∧ cur'.size = cur.size ∧ cur'.toList = cur.toList.take o ++ vs ++ cur.toList.drop (o + vs.length) ∧ w.grownBy (w.setCells g o vs) (some g) := by
  obtain ⟨cur', h3, h4, h5⟩ := setCells_row vs o w cur h hf
  obtain ⟨s1, s2, s3, s4⟩ := setCells_same g vs o w
  exact ⟨cur', h3, h4, h5, ⟨s1, s2, s3, by rw [s4]; exact Nat.le_refl _, fun k _ hk => setCells_far vs o k (fun he => hk (by rw [he]))⟩⟩
theorem grown_then {w w1 w2 : World} {r : Option Nat} (h : w.grownBy w1 r) (k : w1.grownBy w2 r) : w.grownBy w2 r := ⟨k.os.trans h.os, k.tape.trans h.tape, k.output.trans h.output, Nat.le_trans h.size k.size, fun i hi hn => (k.block i (Nat.lt_of_lt_of_le hi h.size) hn).trans (h.block i hi hn)⟩
theorem cell_of {w : World} {g t k : Nat} {cur : Array Value} (h : w.heap[g]? = some (.cells cur t (0, 0))) : w.cell? ⟨g, k, none⟩ = cur[k]? := by simp [World.cell?, h]
theorem frozen_of {w : World} {g t k : Nat} {cur : Array Value} (h : w.heap[g]? = some (.cells cur t (0, 0))) : w.frozen? ⟨g, k, none⟩ = false := blk_frozen h k
end Go.Proofs.Ytanebifiafghnaa.Ack
