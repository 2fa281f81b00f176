/- A slice of bytes made out of a string: what its block holds, read and written byte by byte. No condition. -/
import Derived.Test.YtoigojlemffikaaDoorWMore
import Derived.Lib.ConvBytes
import Derived.WalkKit
import Derived.Deep.WholeRow
namespace Go.Proofs.YtoigojlemffikaaDoor.Conv
open Go.RowKit Go.Proofs.YtoigojlemffikaaDoorW.PrintWords
set_option linter.unusedVariables false
set_option linter.unusedSimpArgs false
/-- The bytes xs lie at the front of block g (elements of type e). -/
structure BRow (W : World) (g : Nat) (e : TypeId) (xs : List Int) : Prop where
  out : ∃ cs : Array Value, W.heap[g]? = some (.cells cs e (cs.size, cs.size + 1)) ∧ xs.length ≤ cs.size ∧ ∀ i : Nat, i < xs.length → cs[i]? = some (.int .u8 (xs.getD i 0))
theorem bytes_getD (s : ByteArray) (i : Nat) (h : i < s.size) : (bytesOf s).getD i 0 = ((s.data.toList.getD i 0).toNat : Int) := by
  have h' : i < s.data.toList.length := by rw [data_length]; exact h
  simp [bytesOf, List.getD_eq_getElem?_getD, List.getElem?_eq_getElem h']
theorem made (w : World) (e : TypeId) (s : ByteArray) : BRow (Lib.bytesWorld w e s) w.heap.size e (bytesOf s) := by
  refine ⟨⟨_, Lib.bytesWorld_at_new w e s, ?_, fun i hi => ?_⟩⟩
  · simp [Lib.bytesCells, bytesOf]
  · have hi' : i < s.size := by simpa [bytesOf] using hi
    rw [bytes_getD s i hi']
    have := Lib.bytesWorld_cell w e s i hi'
    simp only [World.cell?, Lib.bytesWorld_at_new] at this
    exact this
theorem made_below (w : World) (e : TypeId) (s : ByteArray) : Below w.heap.size w (Lib.bytesWorld w e s) := by
  exact ⟨by simp [Lib.bytesWorld, World.freeze, World.alloc, World.drew, -World.alloc_eq, -World.drew_eq], by simp [Lib.bytesWorld, World.freeze, World.alloc, World.drew, -World.alloc_eq, -World.drew_eq], by simp [Lib.bytesWorld, World.freeze, World.alloc, World.drew, -World.alloc_eq, -World.drew_eq], by rw [Lib.bytesWorld_size]; omega, fun i hi => Lib.bytesWorld_at_old w e s i hi⟩
section
variable {W W' : World} {g : Nat} {e : TypeId} {xs : List Int}
theorem BRow.cell (h : BRow W g e xs) (i : Nat) (hi : i < xs.length) : W.cell? ⟨g, i, none⟩ = some (.int .u8 (xs.getD i 0)) := by
  obtain ⟨cs, hb, _, hc⟩ := h.out
  simp only [World.cell?, hb]
  exact hc i hi
theorem BRow.free (h : BRow W g e xs) (i : Nat) (hi : i < xs.length) : W.frozen? ⟨g, i, none⟩ = false := by
  obtain ⟨cs, hb, hl, _⟩ := h.out
  simp [World.frozen?, hb]
  omega
theorem BRow.set (h : BRow W g e xs) (i : Nat) (hi : i < xs.length) (x : Int) : BRow (W.setCell ⟨g, i, none⟩ (.int .u8 x)) g e (xs.set i x) := by
  obtain ⟨cs, hb, hl, hc⟩ := h.out
  refine ⟨⟨cs.setIfInBounds i (.int .u8 x), ?_, by simpa using hl, fun j hj => ?_⟩⟩
  · simp [World.setCell, Array.getElem?_modify, hb]
  · rw [List.length_set] at hj
    have hj2 : j < cs.size := by omega
    by_cases e1 : i = j
    · subst e1
      simp [List.getD_eq_getElem?_getD, hj2, hj]
    · rw [Array.getElem?_setIfInBounds_ne e1, hc j hj]
      simp [List.getD_eq_getElem?_getD, List.getElem?_set_ne e1]
theorem BRow.lt (h : BRow W g e xs) : g < W.heap.size := by
  obtain ⟨cs, hb, _, _⟩ := h.out
  exact blk_lt hb
theorem BRow.below (h : BRow W g e xs) (hb : Below W.heap.size W W') : BRow W' g e xs := by
  obtain ⟨cs, hc, r⟩ := h.out
  exact ⟨⟨cs, (hb.block g h.lt).trans hc, r⟩⟩
theorem BRow.drew (h : BRow W g e xs) : BRow W.drew g e xs := ⟨h.out⟩
theorem BRow.drewN (h : BRow W g e xs) (m : Nat) : BRow (W.drewN m) g e xs := ⟨h.out⟩
theorem BRow.reads (h : BRow W g e xs) (hm : xs.length ≤ 9223372036854775807) : (Kd.int .u8).C W (some ⟨g, 0, none⟩) xs.length xs := by
  refine ⟨rfl, hm, fun _ => ⟨⟨g, 0, none⟩, rfl, fun j p hj => ⟨[.int .u8 p], rfl, rfl, fun i u hu => ?_⟩⟩⟩
  have hj2 := (List.getElem?_eq_some_iff.1 hj).1
  obtain rfl : i = 0 := by
    have := (List.getElem?_eq_some_iff.1 hu).1
    simp at this
    exact this
  have hc := h.cell j hj2
  rw [List.getD_eq_getElem?_getD, hj] at hc
  obtain rfl : Value.int .u8 p = u := by simpa using hu
  by_cases h0 : j = 0
  · subst h0
    simpa [Addr.add, Kd.int, Kd.scalar] using hc
  · simpa [Addr.add, Kd.int, Kd.scalar, h0] using hc
end
section
variable {P : Program} {ops : Array Oper} {rest : List Oper} {o : Oper} {a : Act} {Q : Exit → Act → World → Prop}
/-- '[]byte(s)' as an arm of the walk. -/
theorem conv_arm {W : World} (hgd : o.guard = none) {N : Tmp} (hd : o.dst = some N) (src dst e : TypeId) (x : Operand) (ho : o.op = .convert src dst x) (s : ByteArray) (hx : a.eval x = .string s) {u : TypeDesc}
    (hs : P.underlying src = some u) (ht : P.underlying dst = some (.slice e)) (he : P.underlying e = some (.int .u8))
    (h : ∀ (g : Nat) (c : Nat) (w1 : World), BRow w1 g e (bytesOf s) → W.heap.size ≤ g → Below W.heap.size W w1 → wpList P ops Q rest (a.put o.dst (.slice (some ⟨g, 0, none⟩) s.size c)) w1) : wpList P ops Q (o :: rest) a W := by
  refine Kd.event_run hgd ?_ (h W.heap.size (grownCap W s.size 0 e) _ (made W e s) (Nat.le_refl _) (made_below W e s))
  have hr := Lib.run_convert_string_bytes (P := P) W src dst e s hs ht he
  simp [execOp, ho, hx, hr, Result.andThen]
end
section
variable {P : Program} {ops : Array Oper} {rest : List Oper} {o : Oper} {a : Act} {Q : Exit → Act → World → Prop}
/-- A whole array stored into the variable that was made last. -/
theorem store_new_arm {W : World} {c : Array Value} {ty : TypeId} {b : Nat} (hb : b = W.heap.size) (hgd : o.guard = none) (x y : Operand) (ho : o.op = .store ty x y) (c' : Array Value) (hx : a.eval x = .pointer (some ⟨b, 0, none⟩)) (hy : a.eval y = .agg c')
    (n : Nat) (hi : (P.info? ty).map (·.size) = some n) (hn : c'.size = n) (hc : c.size = n) (h1 : c'.all (·.oneCell') = true) (h : wpList P ops Q rest (a.put o.dst undef) (W.alloc (.cells c' ty))) : wpList P ops Q (o :: rest) a (W.alloc (.cells c ty)) := by
  subst hb
  refine wpList_plain hgd fun K hK => ?_
  unfold Oper.wp execOp
  simp only [ho, hx, hy, Sem.run_bind, run_storeAt_new W ty c c' (hn ▸ hi) (hc.trans hn.symm) h1, Sem.run_pure, Result.andThen_ok]
  exact hK _ _ h
end
/-- Whole numbers in the block that was made last. -/
theorem C_new {k : IntKind} (W : World) (t : TypeId) (xs : List Int) {b : Nat} (hb : b = W.heap.size) (hm : xs.length ≤ 9223372036854775807) : (Kd.int k).C (W.alloc (.cells (xs.map fun x => Value.int k x).toArray t)) (some ⟨b, 0, none⟩) xs.length xs := by
  subst hb
  refine ⟨rfl, hm, fun _ => ⟨⟨W.heap.size, 0, none⟩, rfl, fun j p hj => ⟨[.int k p], rfl, rfl, fun i u hu => ?_⟩⟩⟩
  have hj2 := (List.getElem?_eq_some_iff.1 hj).1
  obtain rfl : i = 0 := by
    have := (List.getElem?_eq_some_iff.1 hu).1
    simp at this
    exact this
  obtain rfl : Value.int k p = u := by simpa using hu
  have hb : (W.alloc (.cells (xs.map fun x => Value.int k x).toArray t)).heap[W.heap.size]? = some (.cells (xs.map fun x => Value.int k x).toArray t) := heap_alloc_last W _
  have hc : (W.alloc (.cells (xs.map fun x => Value.int k x).toArray t)).cell? ⟨W.heap.size, j, none⟩ = some (.int k p) := by
    simp only [World.cell?, hb]
    simp [hj]
  by_cases h0 : j = 0
  · subst h0
    simpa [Addr.add, Kd.int, Kd.scalar, -World.alloc_eq] using hc
  · simpa [Addr.add, Kd.int, Kd.scalar, h0, -World.alloc_eq] using hc
/-- Whole numbers in a block that is known whole. -/
theorem C_blk {k : IntKind} {W : World} {g : Nat} {t : TypeId} {m : Nat × Nat} (xs : List Int) (h : W.heap[g]? = some (.cells (xs.map fun x => Value.int k x).toArray t m)) (hm : xs.length ≤ 9223372036854775807) : (Kd.int k).C W (some ⟨g, 0, none⟩) xs.length xs := by
  refine ⟨rfl, hm, fun _ => ⟨⟨g, 0, none⟩, rfl, fun j p hj => ⟨[.int k p], rfl, rfl, fun i u hu => ?_⟩⟩⟩
  have hj2 := (List.getElem?_eq_some_iff.1 hj).1
  obtain rfl : i = 0 := by
    have := (List.getElem?_eq_some_iff.1 hu).1
    simp at this
    exact this
  obtain rfl : Value.int k p = u := by simpa using hu
  have hc : W.cell? ⟨g, j, none⟩ = some (.int k p) := by
    simp only [World.cell?, h]
    simp [hj]
  by_cases h0 : j = 0
  · subst h0
    simpa [Addr.add, Kd.int, Kd.scalar] using hc
  · simpa [Addr.add, Kd.int, Kd.scalar, h0] using hc
theorem string_blk {P : Program} {W : World} {g c n : Nat} {e t src dst : TypeId} {m : Nat × Nat} (xs : List Int) (h : W.heap[g]? = some (.cells (xs.map fun x => Value.int .u8 x).toArray t m)) (hn : xs.length = n) (hm : n ≤ 9223372036854775807) (hs : P.underlying src = some (.slice e)) (he : P.underlying e = some (.int .u8)) (ht : P.underlying dst = some .string) :
    (convert src dst (.slice (some ⟨g, 0, none⟩) n c)).run P W = .ok (.string (strOfNums xs)) W := by
  subst hn
  exact Kd.C_string hs he ht (C_blk xs h hm)
theorem blk_new_at (X : World) (o : Obj) {b : Nat} (hb : b = X.heap.size) : (X.alloc o).heap[b]? = some o := by
  subst hb
  exact blk_new X o
/-- From W to W' block g alone was written. -/
structure Only (W W' : World) (g : Nat) : Prop where
  other : ∀ b, b ≠ g → W'.heap[b]? = W.heap[b]?
  below : ∀ w, Below w.heap.size w W → w.heap.size ≤ g → Below w.heap.size w W'
theorem Only.refl (W : World) (g : Nat) : Only W W g := ⟨fun _ _ => rfl, fun _ h _ => h⟩
theorem Only.drew {W W' : World} {g : Nat} (h : Only W W' g) : Only W W'.drew g := ⟨fun b hb => h.other b hb, fun w hw hg => (h.below w hw hg).drew⟩
theorem Only.set {W W' : World} {g : Nat} (h : Only W W' g) (i : Nat) (v : Value) : Only W (W'.setCell ⟨g, i, none⟩ v) g :=
  ⟨fun b hb => (Below.heap_setCell W' ⟨g, i, none⟩ v b hb).trans (h.other b hb), fun w hw hg => below_set (h.below w hw hg) hg⟩
theorem Only.trans {W W' W'' : World} {g : Nat} (h : Only W W' g) (h2 : Only W' W'' g) : Only W W'' g := ⟨fun b hb => (h2.other b hb).trans (h.other b hb), fun w hw hg => h2.below w (h.below w hw hg) hg⟩
/-- The world under a name. -/
theorem wp_world {P : Program} {c : Code} {Q : Exit → Act → World → Prop} {a : Act} {w : World} (C : World → Prop) (hC : C w) (h : ∀ W, C W → c.wp P Q a W) : c.wp P Q a w := h w hC
/-- What bytes, some of them changed, are as a string. -/
theorem back {P : Program} {W : World} {g c : Nat} {e src dst : TypeId} {xs : List Int} (h : BRow W g e xs) (hm : xs.length ≤ 9223372036854775807) (hs : P.underlying src = some (.slice e)) (he : P.underlying e = some (.int .u8)) (ht : P.underlying dst = some .string) :
    (convert src dst (.slice (some ⟨g, 0, none⟩) xs.length c)).run P W = .ok (.string (strOfNums xs)) W := Kd.C_string hs he ht (h.reads hm)
theorem back_set {P : Program} {W : World} {g c n : Nat} {e src dst : TypeId} {xs : List Int} (h : BRow W g e xs) (hn : xs.length = n) (hm : n ≤ 9223372036854775807) (i : Nat) (hi : i < n) (hs : P.underlying src = some (.slice e)) (he : P.underlying e = some (.int .u8)) (ht : P.underlying dst = some .string) (v : Int) :
    (convert src dst (.slice (some ⟨g, 0, none⟩) n c)).run P (W.setCell ⟨g, i, none⟩ (.int .u8 v)) = .ok (.string (strOfNums (xs.set i v))) (W.setCell ⟨g, i, none⟩ (.int .u8 v)) := by
  subst hn
  have := back (P := P) (c := c) (src := src) (dst := dst) (h.set i hi v) (by rw [List.length_set]; exact hm) hs he ht
  rwa [List.length_set] at this
end Go.Proofs.YtoigojlemffikaaDoor.Conv

namespace Go.Proofs.YtoigojlemffikaaDoor.Hand
end Go.Proofs.YtoigojlemffikaaDoor.Hand
