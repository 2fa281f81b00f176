/- What a row's reading of its arguments gives, kind by kind: values of the print's kinds (Kd), their numbers' bounds, their sizes. No condition. -/
import Derived.Test.YtcieopcihbgfdaaRows
import Derived.Test.YtcieopcihbgfdaaWWords
import Derived.ChangeArms
import Derived.ChangeSlices
import Derived.DataReads
import Derived.SizedLaws
namespace Go.Proofs.Ytcieopcihbgfdaa.Opening
open Go.RowKit Go.Proofs.YtcieopcihbgfdaaW.PrintWords Go.ChangeShapes Go.WideShapes
set_option linter.unusedVariables false
set_option linter.unusedSimpArgs false

/-- A run of cells of type t that can be read is a value of the kind d, a good one, and no greater than its reading. -/
structure Opens (P : Program) {α : Type} (d : Kd α) (t : TypeId) (Good : α → Prop) (bulk : α → Nat) : Prop where
  out : ∀ {H : Type} (enc : TypeId × Value → H) (W : World) (fuel : Nat) (cs : List Value) (y : DataW H × List MemPlace),
    DataW.trod enc P W 0 (fun _ => true) true fuel t cs = some y → (∀ n ∈ y.1.weights P t, n ≤ 140737488351232) →
    ∃ x, d.K W x cs ∧ Good x ∧ bulk x ≤ Rows.uptoBulk y.1
variable {P : Program}
theorem opens_int {t : TypeId} {k : IntKind} (ht : P.underlying t = some (.int k)) : Opens P (Kd.int k) t (fun x => (Lit.int k x).wf = true) (fun _ => 1) := ⟨by
  intro H enc W fuel cs y h _
  obtain ⟨n, rfl, rfl, hw⟩ := DataW.trod_int ht h
  exact ⟨n, rfl, hw, by simp [Rows.uptoBulk]⟩⟩
theorem opens_bool {t : TypeId} (ht : P.underlying t = some .bool) : Opens P Kd.bool t (fun _ => True) (fun _ => 1) := ⟨by
  intro H enc W fuel cs y h _
  obtain ⟨n, rfl, rfl⟩ := DataW.trod_bool ht h
  exact ⟨n, rfl, trivial, by simp [Rows.uptoBulk]⟩⟩
theorem opens_string {t : TypeId} (ht : P.underlying t = some .string) : Opens P Kd.string t (fun x => x.size ≤ 140737488351232) (fun x => x.size + 1) := ⟨by
  intro H enc W fuel cs y h hw
  obtain ⟨n, rfl, rfl, _⟩ := DataW.trod_string ht h
  refine ⟨n, rfl, ?_, by simp [Rows.uptoBulk]⟩
  have := hw n.size (by simp [DataW.weights])
  exact this⟩
/-- The fields of a struct, from one on. -/
structure OpensFs (P : Program) {α : Type} (d : Kd α) (fs : List Field) (o sz : Nat) (Good : α → Prop) (bulk : α → Nat) : Prop where
  out : ∀ {H : Type} (enc : TypeId × Value → H) (W : World) (n : Nat) (cs : List Value) (xs : List (DataW H × List MemPlace)), xs.length = fs.length →
    (∀ (i : Nat) (f : Field), fs[i]? = some f → DataW.trod enc P W 0 (fun _ => true) true n f.type ((cs.drop f.offset).take (P.cellsOf f.type)) = xs[i]?) →
    (∀ m ∈ DataW.weightsEach P (fs.map (·.type)) (xs.map (·.1)), m ≤ 140737488351232) →
    ∃ x, d.K W x ((cs.drop o).take sz) ∧ Good x ∧ bulk x ≤ Rows.uptoBulkAll (xs.map (·.1))
theorem opens_one {α : Type} {d : Kd α} {f : Field} {o sz : Nat} {G : α → Prop} {b : α → Nat} (ho : f.offset = o) (hs : P.cellsOf f.type = sz) (h : Opens P d f.type G b) : OpensFs P d [f] o sz G b := ⟨by
  intro H enc W n cs xs hl hx hw
  have h0 := hx 0 f rfl
  match xs, hl with
  | [y], _ =>
    rw [ho, hs] at h0
    obtain ⟨x, h1, h2, h3⟩ := h.out enc W n _ y h0 (fun m hm => hw m (by simp [DataW.weightsEach, hm]))
    exact ⟨x, h1, h2, by simp [Rows.uptoBulkAll]; omega⟩⟩
theorem opens_cons {α β : Type} {d1 : Kd α} {d2 : Kd β} {f : Field} {fs : List Field} {o s1 s2 : Nat} {G1 : α → Prop} {b1 : α → Nat} {G2 : β → Prop} {b2 : β → Nat} (ho : f.offset = o) (hs : P.cellsOf f.type = s1) (h : Opens P d1 f.type G1 b1)
    (h2 : OpensFs P d2 fs (o + s1) s2 G2 b2) : OpensFs P (Kd.pair d1 d2) (f :: fs) o (s1 + s2) (fun x => G1 x.1 ∧ G2 x.2) (fun x => b1 x.1 + b2 x.2) := ⟨by
  intro H enc W n cs xs hl hx hw
  have h0 := hx 0 f rfl
  match xs, hl with
  | y :: ys, hl =>
    rw [ho, hs] at h0
    obtain ⟨x, k1, k2, k3⟩ := h.out enc W n _ y h0 (fun m hm => hw m (by simp [DataW.weightsEach, hm]))
    obtain ⟨z, l1, l2, l3⟩ := h2.out enc W n cs ys (by simpa using hl) (fun i g hg => by simpa using hx (i + 1) g (by simpa using hg)) (fun m hm => hw m (by simp [DataW.weightsEach, hm]))
    refine ⟨(x, z), ⟨_, _, ?_, k1, l1⟩, ⟨k2, l2⟩, by simp [Rows.uptoBulkAll]; omega⟩
    rw [List.take_add, List.drop_drop]⟩
theorem opens_struct {α β : Type} {d : Kd α} {t : TypeId} {fs : Array Field} {sz : Nat} {G : α → Prop} {b : α → Nat} (f : β → α) (g : α → β) (hf : ∀ x, f (g x) = x) (ht : P.underlying t = some (.struct fs)) (hc : P.cellsOf t = sz)
    (h : OpensFs P d fs.toList 0 sz G b) : Opens P (Kd.iso d f) t (fun x => G (f x)) (fun x => b (f x) + 1) := ⟨by
  intro H enc W fuel cs y hy hw
  obtain ⟨xs, n, rfl, rfl, hl, hx, hr⟩ := DataW.trod_struct ht hy
  obtain ⟨x, h1, h2, h3⟩ := h.out enc W n cs xs (by simpa using hx) (fun i g hg => hr i g (by simpa using hg)) (fun m hm => hw m (by simpa [DataW.weights, ht] using hm))
  refine ⟨g x, ?_, by rw [hf]; exact h2, by rw [hf]; simp [Rows.uptoBulk]; omega⟩
  show d.K W (f (g x)) cs
  rw [hf]
  simpa [← hc, ← hl] using h1⟩
theorem list_of {α : Type} (Q : Nat → α → Prop) (n : Nat) (h : ∀ i, i < n → ∃ x, Q i x) : ∃ xs : List α, xs.length = n ∧ ∀ i x, xs[i]? = some x → Q i x := by
  induction n with
  | zero => exact ⟨[], rfl, fun i x hx => by simp at hx⟩
  | succ n ih =>
    obtain ⟨xs, hl, hx⟩ := ih (fun i hi => h i (by omega))
    obtain ⟨x, hq⟩ := h n (by omega)
    refine ⟨xs ++ [x], by simp [hl], fun i y hy => ?_⟩
    rcases Nat.lt_or_ge i n with hi | hi
    · rw [List.getElem?_append_left (by omega)] at hy
      exact hx i y hy
    · have := (List.getElem?_eq_some_iff.1 hy).1
      simp [hl] at this
      obtain rfl : i = n := by omega
      rw [← hl] at hy
      simp at hy
      subst hy
      exact hq
theorem weightsAll_mem {H : Type} {e : TypeId} {d : DataW H} {n : Nat} : ∀ {l : List (DataW H)}, d ∈ l → n ∈ d.weights P e → n ∈ DataW.weightsAll P e l
  | [], h, _ => by cases h
  | a :: l, h, hn => by
    simp only [DataW.weightsAll, List.mem_append]
    rcases List.mem_cons.1 h with e | h
    · subst e; exact .inl hn
    · exact .inr (weightsAll_mem h hn)
theorem bulkAll_append {H : Type} (l r : List (DataW H)) : Rows.uptoBulkAll (l ++ r) = Rows.uptoBulkAll l + Rows.uptoBulkAll r := by
  induction l with
  | nil => simp [Rows.uptoBulkAll]
  | cons x l ih => simp only [List.cons_append, Rows.uptoBulkAll, ih]; omega
theorem bulk_sum {H α : Type} {b : α → Nat} : ∀ (xs : List α) (l : List (DataW H)), xs.length = l.length → (∀ (i : Nat) x d, xs[i]? = some x → l[i]? = some d → b x ≤ Rows.uptoBulk d) → (xs.map b).sum ≤ Rows.uptoBulkAll l
  | [], [], _, _ => by simp [Rows.uptoBulkAll]
  | x :: xs, d :: l, hl, h => by
    have h0 := h 0 x d rfl rfl
    have h1 := bulk_sum xs l (by simpa using hl) (fun i x d hx hd => h (i + 1) x d (by simpa using hx) (by simpa using hd))
    simp only [List.map_cons, List.sum_cons, Rows.uptoBulkAll]
    omega
  | [], _ :: _, hl, _ => by simp at hl
  | _ :: _, [], hl, _ => by simp at hl
theorem add_add' (a : Addr) (i j : Nat) : (a.add i).add j = a.add (i + j) := by
  unfold Addr.add
  repeat' split
  all_goals simp_all
  all_goals omega
theorem opens_slice {α : Type} {d : Kd α} {t e : TypeId} {G : α → Prop} {b : α → Nat} (ht : P.underlying t = some (.slice e)) (hc : P.cellsOf e = d.sz) (h : Opens P d e G b) :
    Opens P (Kd.slice e d) t (fun xs => xs.length * P.bytesOf e ≤ 140737488351232 ∧ ∀ x ∈ xs, G x) (fun xs => (xs.map b).sum + 1) := ⟨by
  intro H enc W fuel cs y hy hw
  rcases DataW.trod_slice ht hy with ⟨rfl, rfl⟩ | ⟨a, len, cap, elems, rest, n, rfl, rfl, rfl, _, hl, hm, hlen, hel, _, _⟩
  · exact ⟨[], ⟨none, 0, rfl, Nat.le_refl _, rfl, by simp, fun hn => by simp at hn⟩, ⟨by simp, by simp⟩, by simp [Rows.uptoBulk]⟩
  · have hwe : ∀ y ∈ elems, ∀ m ∈ y.1.weights P e, m ≤ 140737488351232 := fun y hy m hm => hw m (by
      simp only [DataW.weights, ht, List.mem_cons, List.mem_append]
      exact .inr (.inl (weightsAll_mem (List.mem_map_of_mem hy) hm)))
    obtain ⟨xs, hxl, hx⟩ := list_of (fun i x => ∃ c y, elems[i]? = some y ∧ W.cells? 0 (a.add (i * P.cellsOf e)) (P.cellsOf e) = some c ∧ d.K W x c ∧ G x ∧ b x ≤ Rows.uptoBulk y.1) len (fun i hi => by
      have hb := hel i hi
      have hlt : i < elems.length := by omega
      rw [List.getElem?_eq_getElem hlt, Option.bind_eq_some_iff] at hb
      obtain ⟨c, hcs, hy'⟩ := hb
      obtain ⟨x, h1, h2, h3⟩ := h.out enc W n c _ hy' (fun m hm => hwe _ (List.getElem_mem hlt) m hm)
      exact ⟨x, c, _, List.getElem?_eq_getElem hlt, hcs, h1, h2, h3⟩)
    refine ⟨xs, ⟨some a, cap, by rw [hxl], by omega, rfl, by simp only [maxLen] at hm; omega, fun _ => ⟨a, rfl, fun j p hj => ?_⟩⟩, ⟨?_, fun x hxm => ?_⟩, ?_⟩
    · obtain ⟨c, y, _, hcs, hk, _⟩ := hx j p hj
      have hcell := World.cells?_some hcs
      refine ⟨c, by rw [hcell.2.1, hc], hk, fun i u hu => ?_⟩
      have hi : i < P.cellsOf e := by
        have := (List.getElem?_eq_some_iff.1 hu).1
        omega
      have := hcell.2.2 i hi
      rw [hu, add_add', hc] at this
      exact this
    · have hlast := hw ((elems.length + rest.length) * P.bytesOf e) (by simp [DataW.weights, ht])
      rw [hxl, ← hlen]
      exact Nat.le_trans (Nat.mul_le_mul_right _ (Nat.le_add_right _ _)) hlast
    · obtain ⟨i, hi⟩ := List.getElem?_of_mem hxm
      obtain ⟨c, y, _, _, _, hg, _⟩ := hx i x hi
      exact hg
    · have := bulk_sum (b := b) xs (elems.map (·.1)) (by simp; omega) (fun i x d' hxi hd => by
        obtain ⟨c, y, hy, _, _, _, hb⟩ := hx i x hxi
        rw [List.getElem?_map, hy] at hd
        simp at hd
        subst hd
        exact hb)
      simp only [Rows.uptoBulk]
      omega⟩
theorem agg_of {W : World} {r : Reach} {base : Nat} {t : TypeId} {v : Value} {fs : Array Field} (ht : P.underlying t = some (.struct fs)) (h : Value.okWide P W r base t v) : ∃ cs, v = .agg cs := by
  unfold Value.okWide at h
  rw [ht] at h
  obtain ⟨cs, rfl, _⟩ := h
  exact ⟨cs, rfl⟩
/-- An argument's reading, opened. -/
theorem Opens.arg {α : Type} {d : Kd α} {t : TypeId} {G : α → Prop} {b : α → Nat} (h : Opens P d t G b) {H : Type} {enc : TypeId × Value → H} {W : World} {v : Value} {y : DataW H} {ps : List MemPlace} {ts : List TypeId} {ds : List (DataW H)} {j : Nat}
    (hsz : (DataW.weightsEach P ts ds).all (· ≤ reachBytes) = true) (ht : ts[j]? = some t) (hd : ds[j]? = some y) (hT : DataW.Trod enc P W 0 (fun _ => true) true t v y ps) : ∃ x, d.K W x v.cells.toList ∧ G x ∧ b x ≤ Rows.uptoBulk y := by
  obtain ⟨fuel, hf⟩ := hT
  refine h.out enc W fuel _ (y, ps) hf (fun n hn => ?_)
  have := List.all_eq_true.1 hsz n (DataW.weights_mem_each ht hd n hn)
  have e : reachBytes = 140737488351232 := by decide
  simpa [e] using this
theorem slice_of {α : Type} {d : Kd α} {e : Nat} {W : World} {xs : List α} {A : Option Addr} {n c : Nat} (h : (Kd.slice e d).K W xs (Value.slice A n c).cells.toList) : n = xs.length ∧ xs.length ≤ c ∧ d.C W A xs.length xs := by
  obtain ⟨A', c', he, h1, h2⟩ := h
  simp [Value.cells] at he
  obtain ⟨rfl, rfl, rfl⟩ := he
  exact ⟨rfl, h1, h2⟩
theorem bulk_bound {H : Type} {l : List (DataW H)} (hk : Rows.uptoSmall H l = true) : Rows.uptoBulkAll l ≤ 1048576 := by
  simpa [Rows.uptoSmall] using hk
theorem wf_i64 {x : Int} (h : (Lit.int .i64 x).wf = true) : -9223372036854775808 ≤ x ∧ x ≤ 9223372036854775807 := by
  simp [Lit.wf, IntKind.min, IntKind.max, IntKind.bits, IntKind.signed] at h
  omega
theorem wf_u8 {x : Int} (h : (Lit.int .u8 x).wf = true) : 0 ≤ x ∧ x ≤ 255 := by
  simp [Lit.wf, IntKind.min, IntKind.max, IntKind.bits, IntKind.signed] at h
  omega
theorem wf_u32 {x : Int} (h : (Lit.int .u32 x).wf = true) : 0 ≤ x ∧ x ≤ 4294967295 := by
  simp [Lit.wf, IntKind.min, IntKind.max, IntKind.bits, IntKind.signed] at h
  omega
end Go.Proofs.Ytcieopcihbgfdaa.Opening
