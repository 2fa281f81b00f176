/- Layer 20: the queues' contracts beside a map. gen/mk_order20.py writes this text. -/
import Derived.Test.YtcieopcihbgfdaaOr20
namespace Go.Proofs.Ytcieopcihbgfdaa.Fq
open Go.RowKit Go.Proofs.YtcieopcihbgfdaaW.PrintWords Go.Proofs.YtcieopcihbgfdaaW.PrintLast Go.Proofs.YtcieopcihbgfdaaW.PrintMore Go.Proofs.Ytcieopcihbgfdaa.PFairDoes Go.Proofs.Ytcieopcihbgfdaa Go.Proofs.Ytcieopcihbgfdaa.Fair
set_option linter.unusedVariables false
set_option linter.unusedSimpArgs false
section
variable {w0 W : World} {mine : Nat → Prop} {g gm n : Nat} {f : Int → Option Value} {ow : Nat → Int} {s s' : FS} {ls : Int → List ByteArray}
theorem push_o {id : Int} {t : ByteArray} {e : Int} (h : OR w0 W mine g gm n f ow s ls) (hi : FI s) (hk : (Lit.int .i64 id).wf = true) (hl : s.st.length ≤ 100000) (he : pushE s id t = e) (hs : pushS s id t = s') :
    Calls Try.prog 10 #[.pointer (some ⟨g, 0, none⟩), .int .i64 id, .string t] W fun e' w' => e' = .returned (.int .i64 e) ∧ OR w0 w' mine g gm n f ow s' ls ∧ ∀ b, mine b → w'.heap[b]? = W.heap[b]? := by
  subst he; subst hs
  refine (push_c g id t s _ w0 W h.fo hi hk hl).mono ?_
  rintro e w1 ⟨rfl, h1⟩
  exact ⟨rfl, h.call h1⟩
theorem next_o {i : Int} {t : ByteArray} {b : Bool} (h : OR w0 W mine g gm n f ow s ls) (hi : FI s) (hl : s.st.length ≤ 100000) (hn : nextV s = ((i, t, b), s')) :
    Calls Try.prog 11 #[.pointer (some ⟨g, 0, none⟩)] W fun e w' => e = .returned (.tuple #[.int .i64 i, .string t, .bool b]) ∧ OR w0 w' mine g gm n f ow s' ls ∧ ∀ b, mine b → w'.heap[b]? = W.heap[b]? := by
  refine (next_c g s _ w0 W h.fo hi hl).mono ?_
  rintro e w1 ⟨rfl, h1⟩
  rw [hn] at h1 ⊢
  exact ⟨rfl, h.call h1⟩
theorem drop_o {id : Int} {e : Int} (h : OR w0 W mine g gm n f ow s ls) (hi : FI s) (hk : (Lit.int .i64 id).wf = true) (hl : s.st.length ≤ 100000) (he : dropE s id = e) (hs : dropS s id = s') :
    Calls Try.prog 16 #[.pointer (some ⟨g, 0, none⟩), .int .i64 id] W fun e' w' => e' = .returned (.int .i64 e) ∧ OR w0 w' mine g gm n f ow s' ls ∧ ∀ b, mine b → w'.heap[b]? = W.heap[b]? := by
  subst he; subst hs
  refine (drop_c g id s _ w0 W h.fo hi hk hl).mono ?_
  rintro e w1 ⟨rfl, h1⟩
  exact ⟨rfl, h.call h1⟩
theorem count_o {k : Nat} (h : OR w0 W mine g gm n f ow s ls) (hi : FI s) (hl : s.st.length ≤ 100000) (hn : countL s.st = k) :
    Calls Try.prog 12 #[.pointer (some ⟨g, 0, none⟩)] W fun e w' => e = .returned (.int .i64 (k : Int)) ∧ OR w0 w' mine g gm n f ow s ls ∧ ∀ b, mine b → w'.heap[b]? = W.heap[b]? := by
  subst hn
  refine (count_c g s _ w0 W h.fo hi hl).mono ?_
  rintro e w1 ⟨rfl, h1, _⟩
  exact ⟨rfl, h.call h1⟩
end
theorem zeroL (w : World) : (zeroValue 34).run Try.prog w = .ok nil_ w := by kernel_rfl
/-- The map's answer, as a slice. -/
theorem OR.look {w0 W : World} {mine : Nat → Prop} {g gm n : Nat} {f : Int → Option Value} {ow : Nat → Int} {s : FS} {ls : Int → List ByteArray} (h : OR w0 W mine g gm n f ow s ls) {k : Int} (hk : (Lit.int .i64 k).wf = true) : ∃ A c, (f k).getD nil_ = .slice A (ls k).length c ∧ (Instr.lookup 44 (.map (some gm)) (.int .i64 k) false).run Try.prog W = .ok (.slice A (ls k).length c) W := by
  obtain ⟨A, c, e, _⟩ := Kd.Q_slice (h.rows k)
  have h1 := VM.lookup h.mp Try.underlying44 (zeroL W) hk
  rw [e] at h1
  exact ⟨A, c, e, h1⟩
theorem OR.maps {w0 W w1 : World} {mine : Nat → Prop} {g gm n : Nat} {f : Int → Option Value} {ow : Nat → Int} {s : FS} {ls : Int → List ByteArray} (h : OR w0 W mine g gm n f ow s ls) {k : Int} (hk : (Lit.int .i64 k).wf = true) (hn : n < maxLen) {v1 : Value} {l1 : List ByteArray} (hB : Below w0.heap.size w0 w1) (hg : W.grownBy w1 ((f k).getD nil_).ownBlock) (hQ : Kd.string.Q 9 w1 w0.heap.size (fun b => (mine b ∨ W.heap.size ≤ b) ∧ (if W.heap.size ≤ b then k else ow b) = k) v1 l1) :
    ∃ w2, (Instr.mapUpdate 44 (.map (some gm)) (.int .i64 k) v1).run Try.prog w1 = .ok () w2 ∧ ∃ mine' f' ow' n', n' ≤ n + 1 ∧ OR w0 w2 mine' g gm n' f' ow' s (upd ls k l1) := by
  have hm1 : VM.VMap w1 gm n f := h.mp.same (hg.block gm h.mp.lt (fun e => by obtain ⟨c, hc⟩ := Kd.Q_typed (h.rows k) gm e.symm; exact h.mp.ne hc rfl))
  obtain ⟨w2, h5, h6, h7⟩ := VM.update hm1 Try.underlying44 hn hk v1
  exact ⟨w2, h5, _, _, _, _, by split <;> omega, h.turn hB hg hQ h6 h7⟩
theorem OR.look_at {w0 W w' : World} {mine : Nat → Prop} {g gm n : Nat} {f : Int → Option Value} {ow : Nat → Int} {s : FS} {ls : Int → List ByteArray} (h : OR w0 W mine g gm n f ow s ls) {k : Int} (hk : (Lit.int .i64 k).wf = true) {A : Option Addr} {c m : Nat} (e : (f k).getD nil_ = .slice A m c) (hb : Below W.heap.size W w') : (Instr.lookup 44 (.map (some gm)) (.int .i64 k) false).run Try.prog w' = .ok (.slice A m c) w' := by
  have h1 := VM.lookup (h.below hb).mp Try.underlying44 (zeroL w') hk
  rw [e] at h1
  exact h1
/-- The row's first. -/
theorem OR.first {w0 W : World} {mine : Nat → Prop} {g gm n : Nat} {f : Int → Option Value} {ow : Nat → Int} {s : FS} {ls : Int → List ByteArray} (h : OR w0 W mine g gm n f ow s ls) {k : Int} (hk : (Lit.int .i64 k).wf = true) (hn : n < maxLen) {t : ByteArray} {r : List ByteArray} (hl : ls k = t :: r) {n1 : Nat} (hn1 : r.length + 1 = n1) :
    ∃ b off c A' c', (Instr.lookup 44 (.map (some gm)) (.int .i64 k) false).run Try.prog W = .ok (.slice (some ⟨b, off, none⟩) n1 c) W ∧ W.cell? ⟨b, off, none⟩ = some (.string t) ∧
      (∀ W : World, (Instr.slice 34 (.slice (some ⟨b, off, none⟩) n1 c) (some (.int .i64 1)) none none).run Try.prog W = .ok (.slice A' r.length c') W) ∧
      ∃ w2, (Instr.mapUpdate 44 (.map (some gm)) (.int .i64 k) (.slice A' r.length c')).run Try.prog W = .ok () w2 ∧ ∃ mine' f' ow' n', n' ≤ n + 1 ∧ OR w0 w2 mine' g gm n' f' ow' s (upd ls k r) := by
  subst hn1
  have hr := h.rows k
  rw [hl] at hr
  obtain ⟨b, off, c, e, hc⟩ := str_enc hr (by simp)
  rw [e] at hr
  rw [List.length_cons] at e hr
  obtain ⟨A', c', h1, h2, h3⟩ := cut_q Kd.string (t := 34) (e := 9) Try.underlying34 infoS rfl (some ⟨b, off, none⟩) c (rfl : r.length + 1 = r.length + 1)
  have h4 := VM.lookup h.mp Try.underlying44 (zeroL W) hk
  rw [e] at h4
  exact ⟨b, off, c, A', c', h4, hc, h1, h.maps hk hn h.bel ⟨rfl, rfl, rfl, Nat.le_refl _, fun _ _ _ => rfl⟩ (Kd.Q_mono (Kd.Q_bound (h3 W _ _ t r hr)) (fun b hb => ⟨.inl hb.1.1, by rw [if_neg (by have := hb.2.2.1; omega)]; exact hb.1.2⟩))⟩
/-- The row is let go. -/
theorem OR.none {w0 W : World} {mine : Nat → Prop} {g gm n : Nat} {f : Int → Option Value} {ow : Nat → Int} {s : FS} {ls : Int → List ByteArray} (h : OR w0 W mine g gm n f ow s ls) {k : Int} (hk : (Lit.int .i64 k).wf = true) (hn : n < maxLen) :
    ∃ w2, (Instr.mapUpdate 44 (.map (some gm)) (.int .i64 k) (.slice none 0 0)).run Try.prog W = .ok () w2 ∧ ∃ mine' f' ow' n', n' ≤ n + 1 ∧ OR w0 w2 mine' g gm n' f' ow' s (upd ls k []) :=
  h.maps hk hn h.bel ⟨rfl, rfl, rfl, Nat.le_refl _, fun _ _ _ => rfl⟩ (Kd.Q_nil _ _ _ _ _)
end Go.Proofs.Ytcieopcihbgfdaa.Fq
