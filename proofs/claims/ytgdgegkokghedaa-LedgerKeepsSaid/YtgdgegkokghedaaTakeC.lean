/- ledger.Ledger.take. -/
import Derived.Test.YtgdgegkokghedaaDelF
namespace Go.Proofs.Ytgdgegkokghedaa.Led
open Go.RowKit Go.Deep Go.Proofs.YtgdgegkokghedaaW.PrintWords Go.Proofs.YtgdgegkokghedaaW.PrintLast Go.Proofs.YtgdgegkokghedaaW.PrintMore Go.Proofs.Ytgdgegkokghedaa.PLedgerKeeps Go.Proofs.Ytgdgegkokghedaa
set_option linter.unusedVariables false
set_option linter.unusedSimpArgs false
theorem DS.start {w0 W w2 w3 : World} {g b3 b5 : Nat} {v F : Value} {s : LS} (h : LG w0.heap.size W g s v) (hB : Below w0.heap.size w0 W) (hb3 : W.heap.size ≤ b3) (hbox : w2.heap[b3]? = some (.cells #[F] 63 (0, 0))) (hb : Below W.heap.size W w2) (h5 : w2.heap.size ≤ b5) (hw3 : Below w2.heap.size w2 w3) (h5b : w3.heap[b5]? = some (.cells #[.slice none 0 0] 54 (0, 0))) : DS w0 W w3 g b3 b5 v F s.fl [] := by
  have hb' := below_step hb hw3
  have l3 := blk_lt hbox
  exact ⟨Kd.R_below (Kd.R_mono (Kd.R_bound h.row) (fun k hk => ⟨hk.1, hk.2.2.1⟩)) hb', ⟨_, h5b, Kd.R_nil _ _ _ _ _⟩, blk_below hbox hw3, below_step hB hb', ⟨hb'.size, fun k hk _ => hb'.block k hk⟩, hb3, Nat.le_trans hb.size h5, by omega⟩
structure Took (w0 w1 w2 : World) (g : Nat) (v1 v2 : Value) (l : List S58) (vt : Value) : Prop where
  row : Kd.R k58 58 w2 w0.heap.size (fun k => k ≠ g ∧ w1.heap.size ≤ k) vt l
  own : v2.ownBlock = v1.ownBlock
  keep : KeepBut w1 w2 g v1.ownBlock
theorem DS.led {w0 W w3 : World} {g b3 b5 : Nat} {v F : Value} {s : LS} {cur tk : List S58} (h0 : LG w0.heap.size W g s v) (h : DS w0 W w3 g b3 b5 v F cur tk) : w3.heap[g]? = some (.cells (lcells v s) 56 (0, 0)) := (h.ap.2 g (blk_lt h0.blk) (fun he => h0.row.1 g he.symm rfl)).trans h0.blk
theorem DS.done {w0 W w3 : World} {g b3 b5 m n c : Nat} {A : Option Addr} {F : Value} {s : LS} {cur tk l : List S58} (h0 : LG w0.heap.size W g s (.slice A n c)) (h : DS w0 W w3 g b3 b5 (.slice A n c) F cur tk) (hg : w0.heap.size ≤ g) (hm : m ≤ cur.length) (hl : cur.take m = l) {vt : Value} (h5 : w3.heap[b5]? = some (.cells #[vt] 54 (0, 0))) (ht : Kd.R k58 58 w3 w0.heap.size (fun k => W.heap.size ≤ k ∧ k ≠ b5 ∧ k ≠ b3) vt tk) :
    LP w0 W (w3.setCell ⟨g, 0, none⟩ (.slice A m c)) g (.slice A n c) (.slice A m c) { s with fl := l } ∧ (w3.setCell ⟨g, 0, none⟩ (.slice A m c)).heap[b5]? = some (.cells #[vt] 54 (0, 0)) ∧ Took w0 W (w3.setCell ⟨g, 0, none⟩ (.slice A m c)) g (.slice A n c) (.slice A m c) tk vt := by
  have hgW := blk_lt h0.blk
  have hno : some g ≠ (Value.slice A n c).ownBlock := fun he => h0.row.1 g he.symm rfl
  have hown : (Value.slice A m c).ownBlock = (Value.slice A n c).ownBlock := by cases A <;> rfl
  have b1 : w3.heap[g]? = some (.cells (lcells (.slice A n c) s) 56 (0, 0)) := (h.ap.2 g hgW hno).trans h0.blk
  have r1 : Kd.R k58 58 w3 w0.heap.size (fun k => k ≠ g) (.slice A m c) l := by
    rw [← hl]
    exact Kd.R_mono (Kd.R_take h.row hm) (fun k hk => hk.1)
  have kp : KeepBut W (w3.setCell ⟨g, 0, none⟩ (.slice A m c)) g (Value.slice A n c).ownBlock := ⟨by rw [World.size_setCell]; exact h.ap.1, fun k hk hkg hr => (blk_setCell_other _ _ _ _ hkg).trans (h.ap.2 k hk hr)⟩
  have h5' := h.h5
  refine ⟨⟨⟨blk_set b1 0 _, Kd.R_far r1 (fun k hk => hk) _⟩, below_set h.bel hg, kp, .inl hown⟩, (blk_setCell_other _ _ _ _ (by show b5 ≠ g; omega)).trans h5, ⟨Kd.R_mono (Kd.R_far ht (fun k hk => by have := hk.1; show k ≠ g; omega) _) (fun k hk => ⟨by have := hk.1; omega, hk.1⟩), hown, kp⟩⟩
set_option maxHeartbeats 8000000 in
set_option maxRecDepth 100000 in
theorem take_c (w0 w1 : World) (g K : Nat) (caps : Array Value) (p : S58 → Bool) (s : LS) (v : Value) (hp : PredC K caps p v.ownBlock w1) (h : LG w0.heap.size w1 g s v) (hB : Below w0.heap.size w0 w1) (hg : w0.heap.size ≤ g) (hl : s.fl.length ≤ 100000) :
    Calls Try.prog 24 #[.pointer (some ⟨g, 0, none⟩), .func (.func K) #[] caps] w1 fun e w' => ∃ vt v2, e = .returned vt ∧ LP w0 w1 w' g v v2 { s with fl := s.fl.filter (fun x => !p x) } ∧ Took w0 w1 w' g v v2 (s.fl.filter p) vt := by
  obtain ⟨A, c, rfl⟩ := Kd.R_slice h.row
  obtain ⟨c0, -, -, -, -, -, fr⟩ := h.cells
  have f0 := fr 0
  have HL := Aside0.mk h
  have HB := Aside0.mk hB
  have HG := Aside0.mk hg
  have HN := Aside0.mk hl
  have HP := Aside0.mk hp
  have HLT := Aside0.mk (blk_lt h.blk)
  clear h hB hg hl hp fr
  go_enter Try.func24, Try.ntmps24
  go_wp2_with (first | ((with_reducible refine gate_dst (N := 3) rfl ?_); refine box_event ?hg (N := 3) ?hd (cs := [.func (.func K) #[] caps].toArray) (t := 63) ?hr ?_; (case hd => rfl); (case hg => rfl); (case hr => first | (go_simp; done) | (go_simp; rfl)); intro gb hgb w2 hbox hb; have hc0 := (hb.cell HLT.out).trans c0; have hc1 := ((below_alloc (Below.refl w2.heap.size w2) (.cells #[.slice none 0 0] 54)).cell (Nat.lt_of_lt_of_le HLT.out hb.size)).trans hc0; have HB2 := Aside0.mk hb; have HX := Aside0.mk hbox; have HGB := Aside0.mk hgb; clear hgb hbox hb) | (go_at_call 39; (with_reducible refine (del_c w0 w1 _ g gb w2.heap.size K s.fl.length c A caps p s.fl HP.out (DS.start HL.out HB.out (Nat.le_of_eq HGB.out.symm) HX.out HB2.out (Nat.le_refl _) (below_alloc (Below.refl _ _) _) (blk_new _ _)) HB.out.size HN.out).mono ?_); rintro e w3 ⟨m, cur, rfl, hds, hm, hcl⟩; obtain ⟨vt, h5, ht⟩ := hds.tkc; have hled := hds.led HL.out; have y0 := (blk_cell hled 0).trans (rfl : _ = some (Value.slice A s.fl.length c)); have y1 := blk_frozen hled 0; obtain ⟨d1, d2, d3⟩ := hds.done HL.out HG.out hm hcl h5 ht; have y2 := (blk_cell h5 0).trans (rfl : _ = some vt); have y3 := (blk_cell d2 0).trans (rfl : _ = some vt); have hv1 := Kd.R_val ht; have D1 := Aside0.mk d1; have D3 := Aside0.mk d3; clear hds h5 ht hled d1 d2 d3 hm hcl))
  go_ret
  exact ⟨vt, _, rfl, D1.out, D3.out⟩
end Go.Proofs.Ytgdgegkokghedaa.Led
