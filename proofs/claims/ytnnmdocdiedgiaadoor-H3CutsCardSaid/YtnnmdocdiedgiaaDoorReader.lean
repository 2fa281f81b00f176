/- h3.Reader: its state, and the contracts of its functions. -/
import Derived.Test.YtnnmdocdiedgiaaDoorPairsC
import Derived.BigRegion
import Derived.BigQuiet
import Derived.Laws.EntriesVeiled
namespace Go.Proofs.YtnnmdocdiedgiaaDoor.Reader
open Go.RowKit Go.Proofs.YtnnmdocdiedgiaaDoorW.PrintWords Go.Proofs.YtnnmdocdiedgiaaDoorW.PrintLast Go.Proofs.YtnnmdocdiedgiaaDoorW.PrintMore Go.Proofs.YtnnmdocdiedgiaaDoor.PH3Writes Go.Proofs.YtnnmdocdiedgiaaDoor Go.Proofs.YtnnmdocdiedgiaaDoor.Pure Go.Proofs.YtnnmdocdiedgiaaDoor.Pairs
set_option linter.unusedVariables false
set_option linter.unusedSimpArgs false
attribute [local go_sem] max2_int min2_int max_two min_two
structure S39 where
  f0 : Int
  f1 : ByteArray
def z39 : S39 := ⟨(0 : Int), (⟨#[]⟩ : ByteArray)⟩
def k39 : Kd S39 := Kd.iso (Kd.pair (Kd.int .i64) Kd.string) (fun x : S39 => (x.f0, x.f1))
theorem k39_open {w : World} {x : S39} {cs : List Value} (h : k39.K w x cs) : cs = [.int .i64 x.f0, .string x.f1] := by
  obtain ⟨_, _, rfl, rfl, rfl⟩ := h
  rfl
theorem k39_mkM (w : World) (base : Nat) (ok : Nat → Prop) (x : S39)  : k39.M w base ok x [.int .i64 x.f0, .string x.f1] := ⟨[.int .i64 x.f0], [.string x.f1], rfl, rfl, rfl⟩
theorem info39_ : (Tryd.prog.info? 39).map (fun i => (i.zero, i.size, i.bytes)) = some (some (.agg #[.int .i64 0, .string (⟨#[]⟩ : ByteArray)]), 2, 24) := by kernel_rfl
/-- What comes next. -/
inductive Md | beg | frm | pas
def nextV (g : Nat) : Md → Value
  | .beg => .func (.func 28) #[.pointer (some ⟨g, 0, none⟩)] #[]
  | .frm => .func (.func 27) #[.pointer (some ⟨g, 0, none⟩)] #[]
  | .pas => .func (.func 36) #[.pointer (some ⟨g, 0, none⟩)] #[]
structure RS where
  ctl : Bool
  rest : ByteArray
  first : Bool
  left : Int
  strange : Bool
  code : Int
  md : Md
  begun : Bool
def rcells (g : Nat) (r : RS) : Array Value := #[.bool r.ctl, .string r.rest, .bool r.first, .int .i64 r.left, .bool r.strange, .int .i64 r.code, nextV g r.md, .bool r.begun]
/-- A reader, and the events that were told. -/
structure Lp (w0 W wr : World) (g gl : Nat) (r : RS) (v : Value) (l : List S39) : Prop where
  rb : wr.heap[g]? = some (.cells (rcells g r) 60 (0, 0))
  lb : wr.heap[gl]? = some (.cells #[v] 33 (0, 0))
  rr : Kd.R k39 39 wr w0.heap.size (fun k => k ≠ g ∧ k ≠ gl ∧ W.heap.size ≤ k) v l
  bel : Below w0.heap.size w0 wr
  keep : KeepBut W wr g none
theorem Lp.drewN {w0 W wr w' : World} {g gl : Nat} {r : RS} {v : Value} {l : List S39} (h : Lp w0 W wr g gl r v l) (hd : Drawn0 wr w') : Lp w0 W w' g gl r v l := by
  obtain ⟨n, rfl⟩ := hd
  exact ⟨blk_drewN h.rb n, blk_drewN h.lb n, Kd.R_drewN h.rr n, pw_below_drewN h.bel n, keep_drewN h.keep n⟩
theorem Lp.drew {w0 W wr : World} {g gl : Nat} {r : RS} {v : Value} {l : List S39} (h : Lp w0 W wr g gl r v l) : Lp w0 W wr.drew g gl r v l := ⟨h.rb, h.lb, Kd.R_drew h.rr, below_drew1 h.bel, keep_drew h.keep⟩
theorem Lp.below {w0 W wr w' : World} {g gl : Nat} {r : RS} {v : Value} {l : List S39} (h : Lp w0 W wr g gl r v l) (hb : Below wr.heap.size wr w') : Lp w0 W w' g gl r v l :=
  ⟨blk_below h.rb hb, blk_below h.lb hb, Kd.R_below h.rr hb, below_step h.bel hb, ⟨Nat.le_trans h.keep.1 hb.size, fun k hk hne hr => (hb.block k (Nat.lt_of_lt_of_le hk h.keep.1)).trans (h.keep.2 k hk hne hr)⟩⟩
theorem Lp.set {w0 W wr : World} {g gl : Nat} {r : RS} {v : Value} {l : List S39} (h : Lp w0 W wr g gl r v l) (hg : w0.heap.size ≤ g) (hne : g ≠ gl) (i : Nat) (u : Value) (r2 : RS) (he : (rcells g r).setIfInBounds i u = rcells g r2) : Lp w0 W (wr.setCell ⟨g, i, none⟩ u) g gl r2 v l :=
  ⟨by have := blk_set h.rb i u; rwa [he] at this, blk_far h.lb hne.symm u, Kd.R_far h.rr (fun k hk => hk.1) _, below_set h.bel hg, h.keep.set_ i _⟩
/-- The code of a kind that may not stand here. -/
def plc (ctl first : Bool) (kind : Int) : Int :=
  if kind = 0 then (if ctl || !first then 261 else 0) else if kind = 1 then (if ctl || first then 261 else 0) else if kind = 4 then (if !ctl || first then 261 else 0) else if kind = 7 then (if !ctl then 261 else if !first then 266 else 0) else 0
set_option maxHeartbeats 8000000 in
set_option maxRecDepth 100000 in
theorem place_c (g : Nat) (r : RS) (kind : Int) (W : World) (hb : W.heap[g]? = some (.cells (rcells g r) 60 (0, 0))) :
    Calls Tryd.prog 34 #[.pointer (some ⟨g, 0, none⟩), .int .i64 kind] W fun e w' => e = .returned (.int .i64 (plc r.ctl r.first kind)) ∧ W = w' := by
  obtain ⟨ctl, rest, first, left, strange, code, md, begun⟩ := r
  have c0 : W.cell? ⟨g, 0, none⟩ = some (.bool ctl) := (blk_cell hb 0).trans rfl
  have c2 : W.cell? ⟨g, 2, none⟩ = some (.bool first) := (blk_cell hb 2).trans rfl
  clear hb
  dsimp only
  unfold plc
  by_cases k0 : kind = 0
  · subst k0
    cases ctl <;> cases first <;>
    · go_enter Tryd.func34, Tryd.ntmps34
      go_wp2_with (fail)
      go_ret
      exact ⟨rfl, rfl⟩
  by_cases k1 : kind = 1
  · subst k1
    cases ctl <;> cases first <;>
    · go_enter Tryd.func34, Tryd.ntmps34
      go_wp2_with (fail)
      go_ret
      exact ⟨rfl, rfl⟩
  by_cases k4 : kind = 4
  · subst k4
    cases ctl <;> cases first <;>
    · go_enter Tryd.func34, Tryd.ntmps34
      go_wp2_with (fail)
      go_ret
      exact ⟨rfl, rfl⟩
  by_cases k7 : kind = 7
  · subst k7
    cases ctl <;> cases first <;>
    · go_enter Tryd.func34, Tryd.ntmps34
      go_wp2_with (fail)
      go_ret
      exact ⟨rfl, rfl⟩
  have K0 : (kind == 0) = false := beq_eq_false_iff_ne.mpr k0
  have K1 : (kind == 1) = false := beq_eq_false_iff_ne.mpr k1
  have K4 : (kind == 4) = false := beq_eq_false_iff_ne.mpr k4
  have K7 : (kind == 7) = false := beq_eq_false_iff_ne.mpr k7
  rw [if_neg k0, if_neg k1, if_neg k4, if_neg k7]
  clear k0 k1 k4 k7
  go_enter Tryd.func34, Tryd.ntmps34
  go_wp2_with (fail)
  go_ret
  exact ⟨rfl, rfl⟩
set_option maxHeartbeats 8000000 in
set_option maxRecDepth 100000 in
theorem fail_c (g : Nat) (r : RS) (code : Int) (W : World) (hb : W.heap[g]? = some (.cells (rcells g r) 60 (0, 0))) :
    Calls Tryd.prog 35 #[.pointer (some ⟨g, 0, none⟩), .int .i64 code] W fun e w' => e = .returned (.bool false) ∧ W.setCell ⟨g, 5, none⟩ (.int .i64 code) = w' := by
  have c0 : W.cell? ⟨g, 5, none⟩ = some (.int .i64 r.code) := (blk_cell hb 5).trans rfl
  have f0 := blk_frozen hb 5
  clear hb
  go_enter Tryd.func35, Tryd.ntmps35
  go_wp2_with (fail)
  go_ret
  exact ⟨rfl, rfl⟩
/-- Where bytes may end. -/
def endc (r : RS) : Int := if r.code ≠ 0 then r.code else if (decide (r.rest.size ≠ 0) || (decide (r.left > 0) || !r.begun)) = true then 262 else if (!r.ctl && !r.first) = true then 270 else 0
set_option maxHeartbeats 8000000 in
set_option maxRecDepth 100000 in
theorem end_c (g : Nat) (r : RS) (W : World) (hb : W.heap[g]? = some (.cells (rcells g r) 60 (0, 0))) :
    Calls Tryd.prog 17 #[.pointer (some ⟨g, 0, none⟩)] W fun e w' => e = .returned (.int .i64 (endc r)) ∧ Drawn0 W w' := by
  obtain ⟨ctl, rest, first, left, strange, code, md, begun⟩ := r
  have c0 : W.cell? ⟨g, 0, none⟩ = some (.bool ctl) := (blk_cell hb 0).trans rfl
  have c1 : W.cell? ⟨g, 1, none⟩ = some (.string rest) := (blk_cell hb 1).trans rfl
  have c2 : W.cell? ⟨g, 2, none⟩ = some (.bool first) := (blk_cell hb 2).trans rfl
  have c3 : W.cell? ⟨g, 3, none⟩ = some (.int .i64 left) := (blk_cell hb 3).trans rfl
  have c5 : W.cell? ⟨g, 5, none⟩ = some (.int .i64 code) := (blk_cell hb 5).trans rfl
  have c7 : W.cell? ⟨g, 7, none⟩ = some (.bool begun) := (blk_cell hb 7).trans rfl
  clear hb
  unfold endc
  dsimp only
  by_cases h0 : code = 0
  rotate_left
  · have C0 : (code != 0) = true := bne_iff_ne.mpr h0
    have C0b : (code == 0) = false := beq_eq_false_iff_ne.mpr h0
    rw [if_pos h0]
    clear h0
    go_enter Tryd.func17, Tryd.ntmps17
    go_wp2_with (fail)
    go_ret
    exact ⟨rfl, by repeat (first | exact Drawn0.refl _ | apply Drawn0.step)⟩
  subst h0
  rw [if_neg (by simp)]
  by_cases h1 : rest.size = 0
  rotate_left
  · have C1 : rest.toList.isEmpty = false := nonempty_ h1
    have C1b : (!rest.toList.isEmpty) = true := by rw [C1]; rfl
    rw [if_pos (by simp [h1])]
    clear h1
    go_enter Tryd.func17, Tryd.ntmps17
    go_wp2_with (fail)
    go_ret
    exact ⟨rfl, by repeat (first | exact Drawn0.refl _ | apply Drawn0.step)⟩
  have C1 : rest.toList.isEmpty = true := empty_ h1
  have C1b : (!rest.toList.isEmpty) = false := by rw [C1]; rfl
  by_cases h2 : left > 0
  · have C2 : decide (left > 0) = true := decide_eq_true h2
    have C2b : decide (0 < left) = true := decide_eq_true h2
    rw [if_pos (by simp [show 0 < left from h2])]
    clear h1 h2
    go_enter Tryd.func17, Tryd.ntmps17
    go_wp2_with (fail)
    go_ret
    exact ⟨rfl, by repeat (first | exact Drawn0.refl _ | apply Drawn0.step)⟩
  have C2 : decide (left > 0) = false := decide_eq_false h2
  have C2b : decide (0 < left) = false := decide_eq_false h2
  have hz : decide (rest.size ≠ 0) = false := decide_eq_false (by simpa using h1)
  rw [hz, C2]
  clear h1 h2 hz
  cases begun <;> cases ctl <;> cases first <;>
  · go_enter Tryd.func17, Tryd.ntmps17
    go_wp2_with (fail)
    go_ret
    exact ⟨by simp, by repeat (first | exact Drawn0.refl _ | apply Drawn0.step)⟩
end Go.Proofs.YtnnmdocdiedgiaaDoor.Reader
