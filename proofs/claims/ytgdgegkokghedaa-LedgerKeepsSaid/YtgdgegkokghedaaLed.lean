/- ledger.Ledger: its state, and the contracts of its small functions. -/
import Derived.Test.YtgdgegkokghedaaPLedgerKeepsx
import Derived.Test.YtgdgegkokghedaaPLedgerKeepsx0
import Derived.Test.YtgdgegkokghedaaPLedgerKeepsx1
import Derived.Test.YtgdgegkokghedaaPLedgerKeepsx2
import Derived.Test.YtgdgegkokghedaaPLedgerKeepsx3
import Derived.Test.YtgdgegkokghedaaCalmG
import Derived.Test.YtgdgegkokghedaaRField
import Derived.BigRegion
import Derived.BigQuiet
import Derived.LoopN
import Derived.Laws.EntriesVeiled
namespace Go.Proofs.Ytgdgegkokghedaa.Led
open Go.RowKit Go.Proofs.YtgdgegkokghedaaW.PrintWords Go.Proofs.YtgdgegkokghedaaW.PrintLast Go.Proofs.YtgdgegkokghedaaW.PrintMore Go.Proofs.Ytgdgegkokghedaa.PLedgerKeeps Go.Proofs.Ytgdgegkokghedaa
set_option linter.unusedVariables false
set_option linter.unusedSimpArgs false
attribute [local go_sem] max2_int min2_int max_two min_two
theorem info58_ : (Try.prog.info? 58).map (fun i => (i.zero, i.size, i.bytes)) = some (some (.agg #[.int .i64 0, .int .i64 0, .int .i64 0]), 3, 24) := by kernel_rfl
structure LS where
  fl : List S58
  top : Int
  win : Int
  thr : Int
  mark : Int
  back : Int
def lcells (v : Value) (s : LS) : Array Value := #[v, .int .i64 s.top, .int .i64 s.win, .int .i64 s.thr, .int .i64 s.mark, .int .i64 s.back]
structure LG (B : Nat) (w : World) (g : Nat) (s : LS) (v : Value) : Prop where
  blk : w.heap[g]? = some (.cells (lcells v s) 56 (0, 0))
  row : Kd.R k58 58 w B (fun k => k ≠ g) v s.fl
theorem LG.cells {B : Nat} {w : World} {g : Nat} {s : LS} {v : Value} (h : LG B w g s v) : w.cell? ⟨g, 0, none⟩ = some v ∧ w.cell? ⟨g, 1, none⟩ = some (.int .i64 s.top) ∧ w.cell? ⟨g, 2, none⟩ = some (.int .i64 s.win) ∧ w.cell? ⟨g, 3, none⟩ = some (.int .i64 s.thr) ∧ w.cell? ⟨g, 4, none⟩ = some (.int .i64 s.mark) ∧ w.cell? ⟨g, 5, none⟩ = some (.int .i64 s.back) ∧ ∀ i, w.frozen? ⟨g, i, none⟩ = false :=
  ⟨(blk_cell h.blk 0).trans rfl, (blk_cell h.blk 1).trans rfl, (blk_cell h.blk 2).trans rfl, (blk_cell h.blk 3).trans rfl, (blk_cell h.blk 4).trans rfl, (blk_cell h.blk 5).trans rfl, fun i => blk_frozen h.blk i⟩
/-- What an act leaves. -/
structure LP (w0 W w' : World) (g : Nat) (v v' : Value) (s' : LS) : Prop where
  lg : LG w0.heap.size w' g s' v'
  bel : Below w0.heap.size w0 w'
  keep : KeepBut W w' g v.ownBlock
  own : v'.ownBlock = v.ownBlock ∨ ∃ b, v'.ownBlock = some b ∧ W.heap.size ≤ b
theorem LP.start {w0 W : World} {g : Nat} {v : Value} {s : LS} (h : LG w0.heap.size W g s v) (hB : Below w0.heap.size w0 W) : LP w0 W W g v v s := ⟨h, hB, KeepBut.refl _ _ _, .inl rfl⟩
theorem LP.trans {w0 W w1 w2 : World} {g : Nat} {v v1 v2 : Value} {s1 s2 : LS} (h : LP w0 W w1 g v v1 s1) (k : LP w0 w1 w2 g v1 v2 s2) : LP w0 W w2 g v v2 s2 := by
  refine ⟨k.lg, k.bel, h.keep.trans k.keep h.own, ?_⟩
  rcases k.own with ho | ⟨b, hb, hs⟩
  · rw [ho]; exact h.own
  · exact .inr ⟨b, hb, Nat.le_trans h.keep.1 hs⟩
theorem LP.below {w0 W w1 w2 : World} {g : Nat} {v v1 : Value} {s1 : LS} (h : LP w0 W w1 g v v1 s1) (hb : Below w1.heap.size w1 w2) : LP w0 W w2 g v v1 s1 :=
  ⟨⟨blk_below h.lg.blk hb, Kd.R_below h.lg.row hb⟩, below_step h.bel hb, ⟨Nat.le_trans h.keep.1 hb.size, fun k hk hg hr => (hb.block k (Nat.lt_of_lt_of_le hk h.keep.1)).trans (h.keep.2 k hk hg hr)⟩, h.own⟩
theorem LP.drew {w0 W w1 : World} {g : Nat} {v v1 : Value} {s1 : LS} (h : LP w0 W w1 g v v1 s1) : LP w0 W w1.drew g v v1 s1 := h.below (below_drew1 (Below.refl _ _))
theorem LP.drawn {w0 W w1 w2 : World} {g : Nat} {v v1 : Value} {s1 : LS} (h : LP w0 W w1 g v v1 s1) (hd : Drawn0 w1 w2) : LP w0 W w2 g v v1 s1 := by
  obtain ⟨n, rfl⟩ := hd
  exact h.below (pw_below_drewN (Below.refl _ _) n)
theorem LP.set {w0 W w1 : World} {g : Nat} {v v1 : Value} {s1 : LS} (h : LP w0 W w1 g v v1 s1) (hg : w0.heap.size ≤ g) (i : Nat) (u : Value) (s2 : LS) (he : (lcells v1 s1).setIfInBounds i u = lcells v1 s2) (hf : s2.fl = s1.fl) : LP w0 W (w1.setCell ⟨g, i, none⟩ u) g v v1 s2 :=
  ⟨⟨by have := blk_set h.lg.blk i u; rwa [he] at this, by rw [hf]; exact Kd.R_far h.lg.row (fun k hk => hk) _⟩, below_set h.bel hg, h.keep.set_ i _, h.own⟩
/-- Behind an append to the flight, and its store. -/
theorem LP.appset {w0 W w1 w2 : World} {g : Nat} {v v1 v2 : Value} {s1 : LS} {l2 : List S58} (h : LP w0 W w1 g v v1 s1) (hg : w0.heap.size ≤ g) (hR : Kd.R k58 58 w2 w0.heap.size (fun k => k ≠ g) v2 l2) (hB : Below w0.heap.size w0 w2) (hgr : w1.grownBy w2 v1.ownBlock) (hat : v2.ownBlock = v1.ownBlock ∨ ∃ b, v2.ownBlock = some b ∧ w1.heap.size ≤ b) :
    LP w0 W (w2.setCell ⟨g, 0, none⟩ v2) g v v2 { s1 with fl := l2 } := by
  have b1 : w2.heap[g]? = some (.cells (lcells v1 s1) 56 (0, 0)) := (hgr.block g (blk_lt h.lg.blk) (fun he => h.lg.row.1 g he.symm rfl)).trans h.lg.blk
  refine ⟨⟨blk_set b1 0 v2, Kd.R_far hR (fun k hk => hk) _⟩, below_set hB hg, (h.keep.trans (KeepBut.of_grown hgr g) h.own).set_ 0 _, ?_⟩
  rcases hat with ho | ⟨b, hb, hs⟩
  · rw [ho]; exact h.own
  · exact .inr ⟨b, hb, Nat.le_trans h.keep.1 hs⟩
theorem LP.blk6 {w0 W w1 w2 : World} {g : Nat} {v v1 : Value} {s1 : LS} (h : LP w0 W w1 g v v1 s1) (hgr : w1.grownBy w2 v1.ownBlock) : w2.heap[g]? = some (.cells (lcells v1 s1) 56 (0, 0)) := (hgr.block g (blk_lt h.lg.blk) (fun he => h.lg.row.1 g he.symm rfl)).trans h.lg.blk
theorem LP.cells0 {w0 W w1 w2 : World} {g : Nat} {v v1 : Value} {s1 : LS} (h : LP w0 W w1 g v v1 s1) (hgr : w1.grownBy w2 v1.ownBlock) : w2.cell? ⟨g, 0, none⟩ = some v1 ∧ w2.frozen? ⟨g, 0, none⟩ = false := by
  have b1 : w2.heap[g]? = some (.cells (lcells v1 s1) 56 (0, 0)) := (hgr.block g (blk_lt h.lg.blk) (fun he => h.lg.row.1 g he.symm rfl)).trans h.lg.blk
  exact ⟨(blk_cell b1 0).trans rfl, blk_frozen b1 0⟩
def initL : LS := ⟨[], -1, 12000, 1073741824, -1, 0⟩
set_option maxHeartbeats 8000000 in
set_option maxRecDepth 100000 in
theorem new_c (W : World) : Calls Try.prog 9 #[] W fun e w' => ∃ g, e = .returned (.pointer (some ⟨g, 0, none⟩)) ∧ W.heap.size ≤ g ∧ w'.heap[g]? = some (.cells (lcells (.slice none 0 0) initL) 56 (0, 0)) ∧ Below W.heap.size W w' := by
  go_enter Try.func9, Try.ntmps9
  go_wp2_with (first | ((with_reducible refine gate_dst (N := 2) rfl ?_); refine box_event ?hg (N := 2) ?hd (cs := #[.slice none 0 0, .int .i64 (-1), .int .i64 12000, .int .i64 1073741824, .int .i64 (-1), .int .i64 0]) (t := 56) ?hr ?_; (case hd => rfl); (case hg => rfl); (case hr => first | (go_simp; done) | (go_simp; rfl)); intro gb hgb w1 hbox hb; have HB1 := Aside0.mk hb; have HBX := Aside0.mk hbox; have HGB := Aside0.mk hgb; clear hgb hbox hb))
  go_ret
  exact ⟨gb, rfl, by first | exact HGB.out | exact Nat.le_of_eq HGB.out | exact Nat.le_of_eq HGB.out.symm, HBX.out, HB1.out⟩
theorem lg_new {w0 W : World} {g : Nat} (hb : W.heap[g]? = some (.cells (lcells (.slice none 0 0) initL) 56 (0, 0))) : LG w0.heap.size W g initL (.slice none 0 0) := ⟨hb, Kd.R_nil _ _ _ _ _⟩
set_option maxHeartbeats 8000000 in
set_option maxRecDepth 100000 in
theorem window_c (g B : Nat) (s : LS) (v : Value) (W : World) (h : LG B W g s v) : Calls Try.prog 10 #[.pointer (some ⟨g, 0, none⟩)] W fun e w' => e = .returned (.int .i64 s.win) ∧ Drawn0 W w' := by
  obtain ⟨-, -, c2, -, -, -, -⟩ := h.cells
  clear h
  go_enter Try.func10, Try.ntmps10
  go_wp2_with (fail)
  go_ret
  exact ⟨rfl, by repeat (first | exact Drawn0.refl _ | apply Drawn0.step)⟩
def waitV (b : Int) : Int := 8 * 2 ^ b.toNat
set_option maxHeartbeats 8000000 in
set_option maxRecDepth 100000 in
theorem wait_c (g B : Nat) (s : LS) (v : Value) (W : World) (h : LG B W g s v) (h0 : 0 ≤ s.back) (h6 : s.back ≤ 6) : Calls Try.prog 21 #[.pointer (some ⟨g, 0, none⟩)] W fun e w' => e = .returned (.int .i64 (waitV s.back)) ∧ Drawn0 W w' := by
  obtain ⟨-, -, -, -, -, c5, -⟩ := h.cells
  clear h
  have hb : s.back = 0 ∨ s.back = 1 ∨ s.back = 2 ∨ s.back = 3 ∨ s.back = 4 ∨ s.back = 5 ∨ s.back = 6 := by omega
  clear h0 h6
  rcases hb with hb | hb | hb | hb | hb | hb | hb <;> rw [hb] at c5 ⊢ <;> clear hb <;>
  · go_enter Try.func21, Try.ntmps21
    go_wp2_with (fail)
    go_ret
    exact ⟨rfl, by repeat (first | exact Drawn0.refl _ | apply Drawn0.step)⟩
def growX (win thr z : Int) : Int := if win < thr then win + z else win + Int.tdiv (1200 * z) win
def growW (win thr z : Int) : Int := if 1073741824 < growX win thr z then 1073741824 else growX win thr z
set_option maxHeartbeats 8000000 in
set_option maxRecDepth 100000 in
theorem grow_c (g : Nat) (s : LS) (v v1 : Value) (z : Int) (w0 W w1 : World) (h : LP w0 W w1 g v v1 s) (hg : w0.heap.size ≤ g) (hw0 : 2400 ≤ s.win) (hw1 : s.win ≤ 1073741824) (hz0 : 1 ≤ z) (hz1 : z ≤ 1200) :
    Calls Try.prog 28 #[.pointer (some ⟨g, 0, none⟩), .int .i64 z] w1 fun e w' => e = .returned (.tuple #[]) ∧ LP w0 W w' g v v1 { s with win := growW s.win s.thr z } := by
  obtain ⟨c0, c1, c2, c3, c4, c5, fr⟩ := h.lg.cells
  have HL := Aside0.mk h
  have HG := Aside0.mk hg
  have f2 := fr 2
  obtain ⟨fl, top, win, thr, mark, back⟩ := s
  dsimp only at c0 c1 c2 c3 c4 c5 hw0 hw1
  clear h hg fr c0 c1 c4 c5
  have hq0 : 0 ≤ Int.tdiv (1200 * z) win := Int.tdiv_nonneg (by omega) (by omega)
  have hq1 : Int.tdiv (1200 * z) win ≤ 600 := by
    rw [Int.tdiv_eq_ediv_of_nonneg (by omega)]
    refine Int.le_of_lt_add_one ((Int.ediv_lt_iff_lt_mul (by omega)).2 ?_)
    have : 601 * 2400 ≤ (600 + 1) * win := by omega
    omega
  have hz : (win == 0) = false := beq_eq_false_iff_ne.mpr (by omega)
  have hz' : win ≠ 0 := by omega
  have w1_ : wrap64 (1200 * z) = 1200 * z := by unfold wrap64; omega
  have w1b : IntKind.i64.wrap (1200 * z) = 1200 * z := (i64_w _).trans w1_
  have w2_ : wrap64 (Int.tdiv (1200 * z) win) = Int.tdiv (1200 * z) win := by unfold wrap64; omega
  have w2b : IntKind.i64.wrap (Int.tdiv (1200 * z) win) = Int.tdiv (1200 * z) win := (i64_w _).trans w2_
  have w3_ : wrap64 (win + z) = win + z := by unfold wrap64; omega
  have w3b : IntKind.i64.wrap (win + z) = win + z := (i64_w _).trans w3_
  have w4_ : wrap64 (win + Int.tdiv (1200 * z) win) = win + Int.tdiv (1200 * z) win := by unfold wrap64; omega
  have w4b : IntKind.i64.wrap (win + Int.tdiv (1200 * z) win) = win + Int.tdiv (1200 * z) win := (i64_w _).trans w4_
  by_cases hc : win < thr
  · have C1 : decide (win < thr) = true := decide_eq_true hc
    have hgx : growX win thr z = win + z := by unfold growX; rw [if_pos hc]
    have hgw : (if 1073741824 < win + z then 1073741824 else win + z) = growW win thr z := by unfold growW; rw [hgx]
    obtain ⟨r, hr⟩ : ∃ r, growW win thr z = r := ⟨_, rfl⟩
    rw [hr] at hgw ⊢
    clear hc hgx hq0 hq1 hr
    go_enter Try.func28, Try.ntmps28
    go_wp2_with (fail)
    go_region
    simp only [Exit.then]
    go_wp2_with (fail)
    first | go_end0 | ((try simp only [Exit.inBlock, Exit.then]); refine bodyPost_ret (results_none rfl _ _ _) rfl ?_)
    have h1 := HL.out.set HG.out 2 (.int .i64 (win + z)) ⟨fl, top, win + z, thr, mark, back⟩ rfl rfl
    have h2 := h1.set HG.out 2 (.int .i64 r) ⟨fl, top, r, thr, mark, back⟩ rfl rfl
    exact ⟨rfl, by first | exact h2 | exact h2.drew | exact h2.drew.drew⟩
  · have C1 : decide (win < thr) = false := decide_eq_false hc
    have hgx : growX win thr z = win + Int.tdiv (1200 * z) win := by unfold growX; rw [if_neg hc]
    have hgw : (if 1073741824 < win + Int.tdiv (1200 * z) win then 1073741824 else win + Int.tdiv (1200 * z) win) = growW win thr z := by unfold growW; rw [hgx]
    obtain ⟨r, hr⟩ : ∃ r, growW win thr z = r := ⟨_, rfl⟩
    rw [hr] at hgw ⊢
    clear hc hgx hq0 hq1 hr
    go_enter Try.func28, Try.ntmps28
    go_wp2_with (fail)
    go_region
    simp only [Exit.then]
    go_wp2_with (fail)
    go_region
    simp only [Exit.inBlock, Exit.then]
    go_wp2_with (fail)
    first | go_end0 | ((try simp only [Exit.inBlock, Exit.then]); refine bodyPost_ret (results_none rfl _ _ _) rfl ?_)
    have h1 := HL.out.set HG.out 2 (.int .i64 (win + Int.tdiv (1200 * z) win)) ⟨fl, top, win + Int.tdiv (1200 * z) win, thr, mark, back⟩ rfl rfl
    have h2 := h1.set HG.out 2 (.int .i64 r) ⟨fl, top, r, thr, mark, back⟩ rfl rfl
    exact ⟨rfl, by first | exact h2 | exact h2.drew | exact h2.drew.drew⟩
/-- What lost packets do. -/
def loseS (s : LS) (l : List S58) : LS := if l.length = 0 then s else if (l.getD (l.length - 1) z58).f0 > s.mark then { s with thr := (if 2400 < Int.tdiv s.win 2 then Int.tdiv s.win 2 else 2400), win := (if 2400 < Int.tdiv s.win 2 then Int.tdiv s.win 2 else 2400), mark := s.top } else s
set_option maxHeartbeats 8000000 in
set_option maxRecDepth 100000 in
theorem lose_c (g : Nat) (s : LS) (v v1 : Value) (A1 : Option Addr) (c1 : Nat) (l1 : List S58) (w0 W w1 : World) (h : LP w0 W w1 g v v1 s) (hg : w0.heap.size ≤ g) (hw0 : 0 ≤ s.win) (hw1 : s.win ≤ 1073741824) (hC : Kd.C k58 w1 A1 l1.length l1) (hl : l1.length ≤ 100000) :
    Calls Try.prog 30 #[.pointer (some ⟨g, 0, none⟩), .slice A1 l1.length c1] w1 fun e w' => e = .returned (.tuple #[]) ∧ LP w0 W w' g v v1 (loseS s l1) := by
  obtain ⟨c0, c1_, c2, c3, c4, c5, fr⟩ := h.lg.cells
  have HL := Aside0.mk h
  have HG := Aside0.mk hg
  have f2 := fr 2
  have f3 := fr 3
  have f4 := fr 4
  obtain ⟨fl, top, win, thr, mark, back⟩ := s
  dsimp only at c0 c1_ c2 c3 c4 c5 hw0 hw1
  unfold loseS
  dsimp only
  by_cases hz : l1.length = 0
  · rw [if_pos hz]
    have D1 : decide ((l1.length : Int) > 0) = false := decide_eq_false (by omega)
    have D2 : decide (0 < (l1.length : Int)) = false := decide_eq_false (by omega)
    have D3 : decide (0 < l1.length) = false := decide_eq_false (by omega)
    clear h hg fr hz hC
    go_enter Try.func30, Try.ntmps30
    go_wp2_with (fail)
    go_region
    simp only [Exit.then]
    go_wp2_with (fail)
    first | go_end0 | ((try simp only [Exit.inBlock, Exit.then]); refine bodyPost_ret (results_none rfl _ _ _) rfl ?_)
    exact ⟨rfl, by first | exact HL.out | exact HL.out.drew⟩
  rw [if_neg hz]
  have D1 : decide ((l1.length : Int) > 0) = true := decide_eq_true (by omega)
  have D2 : decide (0 < (l1.length : Int)) = true := decide_eq_true (by omega)
  have D3 : decide (0 < l1.length) = true := decide_eq_true (by omega)
  obtain ⟨m, hm⟩ : ∃ m : Int, (l1.length : Int) - 1 = m := ⟨_, rfl⟩
  have hm3 : wrap64 m = m := by unfold wrap64; omega
  have hm4 : IntKind.i64.wrap m = m := (i64_w _).trans hm3
  have q0 := eq_true (show 0 ≤ m by omega)
  have q1 := eq_true (show m < (l1.length : Int) by omega)
  obtain ⟨ad, hA, x0, x1, x2⟩ := at_T58 hC m (by omega) (by omega)
  rw [show rd_T58 l1 m = l1.getD (l1.length - 1) z58 by unfold rd_T58; rw [show m.toNat = l1.length - 1 by omega]] at x0 x1 x2
  subst hA
  generalize l1.getD (l1.length - 1) z58 = x at x0 x1 x2 ⊢
  obtain ⟨n, at_, z⟩ := x
  dsimp only at x0 x1 x2 ⊢
  clear h hg fr hz hC
  by_cases hn : n > mark
  · rw [if_pos hn]
    have E1 : decide (n > mark) = true := decide_eq_true hn
    have E2 : decide (mark < n) = true := decide_eq_true hn
    have hd0 : 0 ≤ Int.tdiv win 2 := Int.tdiv_nonneg hw0 (by omega)
    have hd1 : Int.tdiv win 2 ≤ 1073741824 := by rw [Int.tdiv_eq_ediv_of_nonneg hw0]; omega
    have w1_ : wrap64 (Int.tdiv win 2) = Int.tdiv win 2 := by unfold wrap64; omega
    have w1b : IntKind.i64.wrap (Int.tdiv win 2) = Int.tdiv win 2 := (i64_w _).trans w1_
    obtain ⟨r, hr⟩ : ∃ r, (if 2400 < Int.tdiv win 2 then Int.tdiv win 2 else 2400) = r := ⟨_, rfl⟩
    rw [hr]
    clear hn hd0 hd1 hw0 hw1
    go_enter Try.func30, Try.ntmps30
    go_wp2_with (fail)
    go_region
    simp only [Exit.then]
    go_wp2_with (fail)
    first | go_end0 | ((try simp only [Exit.inBlock, Exit.then]); refine bodyPost_ret (results_none rfl _ _ _) rfl ?_)
    have h1 := HL.out.set HG.out 3 (.int .i64 r) ⟨fl, top, win, r, mark, back⟩ rfl rfl
    have h2 := h1.set HG.out 2 (.int .i64 r) ⟨fl, top, r, r, mark, back⟩ rfl rfl
    have h3 := h2.set HG.out 4 (.int .i64 top) ⟨fl, top, r, r, top, back⟩ rfl rfl
    exact ⟨rfl, by first | exact h3 | exact h3.drew | exact h3.drew.drew⟩
  · rw [if_neg hn]
    have E1 : decide (n > mark) = false := decide_eq_false hn
    have E2 : decide (mark < n) = false := decide_eq_false hn
    clear hn
    go_enter Try.func30, Try.ntmps30
    go_wp2_with (fail)
    go_region
    simp only [Exit.then]
    go_wp2_with (fail)
    first | go_end0 | ((try simp only [Exit.inBlock, Exit.then]); refine bodyPost_ret (results_none rfl _ _ _) rfl ?_)
    exact ⟨rfl, by first | exact HL.out | exact HL.out.drew⟩
def sentOk (s : LS) (n z : Int) : Prop := s.top < n ∧ n ≤ 4611686018427387903 ∧ 1 ≤ z ∧ z ≤ 1200
set_option maxHeartbeats 8000000 in
set_option maxRecDepth 100000 in
theorem sent_no (g : Nat) (s : LS) (v v1 : Value) (n now z : Int) (w0 W w1 : World) (h : LP w0 W w1 g v v1 s) (hno : ¬ sentOk s n z) :
    Calls Try.prog 11 #[.pointer (some ⟨g, 0, none⟩), .int .i64 n, .int .i64 now, .int .i64 z] w1 fun e w' => e = .returned (.int .i64 2) ∧ LP w0 W w' g v v1 s := by
  obtain ⟨-, c1, -, -, -, -, -⟩ := h.lg.cells
  have HL := Aside0.mk h
  clear h
  unfold sentOk at hno
  have hw : decide (n ≤ s.top) = true ∨ (decide (n ≤ s.top) = false ∧ decide (n > 4611686018427387903) = true ∧ decide (4611686018427387903 < n) = true) ∨ (decide (n ≤ s.top) = false ∧ decide (n > 4611686018427387903) = false ∧ decide (4611686018427387903 < n) = false ∧ decide (z < 1) = true) ∨ (decide (n ≤ s.top) = false ∧ decide (n > 4611686018427387903) = false ∧ decide (4611686018427387903 < n) = false ∧ decide (z < 1) = false ∧ decide (z > 1200) = true ∧ decide (1200 < z) = true) := by
    by_cases a : n ≤ s.top
    · exact .inl (decide_eq_true a)
    by_cases b : n > 4611686018427387903
    · exact .inr (.inl ⟨decide_eq_false a, decide_eq_true b, decide_eq_true b⟩)
    by_cases c : z < 1
    · exact .inr (.inr (.inl ⟨decide_eq_false a, decide_eq_false b, decide_eq_false b, decide_eq_true c⟩))
    · exact .inr (.inr (.inr ⟨decide_eq_false a, decide_eq_false b, decide_eq_false b, decide_eq_false c, decide_eq_true (by omega), decide_eq_true (by omega)⟩))
  clear hno
  rcases hw with D1 | ⟨D1, D2, D3⟩ | ⟨D1, D2, D3, D4⟩ | ⟨D1, D2, D3, D4, D5, D6⟩ <;>
  · go_enter Try.func11, Try.ntmps11
    go_wp2_with (fail)
    go_ret
    exact ⟨rfl, HL.out⟩
set_option maxHeartbeats 8000000 in
set_option maxRecDepth 100000 in
theorem sent_c (g : Nat) (s : LS) (v v1 : Value) (n now z : Int) (w0 W w1 : World) (h : LP w0 W w1 g v v1 s) (hg : w0.heap.size ≤ g) (hok : sentOk s n z) (hl : s.fl.length ≤ 100000) :
    Calls Try.prog 11 #[.pointer (some ⟨g, 0, none⟩), .int .i64 n, .int .i64 now, .int .i64 z] w1 fun e w' => e = .returned (.int .i64 0) ∧ ∃ v2, LP w0 W w' g v v2 { s with fl := s.fl ++ [⟨n, now, z⟩], top := n } := by
  obtain ⟨A, c, rfl⟩ := Kd.R_slice h.lg.row
  obtain ⟨c0, c1, -, -, -, -, fr⟩ := h.lg.cells
  have HL := Aside0.mk h
  have HG := Aside0.mk hg
  obtain ⟨h1, h2, h3, h4⟩ := hok
  have D1 : decide (n ≤ s.top) = false := decide_eq_false (by omega)
  have D2 : decide (n > 4611686018427387903) = false := decide_eq_false (by omega)
  have D3 : decide (4611686018427387903 < n) = false := decide_eq_false (by omega)
  have D4 : decide (z < 1) = false := decide_eq_false (by omega)
  have D5 : decide (z > 1200) = false := decide_eq_false (by omega)
  have D6 : decide (1200 < z) = false := decide_eq_false (by omega)
  obtain ⟨fl, top, win, thr, mark, back⟩ := s
  dsimp only at c0 c1 D1 hl ⊢
  have HN := Aside0.mk hl
  clear h hg hl h1 h2 h3 h4 fr
  go_enter Try.func11, Try.ntmps11
  go_wp2_with (first | ((with_reducible refine gate_builtin (b := .append) (xs := #[.tmp 31, .tmp 36]) rfl ?_); at_builtin; refine Kd.R_append k58 (w0 := w0) w0.heap.size rfl (.tmp 31) (.tmp 36) 54 58 (.agg #[.int .i64 0, .int .i64 0, .int .i64 0]) 24 rfl Try.underlying54 info58_ rfl (by decide) (by omega) (.slice A fl.length c) fl ⟨n, now, z⟩ [.int .i64 n, .int .i64 now, .int .i64 z] (fun k => k ≠ g) (fun _ => False) rfl rfl ?aP (fun _ hk => hk.elim) ?aF HL.out.lg.row HL.out.bel ?aS ?aL ?_; (case aP => exact k58_mkM _ _ _ _); (case aF => exact fun k hk => by have := blk_lt HL.out.lg.blk; omega); (case aS => exact HL.out.bel.size); (case aL => have := HN.out; omega); intro v6 w6 hR6 hB6 hg6 hat; have hc0 := HL.out.cells0 hg6; obtain ⟨cl6, fl6⟩ := hc0; have HLs := Aside0.mk (HL.out.appset HG.out hR6 hB6 hg6 hat); obtain ⟨A6, c6, rfl⟩ := Kd.R_slice hR6; have d1 := (blk_cell (HL.out.blk6 hg6) 1).trans (rfl : _ = some (Value.int .i64 top)); have df1 := blk_frozen (HL.out.blk6 hg6) 1; clear hR6 hB6 hg6 hat))
  go_ret
  have h2 := HLs.out.set HG.out 1 (.int .i64 n) ⟨fl ++ [⟨n, now, z⟩], n, win, thr, mark, back⟩ rfl rfl
  rw [List.length_append] at h2
  exact ⟨rfl, _, by first | exact h2 | exact h2.drew⟩
def sumZ : List S58 → Int
  | [] => 0
  | x :: l => x.f2 + sumZ l
theorem sumZ_app (a b : List S58) : sumZ (a ++ b) = sumZ a + sumZ b := by
  induction a with
  | nil => simp [sumZ]
  | cons x l ih => simp only [List.cons_append, sumZ, ih]; omega
theorem sumZ_range (l : List S58) (h : ∀ x ∈ l, 1 ≤ x.f2 ∧ x.f2 ≤ 1200) : 0 ≤ sumZ l ∧ sumZ l ≤ 1200 * l.length := by
  induction l with
  | nil => simp [sumZ]
  | cons x l ih =>
    have h1 := h x List.mem_cons_self
    have h2 := ih (fun y hy => h y (List.mem_cons_of_mem _ hy))
    simp only [sumZ, List.length_cons]
    omega
theorem take58 (l : List S58) (i : Nat) (h : i < l.length) : l.take (i + 1) = l.take i ++ [l.getD i z58] := by
  rw [List.take_add_one, List.getD_eq_getElem?_getD, List.getElem?_eq_getElem h]
  rfl
theorem crow58 {w : World} {A : Option Addr} {xs : List S58} (h : Kd.C k58 w A xs.length xs) (i : Int) (h0 : 0 ≤ i) (h1 : i < xs.length) : ∃ ad, A = some ad ∧ ∀ W, Below w.heap.size w W → W.cell? (ad.add (i.toNat * 3)) = some (.int .i64 (xs.getD i.toNat z58).f0) ∧ W.cell? ⟨(ad.add (i.toNat * 3)).block, (ad.add (i.toNat * 3)).off + 1, none⟩ = some (.int .i64 (xs.getD i.toNat z58).f1) ∧ W.cell? ⟨(ad.add (i.toNat * 3)).block, (ad.add (i.toNat * 3)).off + 2, none⟩ = some (.int .i64 (xs.getD i.toNat z58).f2) := by
  obtain ⟨ad, e, _⟩ := at_T58 h i h0 h1
  refine ⟨ad, e, fun W hb => ?_⟩
  obtain ⟨ad2, e2, hc⟩ := at_T58 (Kd.C_below h hb) i h0 h1
  obtain rfl : ad = ad2 := Option.some.inj (e.symm.trans e2)
  exact hc
set_option maxHeartbeats 8000000 in
set_option maxRecDepth 100000 in
theorem flight_c (g : Nat) (s : LS) (v v1 : Value) (w0 W w1 : World) (h : LP w0 W w1 g v v1 s) (hl : s.fl.length ≤ 100000) (hz : ∀ x ∈ s.fl, 1 ≤ x.f2 ∧ x.f2 ≤ 1200) :
    Calls Try.prog 19 #[.pointer (some ⟨g, 0, none⟩)] w1 fun e w' => e = .returned (.tuple #[.int .i64 s.fl.length, .int .i64 (sumZ s.fl)]) ∧ LP w0 W w' g v v1 s := by
  obtain ⟨A, c, rfl⟩ := Kd.R_slice h.lg.row
  obtain ⟨c0, -, -, -, -, -, -⟩ := h.lg.cells
  have HL := Aside0.mk h
  have HN := Aside0.mk hl
  have HZ := Aside0.mk hz
  have HC := Aside0.mk (Kd.R_reads' h.lg.row).2.2
  obtain ⟨fl, top, win, thr, mark, back⟩ := s
  dsimp only at c0 hl hz ⊢
  clear h hl hz
  go_enter Try.func19, Try.ntmps19
  go_wp2_with (fail)
  obtain ⟨w2, hw2⟩ : ∃ x, x = w1 := ⟨_, rfl⟩
  subst hw2
  go_loopw [4, 12] (fun v4 v12 wr => ∃ i : Int, v4 = .int .i64 (sumZ (fl.take i.toNat)) ∧ v12 = .int .i64 i ∧ Aside0 (0 ≤ i ∧ i ≤ fl.length) ∧ Aside0 (Below w2.heap.size w2 wr)) (fun _ v12 _ => ((fl.length : Int) - intOf v12).toNat)
  case atStart => exact ⟨0, rfl, rfl, ⟨by omega⟩, ⟨Below.refl _ _⟩⟩
  case round =>
    obtain ⟨i, rfl, rfl, HI, HW⟩ := hrel
    have hi0 := HI.out.1
    by_cases d1 : i < (fl.length : Int)
    · have M1 : decide (i < (fl.length : Int)) = true := decide_eq_true d1
      obtain ⟨ad, hA, rows⟩ := crow58 HC.out i hi0 d1
      subst hA
      have htk := take58 fl i.toNat (by omega)
      have hmem : fl.getD i.toNat z58 ∈ fl := by rw [List.getD_eq_getElem?_getD, List.getElem?_eq_getElem (by omega)]; exact List.getElem_mem _
      have hr1 := HZ.out _ hmem
      have hr2 := sumZ_range (fl.take i.toNat) (fun x hx => HZ.out x (List.mem_of_mem_take hx))
      have hr3 : (fl.take i.toNat).length ≤ 100000 := by rw [List.length_take]; have := HN.out; omega
      obtain ⟨x0, x1, x2⟩ := rows wr HW.out
      have hst : sumZ (fl.take (i + 1).toNat) = sumZ (fl.take i.toNat) + (fl.getD i.toNat z58).f2 := by rw [show (i + 1).toNat = i.toNat + 1 by omega, htk, sumZ_app]; simp [sumZ]
      generalize fl.getD i.toNat z58 = x at x0 x1 x2 hst hr1
      obtain ⟨a, b, z⟩ := x
      dsimp only at x0 x1 x2 hst hr1
      obtain ⟨q, hq⟩ : ∃ q, sumZ (fl.take i.toNat) = q := ⟨_, rfl⟩
      rw [hq] at hst hr2 ⊢
      have p0 := eq_true hi0
      have p1 := eq_true d1
      have hv1 : wrap64 (i + 1) = i + 1 := by have := HN.out; unfold wrap64; omega
      have hv2 : IntKind.i64.wrap (i + 1) = i + 1 := (i64_w _).trans hv1
      have hv3 : wrap64 (q + z) = q + z := by unfold wrap64; omega
      have hv4 : IntKind.i64.wrap (q + z) = q + z := (i64_w _).trans hv3
      have HIX := Aside0.mk (And.intro hi0 (And.intro d1 hst))
      have PB := Aside0.mk (blk_new wr (.cells #[.int .i64 a, .int .i64 b, .int .i64 z] 58))
      clear d1 hi0 htk hmem hr1 hr2 hr3 hst rows hq
      go_wp2_with (fail)
      go_roundw
      case rel => exact ⟨i + 1, by rw [HIX.out.2.2], rfl, ⟨by have := HIX.out; omega⟩, ⟨by first | exact below_alloc HW.out _ | exact below_drew1 (below_alloc HW.out _)⟩⟩
      case measure => have := HIX.out; simp [intOf]; omega
    · have M1 : decide (i < (fl.length : Int)) = false := decide_eq_false d1
      have he : sumZ (fl.take i.toNat) = sumZ fl := by rw [List.take_of_length_le (by have := HI.out; omega)]
      rw [he]
      have hlp := HL.out.below HW.out
      obtain ⟨e0, -, -, -, -, -, -⟩ := hlp.lg.cells
      have HLP := Aside0.mk hlp
      clear d1 hi0 he hlp
      go_wp2_with (fail)
      go_ret2
      exact ⟨rfl, by first | exact HLP.out | exact HLP.out.drew⟩
end Go.Proofs.Ytgdgegkokghedaa.Led
