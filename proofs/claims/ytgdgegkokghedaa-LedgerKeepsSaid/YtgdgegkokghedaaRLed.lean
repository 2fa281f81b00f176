/- Layer 10: the ref's ledger: its state (Led's LS), and its functions but Acked and Expire. gen/mk_rled.py writes this text. -/
import Derived.Test.YtgdgegkokghedaaArg10
namespace Go.Proofs.Ytgdgegkokghedaa.Led
open Go.RowKit Go.Deep Go.Proofs.YtgdgegkokghedaaW.PrintWords Go.Proofs.YtgdgegkokghedaaW.PrintLast Go.Proofs.YtgdgegkokghedaaW.PrintMore Go.Proofs.Ytgdgegkokghedaa.PLedgerKeeps Go.Proofs.Ytgdgegkokghedaa Go.Proofs.Ytgdgegkokghedaa.Walk
set_option linter.unusedVariables false
set_option linter.unusedSimpArgs false
attribute [local go_sem] max2_int min2_int max_two min_two
theorem info69_ : (Try.prog.info? 69).map (fun i => (i.zero, i.size, i.bytes)) = some (some (.agg #[.int .i64 0, .int .i64 0, .int .i64 0]), 3, 24) := by kernel_rfl
structure RG (B : Nat) (w : World) (g : Nat) (s : LS) (v : Value) : Prop where
  blk : w.heap[g]? = some (.cells (lcells v s) 48 (0, 0))
  row : Kd.R k58 69 w B (fun k => k ≠ g) v s.fl
theorem RG.cells {B : Nat} {w : World} {g : Nat} {s : LS} {v : Value} (h : RG B w g s v) : w.cell? ⟨g, 0, none⟩ = some v ∧ w.cell? ⟨g, 1, none⟩ = some (.int .i64 s.top) ∧ w.cell? ⟨g, 2, none⟩ = some (.int .i64 s.win) ∧ w.cell? ⟨g, 3, none⟩ = some (.int .i64 s.thr) ∧ w.cell? ⟨g, 4, none⟩ = some (.int .i64 s.mark) ∧ w.cell? ⟨g, 5, none⟩ = some (.int .i64 s.back) ∧ ∀ i, w.frozen? ⟨g, i, none⟩ = false :=
  ⟨(blk_cell h.blk 0).trans rfl, (blk_cell h.blk 1).trans rfl, (blk_cell h.blk 2).trans rfl, (blk_cell h.blk 3).trans rfl, (blk_cell h.blk 4).trans rfl, (blk_cell h.blk 5).trans rfl, fun i => blk_frozen h.blk i⟩
/-- Whose block the new row is. -/
def RO (W : World) (v v' : Value) : Prop := v'.ownBlock = v.ownBlock ∨ v'.ownBlock = none ∨ ∃ b, v'.ownBlock = some b ∧ W.heap.size ≤ b
theorem keep3 {w w1 w2 : World} {g : Nat} {v v1 : Value} {row : Option Nat} (h : KeepBut w w1 g v.ownBlock) (k : KeepBut w1 w2 g row) (hr : row = v1.ownBlock ∨ row = none) (ho : RO w v v1) : KeepBut w w2 g v.ownBlock :=
  ⟨Nat.le_trans h.1 k.1, fun i hi hg hn => (k.2 i (Nat.lt_of_lt_of_le hi h.1) hg (fun he => by
    rcases hr with e | e
    · rw [e] at he
      rcases ho with e2 | e2 | ⟨b, e2, hb⟩
      · exact hn (he.trans e2)
      · rw [e2] at he; cases he
      · rw [e2] at he; injection he with he; omega
    · rw [e] at he; cases he)).trans (h.2 i hi hg hn)⟩
theorem RO.trans {W w1 : World} {v v1 v2 : Value} (h : RO W v v1) (k : RO w1 v1 v2) (hs : W.heap.size ≤ w1.heap.size) : RO W v v2 := by
  rcases k with ho | ho | ⟨b, hb, hq⟩
  · unfold RO; rw [ho]; exact h
  · exact .inr (.inl ho)
  · exact .inr (.inr ⟨b, hb, Nat.le_trans hs hq⟩)
/-- What an act leaves. -/
structure RP (w0 W w' : World) (g : Nat) (v v' : Value) (s' : LS) : Prop where
  lg : RG w0.heap.size w' g s' v'
  bel : Below w0.heap.size w0 w'
  keep : KeepBut W w' g v.ownBlock
  own : RO W v v'
theorem RP.start {w0 W : World} {g : Nat} {v : Value} {s : LS} (h : RG w0.heap.size W g s v) (hB : Below w0.heap.size w0 W) : RP w0 W W g v v s := ⟨h, hB, KeepBut.refl _ _ _, .inl rfl⟩
theorem RP.trans {w0 W w1 w2 : World} {g : Nat} {v v1 v2 : Value} {s1 s2 : LS} (h : RP w0 W w1 g v v1 s1) (k : RP w0 w1 w2 g v1 v2 s2) : RP w0 W w2 g v v2 s2 :=
  ⟨k.lg, k.bel, keep3 h.keep k.keep (.inl rfl) h.own, h.own.trans k.own h.keep.1⟩
theorem RP.below {w0 W w1 w2 : World} {g : Nat} {v v1 : Value} {s1 : LS} (h : RP w0 W w1 g v v1 s1) (hb : Below w1.heap.size w1 w2) : RP w0 W w2 g v v1 s1 :=
  ⟨⟨blk_below h.lg.blk hb, Kd.R_below h.lg.row hb⟩, below_step h.bel hb, ⟨Nat.le_trans h.keep.1 hb.size, fun k hk hg hr => (hb.block k (Nat.lt_of_lt_of_le hk h.keep.1)).trans (h.keep.2 k hk hg hr)⟩, h.own⟩
theorem RP.drew {w0 W w1 : World} {g : Nat} {v v1 : Value} {s1 : LS} (h : RP w0 W w1 g v v1 s1) : RP w0 W w1.drew g v v1 s1 := h.below (below_drew1 (Below.refl _ _))
theorem RP.drawn {w0 W w1 w2 : World} {g : Nat} {v v1 : Value} {s1 : LS} (h : RP w0 W w1 g v v1 s1) (hd : Drawn0 w1 w2) : RP w0 W w2 g v v1 s1 := by
  obtain ⟨n, rfl⟩ := hd
  exact h.below (pw_below_drewN (Below.refl _ _) n)
theorem RP.set {w0 W w1 : World} {g : Nat} {v v1 : Value} {s1 : LS} (h : RP w0 W w1 g v v1 s1) (hg : w0.heap.size ≤ g) (i : Nat) (u : Value) (s2 : LS) (he : (lcells v1 s1).setIfInBounds i u = lcells v1 s2) (hf : s2.fl = s1.fl) : RP w0 W (w1.setCell ⟨g, i, none⟩ u) g v v1 s2 :=
  ⟨⟨by have := blk_set h.lg.blk i u; rwa [he] at this, by rw [hf]; exact Kd.R_far h.lg.row (fun k hk => hk) _⟩, below_set h.bel hg, h.keep.set_ i _, h.own⟩
/-- Behind an append to the flight, and its store. -/
theorem RP.appset {w0 W w1 w2 : World} {g : Nat} {v v1 v2 : Value} {s1 : LS} {l2 : List S58} (h : RP w0 W w1 g v v1 s1) (hg : w0.heap.size ≤ g) (hR : Kd.R k58 69 w2 w0.heap.size (fun k => k ≠ g) v2 l2) (hB : Below w0.heap.size w0 w2) (hgr : w1.grownBy w2 v1.ownBlock) (hat : v2.ownBlock = v1.ownBlock ∨ ∃ b, v2.ownBlock = some b ∧ w1.heap.size ≤ b) :
    RP w0 W (w2.setCell ⟨g, 0, none⟩ v2) g v v2 { s1 with fl := l2 } := by
  have b1 : w2.heap[g]? = some (.cells (lcells v1 s1) 48 (0, 0)) := (hgr.block g (blk_lt h.lg.blk) (fun he => h.lg.row.1 g he.symm rfl)).trans h.lg.blk
  refine ⟨⟨blk_set b1 0 v2, Kd.R_far hR (fun k hk => hk) _⟩, below_set hB hg, (keep3 h.keep (KeepBut.of_grown hgr g) (.inl rfl) h.own).set_ 0 _, ?_⟩
  rcases hat with ho | ⟨b, hb, hs⟩
  · unfold RO; rw [ho]; exact h.own
  · exact .inr (.inr ⟨b, hb, Nat.le_trans h.keep.1 hs⟩)
theorem RP.blk6 {w0 W w1 w2 : World} {g : Nat} {v v1 : Value} {s1 : LS} (h : RP w0 W w1 g v v1 s1) (hgr : w1.grownBy w2 v1.ownBlock) : w2.heap[g]? = some (.cells (lcells v1 s1) 48 (0, 0)) := (hgr.block g (blk_lt h.lg.blk) (fun he => h.lg.row.1 g he.symm rfl)).trans h.lg.blk
theorem RP.cells0 {w0 W w1 w2 : World} {g : Nat} {v v1 : Value} {s1 : LS} (h : RP w0 W w1 g v v1 s1) (hgr : w1.grownBy w2 v1.ownBlock) : w2.cell? ⟨g, 0, none⟩ = some v1 ∧ w2.frozen? ⟨g, 0, none⟩ = false := by
  have b1 : w2.heap[g]? = some (.cells (lcells v1 s1) 48 (0, 0)) := (hgr.block g (blk_lt h.lg.blk) (fun he => h.lg.row.1 g he.symm rfl)).trans h.lg.blk
  exact ⟨(blk_cell b1 0).trans rfl, blk_frozen b1 0⟩
set_option maxHeartbeats 8000000 in
set_option maxRecDepth 100000 in
theorem rnew_c (W : World) : Calls Try.prog 14 #[] W fun e w' => ∃ g, e = .returned (.pointer (some ⟨g, 0, none⟩)) ∧ W.heap.size ≤ g ∧ w'.heap[g]? = some (.cells (lcells (.slice none 0 0) initL) 48 (0, 0)) ∧ Below W.heap.size W w' := by
  go_enter Try.func14, Try.ntmps14
  go_wp2_with (first | ((with_reducible refine gate_dst (N := 2) rfl ?_); refine box_event ?hg (N := 2) ?hd (cs := #[.slice none 0 0, .int .i64 (-1), .int .i64 12000, .int .i64 1073741824, .int .i64 (-1), .int .i64 0]) (t := 48) ?hr ?_; (case hd => rfl); (case hg => rfl); (case hr => first | (go_simp; done) | (go_simp; rfl)); intro gb hgb w1 hbox hb; have HB1 := Aside0.mk hb; have HBX := Aside0.mk hbox; have HGB := Aside0.mk hgb; clear hgb hbox hb))
  go_ret
  exact ⟨gb, rfl, by first | exact HGB.out | exact Nat.le_of_eq HGB.out | exact Nat.le_of_eq HGB.out.symm, HBX.out, HB1.out⟩
theorem rg_new {w0 W : World} {g : Nat} (hb : W.heap[g]? = some (.cells (lcells (.slice none 0 0) initL) 48 (0, 0))) : RG w0.heap.size W g initL (.slice none 0 0) := ⟨hb, Kd.R_nil _ _ _ _ _⟩
set_option maxHeartbeats 8000000 in
set_option maxRecDepth 100000 in
theorem rwait_c (g B : Nat) (s : LS) (v : Value) (W : World) (h : RG B W g s v) (h0 : 0 ≤ s.back) (h6 : s.back ≤ 6) : Calls Try.prog 22 #[.pointer (some ⟨g, 0, none⟩)] W fun e w' => e = .returned (.int .i64 (waitV s.back)) ∧ Drawn0 W w' := by
  obtain ⟨n, hn⟩ : ∃ n : Nat, s.back = (n : Int) := ⟨s.back.toNat, by omega⟩
  obtain ⟨-, -, -, -, -, c5, -⟩ := h.cells
  rw [hn] at c5 h6 ⊢
  have HN := Aside0.mk h6
  clear h h0 h6 hn
  go_enter Try.func22, Try.ntmps22
  go_wp2_with (fail)
  obtain ⟨w2, hw2⟩ : ∃ x, x = W := ⟨_, rfl⟩
  subst hw2
  go_loopw [3, 4] (fun v3 v4 wr => ∃ i : Nat, v3 = .int .i64 (8 * 2 ^ i) ∧ v4 = .int .i64 (i : Int) ∧ Aside0 (i ≤ n) ∧ wr = w2) (fun _ v4 _ => ((n : Int) - intOf v4).toNat)
  case atStart => exact ⟨0, rfl, rfl, ⟨Nat.zero_le _⟩, rfl⟩
  case round =>
    obtain ⟨i, rfl, rfl, HI, rfl⟩ := hrel
    by_cases d1 : (i : Int) < (n : Int)
    · have M1 : decide ((i : Int) < (n : Int)) = true := decide_eq_true d1
      have M1' : decide (i < n) = true := decide_eq_true (by omega)
      have hw1 : wrap64 ((i : Int) + 1) = ((i + 1 : Nat) : Int) := by have := HN.out; unfold wrap64; omega
      have hw2 : IntKind.i64.wrap ((i : Int) + 1) = ((i + 1 : Nat) : Int) := (i64_w _).trans hw1
      have hp : (8 * 2 ^ (i + 1) : Int) = 2 * (8 * 2 ^ i) := by rw [Int.pow_succ]; omega
      obtain ⟨q, hq⟩ : ∃ q : Int, 8 * 2 ^ i = q := ⟨_, rfl⟩
      have hr : 0 ≤ q ∧ q ≤ 256 := by
        have h5 : i < 6 := by have := HN.out; omega
        have h7 : i = 0 ∨ i = 1 ∨ i = 2 ∨ i = 3 ∨ i = 4 ∨ i = 5 := by omega
        rw [← hq]
        rcases h7 with rfl | rfl | rfl | rfl | rfl | rfl <;> decide
      rw [hq] at hp ⊢
      have hw3 : wrap64 (2 * q) = 2 * q := by unfold wrap64; omega
      have hw4 : IntKind.i64.wrap (2 * q) = 2 * q := (i64_w _).trans hw3
      have HP := Aside0.mk hp
      have HJ := Aside0.mk d1
      clear d1 hp hq hr
      go_wp2_with (fail)
      go_roundw
      case rel => exact ⟨i + 1, by rw [HP.out], by first | rfl | simp, ⟨by have := HJ.out; omega⟩, by first | rfl | trivial⟩
      case measure => have := HJ.out; simp [intOf]; omega
    · have M1 : decide ((i : Int) < (n : Int)) = false := decide_eq_false d1
      have M1' : decide (i < n) = false := decide_eq_false (by omega)
      obtain rfl : i = n := by have := HI.out; omega
      clear d1
      go_wp2_with (fail)
      go_ret
      exact ⟨by unfold waitV; rw [Int.toNat_natCast]; rfl, by repeat (first | exact Drawn0.refl _ | apply Drawn0.step)⟩
set_option maxHeartbeats 8000000 in
set_option maxRecDepth 100000 in
theorem rsent_no (g : Nat) (s : LS) (v v1 : Value) (n now z : Int) (w0 W w1 : World) (h : RP w0 W w1 g v v1 s) (hno : ¬ sentOk s n z) :
    Calls Try.prog 15 #[.pointer (some ⟨g, 0, none⟩), .int .i64 n, .int .i64 now, .int .i64 z] w1 fun e w' => e = .returned (.int .i64 2) ∧ RP w0 W w' g v v1 s := by
  obtain ⟨-, c1, -, -, -, -, -⟩ := h.lg.cells
  have HL := Aside0.mk h
  clear h
  unfold sentOk at hno
  have hw : decide (n < 0) = true ∨ (decide (n < 0) = false ∧ decide (n > 4611686018427387903) = true ∧ decide (4611686018427387903 < n) = true) ∨ (decide (n < 0) = false ∧ decide (n > 4611686018427387903) = false ∧ decide (4611686018427387903 < n) = false ∧ decide (n ≤ s.top) = true) ∨ (decide (n < 0) = false ∧ decide (n > 4611686018427387903) = false ∧ decide (4611686018427387903 < n) = false ∧ decide (n ≤ s.top) = false ∧ decide (z < 1) = true) ∨ (decide (n < 0) = false ∧ decide (n > 4611686018427387903) = false ∧ decide (4611686018427387903 < n) = false ∧ decide (n ≤ s.top) = false ∧ decide (z < 1) = false ∧ decide (z > 1200) = true ∧ decide (1200 < z) = true) := by
    by_cases a0 : n < 0
    · exact .inl (decide_eq_true a0)
    by_cases b : n > 4611686018427387903
    · exact .inr (.inl ⟨decide_eq_false a0, decide_eq_true b, decide_eq_true b⟩)
    by_cases a : n ≤ s.top
    · exact .inr (.inr (.inl ⟨decide_eq_false a0, decide_eq_false b, decide_eq_false b, decide_eq_true a⟩))
    by_cases c : z < 1
    · exact .inr (.inr (.inr (.inl ⟨decide_eq_false a0, decide_eq_false b, decide_eq_false b, decide_eq_false a, decide_eq_true c⟩)))
    · exact .inr (.inr (.inr (.inr ⟨decide_eq_false a0, decide_eq_false b, decide_eq_false b, decide_eq_false a, decide_eq_false c, decide_eq_true (by omega), decide_eq_true (by omega)⟩)))
  clear hno
  rcases hw with D1 | ⟨D1, D2, D3⟩ | ⟨D1, D2, D3, D4⟩ | ⟨D1, D2, D3, D4, D5⟩ | ⟨D1, D2, D3, D4, D5, D6, D7⟩ <;>
  · go_enter Try.func15, Try.ntmps15
    go_wp2_with (fail)
    go_ret
    exact ⟨rfl, HL.out⟩
set_option maxHeartbeats 8000000 in
set_option maxRecDepth 100000 in
theorem rsent_c (g : Nat) (s : LS) (v v1 : Value) (n now z : Int) (w0 W w1 : World) (h : RP w0 W w1 g v v1 s) (hg : w0.heap.size ≤ g) (h0 : -1 ≤ s.top) (hok : sentOk s n z) (hl : s.fl.length ≤ 100000) :
    Calls Try.prog 15 #[.pointer (some ⟨g, 0, none⟩), .int .i64 n, .int .i64 now, .int .i64 z] w1 fun e w' => e = .returned (.int .i64 0) ∧ ∃ v2, RP w0 W w' g v v2 { s with fl := s.fl ++ [⟨n, now, z⟩], top := n } := by
  obtain ⟨A, c, rfl⟩ := Kd.R_slice h.lg.row
  obtain ⟨c0, c1, -, -, -, -, fr⟩ := h.lg.cells
  have HL := Aside0.mk h
  have HG := Aside0.mk hg
  obtain ⟨h1, h2, h3, h4⟩ := hok
  have D0 : decide (n < 0) = false := decide_eq_false (by omega)
  have D1 : decide (n ≤ s.top) = false := decide_eq_false (by omega)
  have D2 : decide (n > 4611686018427387903) = false := decide_eq_false (by omega)
  have D3 : decide (4611686018427387903 < n) = false := decide_eq_false (by omega)
  have D4 : decide (z < 1) = false := decide_eq_false (by omega)
  have D5 : decide (z > 1200) = false := decide_eq_false (by omega)
  have D6 : decide (1200 < z) = false := decide_eq_false (by omega)
  obtain ⟨fl, top, win, thr, mark, back⟩ := s
  dsimp only at c0 c1 D1 hl h0 ⊢
  have HN := Aside0.mk hl
  clear h hg hl h0 h1 h2 h3 h4 fr
  go_enter Try.func15, Try.ntmps15
  go_wp2_with (first | ((with_reducible refine gate_builtin (b := .append) (xs := #[.tmp 35, .tmp 40]) rfl ?_); at_builtin; refine Kd.R_append k58 (w0 := w0) w0.heap.size rfl (.tmp 35) (.tmp 40) 46 69 (.agg #[.int .i64 0, .int .i64 0, .int .i64 0]) 24 rfl Try.underlying46 info69_ rfl (by decide) (by omega) (.slice A fl.length c) fl ⟨n, now, z⟩ [.int .i64 n, .int .i64 now, .int .i64 z] (fun k => k ≠ g) (fun _ => False) rfl rfl ?aP (fun _ hk => hk.elim) ?aF HL.out.lg.row HL.out.bel ?aS ?aL ?_; (case aP => exact k58_mkM _ _ _ _); (case aF => exact fun k hk => by have := blk_lt HL.out.lg.blk; omega); (case aS => exact HL.out.bel.size); (case aL => have := HN.out; omega); intro v6 w6 hR6 hB6 hg6 hat; have hc0 := HL.out.cells0 hg6; obtain ⟨cl6, fl6⟩ := hc0; have HLs := Aside0.mk (HL.out.appset HG.out hR6 hB6 hg6 hat); obtain ⟨A6, c6, rfl⟩ := Kd.R_slice hR6; have d1 := (blk_cell (HL.out.blk6 hg6) 1).trans (rfl : _ = some (Value.int .i64 top)); have df1 := blk_frozen (HL.out.blk6 hg6) 1; clear hR6 hB6 hg6 hat))
  go_ret
  have h2 := HLs.out.set HG.out 1 (.int .i64 n) ⟨fl ++ [⟨n, now, z⟩], n, win, thr, mark, back⟩ rfl rfl
  rw [List.length_append] at h2
  exact ⟨rfl, _, by first | exact h2 | exact h2.drew⟩
/-- A Set that holds the ranges. -/
structure SetAt (w : World) (b : Nat) (A : Option Addr) (c : Nat) (r : List S34) : Prop where
  blk : w.heap[b]? = some (.cells #[.slice A r.length c] 72 (0, 0))
  row : Kd.C k34 w A r.length r
theorem SetAt.below {w w1 : World} {b c : Nat} {A : Option Addr} {r : List S34} (h : SetAt w b A c r) (hb : Below w.heap.size w w1) : SetAt w1 b A c r := ⟨blk_below h.blk hb, Kd.C_below h.row hb⟩
theorem at34 {w : World} {A : Option Addr} {xs : List S34} (h : Kd.C k34 w A xs.length xs) (i : Nat) (h1 : i < xs.length) : ∃ ad, A = some ad ∧ w.cell? (ad.add (i * 2)) = some (.int .i64 (xs.getD i z34).f0) ∧ w.cell? ⟨(ad.add (i * 2)).block, (ad.add (i * 2)).off + 1, none⟩ = some (.int .i64 (xs.getD i z34).f1) := by
  obtain ⟨ad, e, c0, c1⟩ := at_T34 h (i : Int) (by omega) (by omega)
  unfold rd_T34 at c0 c1
  rw [Int.toNat_natCast] at c0 c1
  exact ⟨ad, e, c0, c1⟩
theorem anyR_take (n : Int) (r : List S34) {i : Nat} (hi : i < r.length) : anyR n (r.take (i + 1)) = (anyR n (r.take i) || inR n (r.getD i z34)) := by
  have e : r.getD i z34 = r[i] := by rw [List.getD_eq_getElem?_getD, List.getElem?_eq_getElem hi]; rfl
  rw [e, List.take_succ_eq_append_getElem hi]
  unfold anyR
  rw [List.any_append]
  simp
theorem anyR_hit (n : Int) (r : List S34) {i : Nat} (hi : i < r.length) (h : inR n (r.getD i z34) = true) : anyR n r = true := by
  have e : r.getD i z34 = r[i] := by rw [List.getD_eq_getElem?_getD, List.getElem?_eq_getElem hi]; rfl
  unfold anyR
  rw [List.any_eq_true]
  exact ⟨r[i], List.getElem_mem hi, by rw [← e]; exact h⟩
set_option maxHeartbeats 8000000 in
set_option maxRecDepth 100000 in
theorem has_c (b c : Nat) (A : Option Addr) (r : List S34) (n : Int) (W : World) (h : SetAt W b A c r) (hl : r.length ≤ 100000) :
    Calls Try.prog 36 #[.pointer (some ⟨b, 0, none⟩), .int .i64 n] W fun e w' => e = .returned (.bool (anyR n r)) ∧ Drawn0 W w' := by
  have c0 := (show _ = some (Value.slice A r.length c) from (blk_cell h.blk 0).trans rfl)
  have HS := Aside0.mk h
  have HN := Aside0.mk hl
  clear h hl
  go_enter Try.func36, Try.ntmps36
  go_wp2_with (fail)
  obtain ⟨w2, hw2⟩ : ∃ x, x = W := ⟨_, rfl⟩
  subst hw2
  go_loopw [5] (fun v5 wr => ∃ i : Nat, v5 = .int .i64 (i : Int) ∧ Aside0 (i ≤ r.length) ∧ Aside0 (anyR n (r.take i) = false) ∧ wr = w2) (fun v5 _ => ((r.length : Int) - intOf v5).toNat)
  case atStart => exact ⟨0, rfl, ⟨Nat.zero_le _⟩, ⟨rfl⟩, rfl⟩
  case round =>
    obtain ⟨i, rfl, HI, HF, rfl⟩ := hrel
    by_cases d1 : (i : Int) < (r.length : Int)
    · have M1 : decide ((i : Int) < (r.length : Int)) = true := decide_eq_true d1
      have M1' : decide (i < r.length) = true := decide_eq_true (by omega)
      have n1 : i < r.length := by omega
      have hw1 : wrap64 ((i : Int) + 1) = ((i + 1 : Nat) : Int) := by have := HN.out; unfold wrap64; omega
      have hw2 : IntKind.i64.wrap ((i : Int) + 1) = ((i + 1 : Nat) : Int) := (i64_w _).trans hw1
      obtain ⟨ad, hA, x0, x1⟩ := at34 HS.out.row i n1
      subst hA
      have HT := Aside0.mk (anyR_take n r n1)
      have HH := Aside0.mk (anyR_hit n r n1)
      generalize r.getD i z34 = x at x0 x1 HT HH
      obtain ⟨lo, hi⟩ := x
      dsimp only at x0 x1
      have HJ := Aside0.mk d1
      have p1 := eq_true d1
      have p2 : ((i : Int) < (r.length : Int)) = True := p1
      have p3 := eq_true n1
      clear d1 n1
      by_cases e1 : n ≥ lo
      · have E1 : decide (n ≥ lo) = true := decide_eq_true e1
        have E1' : decide (lo ≤ n) = true := decide_eq_true e1
        by_cases e2 : n ≤ hi
        · have E2 : decide (n ≤ hi) = true := decide_eq_true e2
          have hh : anyR n r = true := HH.out (by unfold inR; simp only [Bool.and_eq_true, decide_eq_true_eq]; exact ⟨e1, e2⟩)
          have HHH := Aside0.mk hh
          clear e1 e2 hh
          go_wp2_with (fail)
          go_ret
          exact ⟨by rw [HHH.out]; rfl, by repeat (first | exact Drawn0.refl _ | apply Drawn0.step)⟩
        · have E2 : decide (n ≤ hi) = false := decide_eq_false e2
          have HQ : Aside0 (anyR n (r.take (i + 1)) = false) := ⟨by rw [HT.out, HF.out]; unfold inR; rw [Bool.false_or]; simp only [Bool.and_eq_false_iff, decide_eq_false_iff_not]; exact .inr e2⟩
          clear e1 e2
          go_wp2_with (fail)
          go_roundw
          case rel => exact ⟨i + 1, by first | rfl | simp, ⟨by have := HJ.out; omega⟩, HQ, by first | rfl | trivial⟩
          case measure => have := HJ.out; simp [intOf]; omega
      · have E1 : decide (n ≥ lo) = false := decide_eq_false e1
        have E1' : decide (lo ≤ n) = false := decide_eq_false e1
        have HQ : Aside0 (anyR n (r.take (i + 1)) = false) := ⟨by rw [HT.out, HF.out]; unfold inR; rw [Bool.false_or]; simp only [Bool.and_eq_false_iff, decide_eq_false_iff_not]; exact .inl e1⟩
        clear e1
        go_wp2_with (fail)
        go_roundw
        case rel => exact ⟨i + 1, by first | rfl | simp, ⟨by have := HJ.out; omega⟩, HQ, by first | rfl | trivial⟩
        case measure => have := HJ.out; simp [intOf]; omega
    · have M1 : decide ((i : Int) < (r.length : Int)) = false := decide_eq_false d1
      have M1' : decide (i < r.length) = false := decide_eq_false (by omega)
      have hh : anyR n r = false := by have h := HF.out; rw [List.take_of_length_le (by omega)] at h; exact h
      have HHH := Aside0.mk hh
      clear d1 hh
      go_wp2_with (fail)
      go_ret
      exact ⟨by rw [HHH.out]; rfl, by repeat (first | exact Drawn0.refl _ | apply Drawn0.step)⟩
/-- What lost numbers do to the window. -/
def loseN (s : LS) (l : List Int) : LS := if l.any (fun n => decide (n > s.mark)) then { s with thr := (if 2400 < Int.tdiv s.win 2 then Int.tdiv s.win 2 else 2400), win := (if 2400 < Int.tdiv s.win 2 then Int.tdiv s.win 2 else 2400), mark := s.top } else s
theorem loseN_hit {s : LS} {l : List Int} {n : Int} (hm : n ∈ l) (h : n > s.mark) : loseN s l = { s with thr := (if 2400 < Int.tdiv s.win 2 then Int.tdiv s.win 2 else 2400), win := (if 2400 < Int.tdiv s.win 2 then Int.tdiv s.win 2 else 2400), mark := s.top } := if_pos (List.any_eq_true.2 ⟨n, hm, decide_eq_true h⟩)
theorem loseN_miss {s : LS} {l : List Int} (h : ∀ n ∈ l, ¬ n > s.mark) : loseN s l = s := if_neg (fun he => by
  obtain ⟨n, hm, hd⟩ := List.any_eq_true.1 he
  exact h n hm (of_decide_eq_true hd))
set_option maxHeartbeats 8000000 in
set_option maxRecDepth 100000 in
theorem rlose_c (g : Nat) (s : LS) (v v1 : Value) (A1 : Option Addr) (c1 : Nat) (l1 : List Int) (w0 W w1 : World) (h : RP w0 W w1 g v v1 s) (hg : w0.heap.size ≤ g) (hw0 : 0 ≤ s.win) (hw1 : s.win ≤ 1073741824) (hC : Kd.C (Kd.int .i64) w1 A1 l1.length l1) (hl : l1.length ≤ 100000) :
    Calls Try.prog 37 #[.pointer (some ⟨g, 0, none⟩), .slice A1 l1.length c1] w1 fun e w' => e = .returned (.tuple #[]) ∧ RP w0 W w' g v v1 (loseN s l1) := by
  have HL := Aside0.mk h
  have HG := Aside0.mk hg
  have HC := Aside0.mk hC
  have HN := Aside0.mk hl
  obtain ⟨fl, top, win, thr, mark, back⟩ := s
  dsimp only at hw0 hw1
  have hd0 : 0 ≤ Int.tdiv win 2 := Int.tdiv_nonneg hw0 (by omega)
  have hd1 : Int.tdiv win 2 ≤ 1073741824 := by rw [Int.tdiv_eq_ediv_of_nonneg hw0]; omega
  have w1_ : wrap64 (Int.tdiv win 2) = Int.tdiv win 2 := by unfold wrap64; omega
  have w1b : IntKind.i64.wrap (Int.tdiv win 2) = Int.tdiv win 2 := (i64_w _).trans w1_
  clear h hg hw0 hw1 hC hl hd0 hd1
  go_enter Try.func37, Try.ntmps37
  go_wp2_with (fail)
  obtain ⟨w2, hw2⟩ : ∃ x, x = w1 := ⟨_, rfl⟩
  subst hw2
  go_loopw [4] (fun v4 wr => ∃ i : Nat, v4 = .int .i64 (i : Int) ∧ Aside0 (i ≤ l1.length) ∧ Aside0 (∀ n ∈ l1.take i, n ≤ mark) ∧ Aside0 (Below w2.heap.size w2 wr)) (fun v4 _ => ((l1.length : Int) - intOf v4).toNat)
  case atStart => exact ⟨0, rfl, ⟨Nat.zero_le _⟩, ⟨fun n hn => by simp at hn⟩, ⟨Below.refl _ _⟩⟩
  case round =>
    obtain ⟨i, rfl, HI, HF, HB⟩ := hrel
    by_cases d1 : (i : Int) < (l1.length : Int)
    · have M1 : decide ((i : Int) < (l1.length : Int)) = true := decide_eq_true d1
      have M1' : decide (i < l1.length) = true := decide_eq_true (by omega)
      have n1 : i < l1.length := by omega
      have hw1 : wrap64 ((i : Int) + 1) = ((i + 1 : Nat) : Int) := by have := HN.out; unfold wrap64; omega
      have hw2 : IntKind.i64.wrap ((i : Int) + 1) = ((i + 1 : Nat) : Int) := (i64_w _).trans hw1
      obtain ⟨ad, hA, rows⟩ := el_int HC.out (i : Int) (by omega) d1
      subst hA
      have x0 := rows wr HB.out
      rw [Int.toNat_natCast] at x0
      have e : l1.getD i 0 = l1[i] := by rw [List.getD_eq_getElem?_getD, List.getElem?_eq_getElem n1]; rfl
      have HM : Aside0 (l1.getD i 0 ∈ l1 ∧ l1.take (i + 1) = l1.take i ++ [l1.getD i 0]) := ⟨by rw [e]; exact List.getElem_mem n1, by rw [e]; exact List.take_succ_eq_append_getElem n1⟩
      generalize l1.getD i 0 = n at x0 HM
      have HD := Aside0.mk (HL.out.below HB.out)
      obtain ⟨c0, c1_, c2, c3, c4, c5, fr⟩ := HD.out.lg.cells
      dsimp only at c0 c1_ c2 c3 c4 c5
      have f2 := fr 2
      have f3 := fr 3
      have f4 := fr 4
      have HJ := Aside0.mk d1
      have p1 := eq_true d1
      have p2 : ((i : Int) < (l1.length : Int)) = True := p1
      have p3 := eq_true n1
      clear d1 n1 e rows fr
      by_cases hn : n > mark
      · have E1 : decide (n > mark) = true := decide_eq_true hn
        have E2 : decide (mark < n) = true := decide_eq_true hn
        have hli := loseN_hit (s := ⟨fl, top, win, thr, mark, back⟩) HM.out.1 hn
        dsimp only at hli
        obtain ⟨r, hr⟩ : ∃ r, (if 2400 < Int.tdiv win 2 then Int.tdiv win 2 else 2400) = r := ⟨_, rfl⟩
        rw [hr] at hli
        have HLI := Aside0.mk hli
        clear hn hli
        go_wp2_with (fail)
        go_region
        simp only [Exit.then]
        go_wp2_with (fail)
        first | go_end0 | ((try simp only [Exit.inBlock, Exit.then]); refine bodyPost_ret (results_none rfl _ _ _) rfl ?_)
        have h1 := HD.out.set HG.out 3 (.int .i64 r) ⟨fl, top, win, r, mark, back⟩ rfl rfl
        have h2 := h1.set HG.out 2 (.int .i64 r) ⟨fl, top, r, r, mark, back⟩ rfl rfl
        have h3 := h2.set HG.out 4 (.int .i64 top) ⟨fl, top, r, r, top, back⟩ rfl rfl
        exact ⟨rfl, by rw [HLI.out]; first | exact h3 | exact h3.drew | exact h3.drew.drew⟩
      · have E1 : decide (n > mark) = false := decide_eq_false hn
        have E2 : decide (mark < n) = false := decide_eq_false hn
        have HQ : Aside0 (∀ k ∈ l1.take (i + 1), k ≤ mark) := ⟨fun k hk => by
          rw [HM.out.2] at hk
          rcases List.mem_append.1 hk with hk | hk
          · exact HF.out k hk
          · rw [List.mem_singleton.1 hk]; exact Int.not_lt.1 hn⟩
        clear hn
        go_wp2_with (fail)
        go_region
        simp only [Exit.then]
        go_wp2_with (fail)
        go_roundw
        case rel => exact ⟨i + 1, by first | rfl | simp, ⟨by have := HJ.out; omega⟩, HQ, ⟨by first | exact HB.out | exact below_drew1 HB.out⟩⟩
        case measure => have := HJ.out; simp [intOf]; omega
    · have M1 : decide ((i : Int) < (l1.length : Int)) = false := decide_eq_false d1
      have M1' : decide (i < l1.length) = false := decide_eq_false (by omega)
      have hli : loseN ⟨fl, top, win, thr, mark, back⟩ l1 = ⟨fl, top, win, thr, mark, back⟩ := loseN_miss (fun n hn => Int.not_lt.2 (HF.out n (by rw [List.take_of_length_le (by omega)]; exact hn)))
      have HLI := Aside0.mk hli
      clear d1 hli
      go_wp2_with (fail)
      first | go_end0 | ((try simp only [Exit.inBlock, Exit.then]); refine bodyPost_ret (results_none rfl _ _ _) rfl ?_)
      exact ⟨rfl, by rw [HLI.out]; first | exact HL.out.below HB.out | exact (HL.out.below HB.out).drew⟩
set_option maxHeartbeats 8000000 in
set_option maxRecDepth 100000 in
theorem rflight_c (g : Nat) (s : LS) (v v1 : Value) (w0 W w1 : World) (h : RP w0 W w1 g v v1 s) (hl : s.fl.length ≤ 100000) (hz : ∀ x ∈ s.fl, 1 ≤ x.f2 ∧ x.f2 ≤ 1200) :
    Calls Try.prog 20 #[.pointer (some ⟨g, 0, none⟩)] w1 fun e w' => e = .returned (.tuple #[.int .i64 s.fl.length, .int .i64 (sumZ s.fl)]) ∧ RP w0 W w' g v v1 s := by
  obtain ⟨A, c, rfl⟩ := Kd.R_slice h.lg.row
  obtain ⟨c0, -, -, -, -, -, -⟩ := h.lg.cells
  have HL := Aside0.mk h
  have HN := Aside0.mk hl
  have HZ := Aside0.mk hz
  have HC := Aside0.mk (Kd.R_reads' h.lg.row).2.2
  obtain ⟨fl, top, win, thr, mark, back⟩ := s
  dsimp only at c0 hl hz ⊢
  clear h hl hz
  go_enter Try.func20, Try.ntmps20
  go_wp2_with (fail)
  obtain ⟨w2, hw2⟩ : ∃ x, x = w1 := ⟨_, rfl⟩
  subst hw2
  go_loopw [4, 5] (fun v4 v12 wr => ∃ i : Int, v4 = .int .i64 (sumZ (fl.take i.toNat)) ∧ v12 = .int .i64 i ∧ Aside0 (0 ≤ i ∧ i ≤ fl.length) ∧ Aside0 (Below w2.heap.size w2 wr)) (fun _ v12 _ => ((fl.length : Int) - intOf v12).toNat)
  case atStart => exact ⟨0, rfl, rfl, ⟨by omega⟩, ⟨Below.refl _ _⟩⟩
  case round =>
    obtain ⟨i, rfl, rfl, HI, HW⟩ := hrel
    have hi0 := HI.out.1
    have HLP := Aside0.mk (HL.out.below HW.out)
    obtain ⟨e0, -, -, -, -, -, -⟩ := HLP.out.lg.cells
    by_cases d1 : i < (fl.length : Int)
    · have M1 : decide (i < (fl.length : Int)) = true := decide_eq_true d1
      obtain ⟨ad, hA, rows⟩ := crow58 HC.out i hi0 d1
      subst hA
      have htk := take58 fl i.toNat (by omega)
      have hmem : fl.getD i.toNat z58 ∈ fl := by rw [List.getD_eq_getElem?_getD, List.getElem?_eq_getElem (by omega)]; exact List.getElem_mem _
      have hr1 := HZ.out _ hmem
      have hr2 := sumZ_range (fl.take i.toNat) (fun x hx => HZ.out x (List.mem_of_mem_take hx))
      have hr3 : (fl.take i.toNat).length ≤ 100000 := by rw [List.length_take]; have := HN.out; omega
      obtain ⟨x0, x1, x2⟩ := rows wr HW.out
      have hst : sumZ (fl.take (i + 1).toNat) = sumZ (fl.take i.toNat) + (fl.getD i.toNat z58).f2 := by rw [show (i + 1).toNat = i.toNat + 1 by omega, htk, sumZ_app]; simp [sumZ]
      generalize fl.getD i.toNat z58 = x at x0 x1 x2 hst hr1
      obtain ⟨a, b, z⟩ := x
      dsimp only at x0 x1 x2 hst hr1
      obtain ⟨q, hq⟩ : ∃ q, sumZ (fl.take i.toNat) = q := ⟨_, rfl⟩
      rw [hq] at hst hr2 ⊢
      have p0 := eq_true hi0
      have p1 := eq_true d1
      have hv1 : wrap64 (i + 1) = i + 1 := by have := HN.out; unfold wrap64; omega
      have hv2 : IntKind.i64.wrap (i + 1) = i + 1 := (i64_w _).trans hv1
      have hv3 : wrap64 (q + z) = q + z := by unfold wrap64; omega
      have hv4 : IntKind.i64.wrap (q + z) = q + z := (i64_w _).trans hv3
      have HIX := Aside0.mk (And.intro hi0 (And.intro d1 hst))
      have PB := Aside0.mk (blk_new wr (.cells #[.int .i64 a, .int .i64 b, .int .i64 z] 69))
      clear d1 hi0 htk hmem hr1 hr2 hr3 hst rows hq
      go_wp2_with (fail)
      go_roundw
      case rel => exact ⟨i + 1, by rw [HIX.out.2.2], rfl, ⟨by have := HIX.out; omega⟩, ⟨by first | exact HW.out | exact below_drew1 HW.out | exact below_alloc HW.out _ | exact below_drew1 (below_alloc HW.out _)⟩⟩
      case measure => have := HIX.out; simp [intOf]; omega
    · have M1 : decide (i < (fl.length : Int)) = false := decide_eq_false d1
      have he : sumZ (fl.take i.toNat) = sumZ fl := by rw [List.take_of_length_le (by have := HI.out; omega)]
      rw [he]
      clear d1 hi0 he
      go_wp2_with (fail)
      go_ret2
      exact ⟨rfl, by first | exact HLP.out | exact HLP.out.drew⟩
end Go.Proofs.Ytgdgegkokghedaa.Led
