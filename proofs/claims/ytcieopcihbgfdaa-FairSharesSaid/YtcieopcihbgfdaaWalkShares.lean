/- The walk of FairShares. gen/mk_shares20.py writes this text. -/
import Derived.Test.YtcieopcihbgfdaaWalkAlone
import Derived.Test.YtcieopcihbgfdaaSh20
namespace Go.Proofs.Ytcieopcihbgfdaa.Walk
open Go.RowKit Go.Proofs.YtcieopcihbgfdaaW.PrintWords Go.Proofs.YtcieopcihbgfdaaW.PrintLast Go.Proofs.YtcieopcihbgfdaaW.PrintMore Go.Proofs.Ytcieopcihbgfdaa.PFairDoes Go.Proofs.Ytcieopcihbgfdaa Go.Proofs.Ytcieopcihbgfdaa.Fair Go.Proofs.Ytcieopcihbgfdaa.Fq
set_option linter.unusedVariables false
set_option linter.unusedSimpArgs false
theorem u_rangeN (y n : Int) (hn : 0 < n) (h : n ≤ 1000) : 0 ≤ Int.tmod (IntKind.u64.wrap y) n ∧ Int.tmod (IntKind.u64.wrap y) n < n := by
  have h0 : 0 ≤ IntKind.u64.wrap y := by
    show 0 ≤ y % 18446744073709551616
    omega
  rw [Int.tmod_eq_emod_of_nonneg h0]
  exact ⟨Int.emod_nonneg _ (by omega), Int.emod_lt_of_pos _ hn⟩
theorem infoB : (Try.prog.info? 5).map (fun i => (i.zero, i.size, i.bytes)) = some (some (.int .u8 0), 1, 1) := by kernel_rfl
def zs (m : Nat) : ByteArray := strOfNums (List.replicate m 0)
theorem zs_size (m : Nat) : (zs m).size = m := by
  unfold zs strOfNums
  simp [ByteArray.size]
theorem zs_make (m : Nat) (hm : m ≤ 1000) : ∀ W : World, (Instr.makeSlice 29 (.int .i64 (m : Int)) (.int .i64 (m : Int))).run Try.prog W = .ok (.slice (some ⟨W.heap.size, 0, none⟩) m m) (W.alloc (.cells (madeCells #[.int .u8 0] m) 5)) :=
  print_make 29 5 .u8 1 Try.underlying29 infoB (by decide) m (by omega)
theorem zs_conv (m : Nat) (hm : m ≤ 1000) : ∀ W : World, (convert 29 9 (.slice (some ⟨W.heap.size, 0, none⟩) m m)).run Try.prog (W.alloc (.cells (madeCells #[.int .u8 0] m) 5)) = .ok (.string (zs m)) (W.alloc (.cells (madeCells #[.int .u8 0] m) 5)) := by
  intro W
  have h := own_made' W 0 5 .u8 m (Nat.zero_le _) (by omega)
  have hR : (Kd.int .u8).R 5 (W.alloc (.cells (madeCells #[.int .u8 0] m) 5)) 0 (fun _ => True) (.slice (some ⟨W.heap.size, 0, none⟩) m m) (List.replicate m (0 : Int)) := Kd.R_of_own h (fun _ _ => trivial)
  have hC := (Kd.R_reads' hR).2.2
  rw [List.length_replicate] at hC
  exact Kd.C_string Try.underlying29 Try.underlying5 Try.underlying9 hC
theorem el_int {w : World} {A : Option Addr} {xs : List Int} {n : Nat} (h : (Kd.int .i64).C w A n xs) (hn : xs.length = n) (i : Nat) (h1 : i < n) : ∃ ad, A = some ad ∧ ∀ W, Below w.heap.size w W → W.cell? (ad.add i) = some (.int .i64 (xs.getD i 0)) := by
  subst hn
  obtain ⟨ad, c, e, _, hK, hc0⟩ := Kd.C_get h 0 (i : Int) (by omega) (by omega)
  refine ⟨ad, e, fun W hb => ?_⟩
  obtain ⟨ad2, c2, e2, _, hK2, hc2⟩ := Kd.C_get (Kd.C_below h hb) 0 (i : Int) (by omega) (by omega)
  obtain rfl : ad = ad2 := Option.some.inj (e.symm.trans e2)
  rw [Int.toNat_natCast] at hK2 hc2
  obtain rfl : c2 = [.int .i64 (xs.getD i 0)] := hK2
  have := hc2 0 _ rfl
  rwa [show i * (Kd.int .i64).sz + 0 = i from by show i * 1 + 0 = _; omega] at this
structure IFacts (i : Nat) : Prop where
  w1 : wrap64 ((i : Int) + 1) = ((i + 1 : Nat) : Int)
  w2 : IntKind.i64.wrap ((i : Int) + 1) = ((i + 1 : Nat) : Int)
theorem if_facts {i : Nat} (h : i ≤ 1000) : IFacts i := by
  have hw : wrap64 ((i : Int) + 1) = ((i + 1 : Nat) : Int) := by unfold wrap64; omega
  exact ⟨hw, (i64_w _).trans hw⟩
structure XFacts (x : Int) (m : Nat) : Prop where
  a1 : wrap64 x = x
  a2 : IntKind.i64.wrap x = x
  a3 : wrap64 (x + 1) = (m : Int)
  a4 : IntKind.i64.wrap (x + 1) = (m : Int)
theorem x_facts {x : Int} {m : Nat} (h0 : 0 ≤ x) (h1 : x < 200) (hm : x + 1 = (m : Int)) : XFacts x m := by
  have h : wrap64 x = x := by unfold wrap64; omega
  have h2 : wrap64 (x + 1) = (m : Int) := by unfold wrap64; omega
  exact ⟨h, (i64_w _).trans h, h2, (i64_w _).trans h2⟩
theorem tmod_nat (i n : Nat) : Int.tmod (i : Int) (n : Int) = ((i % n : Nat) : Int) := by
  rw [Int.tmod_eq_emod_of_nonneg (by omega)]
  rfl
theorem fl_start {q : Int} {w w1 : World} {g : Nat} (hq : 1 ≤ q ∧ q ≤ 500) (h : FA w w1 g ⟨cutV 1000, cutV q, [], false⟩) : FA w w1 g (fl q [] []) := by
  have e1 : cutV q = q := cutV_id (by omega) (by omega)
  have e2 : cutV 1000 = 1000 := by decide
  rw [e1, e2] at h
  exact h
theorem max_facts {L L2 xa xb : Int} {ma mb : Nat} (h : max L (max xa xb) = L2) (ha : 0 ≤ xa ∧ xa < 200) (hb : 0 ≤ xb ∧ xb < 200) (hma : xa + 1 = (ma : Int)) (hmb : xb + 1 = (mb : Int)) (hL : L ≤ 199) : L ≤ L2 ∧ (ma : Int) ≤ L2 + 1 ∧ (mb : Int) ≤ L2 + 1 ∧ L2 ≤ 199 := by
  subst h
  omega
theorem m_plus {L M : Int} (h : L + 1 = M) (hM : 1 ≤ M ∧ M ≤ 200) : wrap64 (L + 1) = M ∧ IntKind.i64.wrap (L + 1) = M := by
  have h1 : wrap64 (L + 1) = M := by unfold wrap64; omega
  exact ⟨h1, (i64_w _).trans h1⟩
/-- What holds while the two are filled. -/
structure Fill (q : Int) (L : Int) (i : Nat) (l1 l2 : List ByteArray) : Prop where
  n1 : l1.length = i
  n2 : l2.length = i
  s1 : ∀ t ∈ l1, (t.size : Int) ≤ L + 1
  s2 : ∀ t ∈ l2, (t.size : Int) ≤ L + 1
  fi : FI (fl q l1 l2)
  L0 : 0 ≤ L
  L1 : L ≤ 199
theorem Fill.step {q L L' : Int} {i : Nat} {l1 l2 : List ByteArray} (h : Fill q L i l1 l2) (hi : i < 300) {m1 m2 : Nat} (hL : L ≤ L') (h1 : (m1 : Int) ≤ L' + 1) (h2 : (m2 : Int) ≤ L' + 1) (hL2 : L' ≤ 199) : Fill q L' (i + 1) (l1 ++ [zs m1]) (l2 ++ [zs m2]) := by
  have z1 := zs_size m1
  have z2 := zs_size m2
  have hn := h.n1
  have hn2 := h.n2
  have := h.L0
  refine ⟨by rw [List.length_append]; simp; omega, by rw [List.length_append]; simp; omega, fun t ht => ?_, fun t ht => ?_, ?_, by omega, hL2⟩
  · rcases List.mem_append.1 ht with ht | ht
    · have := h.s1 t ht; omega
    · rw [List.mem_singleton.1 ht, z1]; exact h1
  · rcases List.mem_append.1 ht with ht | ht
    · have := h.s2 t ht; omega
    · rw [List.mem_singleton.1 ht, z2]; exact h2
  · rw [← (fl_two (q := q) (u := zs m1) (t := zs m2) (by omega) (by omega) (by omega)).2, ← (fl_one (q := q) (l2 := l2) (t := zs m1) (by omega) (by omega) (by omega)).2]
    exact (h.fi.push (by decide)).push (by decide)
theorem Fill.mid {q L : Int} {i : Nat} {l1 l2 : List ByteArray} (h : Fill q L i l1 l2) (hi : i < 300) {m1 : Nat} (h1 : m1 ≤ 200) : FI (fm1 q (l1 ++ [zs m1]) l2) := by
  have z1 := zs_size m1
  have hn := h.n1
  have hn2 := h.n2
  rw [← (fl_one (q := q) (l2 := l2) (t := zs m1) (by omega) (by omega) (by omega)).2]
  exact h.fi.push (by decide)
/-- Queues and two arrays beside them. -/
structure AR (w wr : World) (ga gb g : Nat) (s : FS) (g1 g2 c1 c2 : Int) : Prop where
  fo : FO w wr wr (fun k => w.heap.size ≤ k ∧ k ≠ ga ∧ k ≠ gb) g s
  ba : wr.heap[ga]? = some (.cells #[.int .i64 0, .int .i64 g1, .int .i64 g2] 30 (0, 0))
  bb : wr.heap[gb]? = some (.cells #[.int .i64 0, .int .i64 c1, .int .i64 c2] 30 (0, 0))
  ne : ga ≠ gb
  ha : w.heap.size ≤ ga
  hb : w.heap.size ≤ gb
theorem AR.start {w wr : World} {g : Nat} {s : FS} (h : FA w wr g s) : AR w ((wr.alloc (.cells #[.int .i64 0, .int .i64 0, .int .i64 0] 30)).alloc (.cells #[.int .i64 0, .int .i64 0, .int .i64 0] 30)) wr.heap.size (wr.heap.size + 1) g s 0 0 0 0 := by
  have hs := h.bel.size
  have hb : Below wr.heap.size wr ((wr.alloc (.cells #[.int .i64 0, .int .i64 0, .int .i64 0] 30)).alloc (.cells #[.int .i64 0, .int .i64 0, .int .i64 0] 30)) := below_alloc (below_alloc (Below.refl _ _) _) _
  have h1 : FO w wr wr (fun k => w.heap.size ≤ k ∧ k ≠ wr.heap.size ∧ k ≠ wr.heap.size + 1) g s := FO.again2 h (fun k hk hlt => ⟨hk, by omega, by omega⟩) (fun k hk hlt => by omega)
  have e1 : (wr.alloc (.cells #[.int .i64 0, .int .i64 0, .int .i64 0] 30)).heap.size = wr.heap.size + 1 := by simp
  refine ⟨FO.other h1 (below_step h1.bel hb) (fun k _ hlt => hb.block k hlt), ?_, ?_, by omega, hs, by omega⟩
  · have h2 := blk_new wr (.cells #[.int .i64 0, .int .i64 0, .int .i64 0] 30)
    exact (Below.heap_alloc _ _ _ (by rw [e1]; omega)).trans h2
  · have h2 := blk_new (wr.alloc (.cells #[.int .i64 0, .int .i64 0, .int .i64 0] 30)) (.cells #[.int .i64 0, .int .i64 0, .int .i64 0] 30)
    rw [e1] at h2
    exact h2
theorem AR.cells {w wr : World} {ga gb g : Nat} {s : FS} {g1 g2 c1 c2 : Int} (h : AR w wr ga gb g s g1 g2 c1 c2) : wr.cell? ⟨ga, 0, none⟩ = some (.int .i64 0) ∧ wr.cell? ⟨ga, 1, none⟩ = some (.int .i64 g1) ∧ wr.cell? ⟨ga, 2, none⟩ = some (.int .i64 g2) ∧ wr.cell? ⟨gb, 0, none⟩ = some (.int .i64 0) ∧ wr.cell? ⟨gb, 1, none⟩ = some (.int .i64 c1) ∧ wr.cell? ⟨gb, 2, none⟩ = some (.int .i64 c2) ∧ wr.frozen? ⟨ga, 1, none⟩ = false ∧ wr.frozen? ⟨ga, 2, none⟩ = false ∧ wr.frozen? ⟨gb, 1, none⟩ = false ∧ wr.frozen? ⟨gb, 2, none⟩ = false :=
  ⟨(blk_cell h.ba 0).trans rfl, (blk_cell h.ba 1).trans rfl, (blk_cell h.ba 2).trans rfl, (blk_cell h.bb 0).trans rfl, (blk_cell h.bb 1).trans rfl, (blk_cell h.bb 2).trans rfl, blk_frozen h.ba 1, blk_frozen h.ba 2, blk_frozen h.bb 1, blk_frozen h.bb 2⟩
theorem AR.setA {w wr : World} {ga gb g : Nat} {s : FS} {g1 g2 c1 c2 : Int} (h : AR w wr ga gb g s g1 g2 c1 c2) (j : Nat) (v : Int) {h1 h2 : Int} (hj : (#[.int .i64 0, .int .i64 g1, .int .i64 g2] : Array Value).setIfInBounds j (.int .i64 v) = #[.int .i64 0, .int .i64 h1, .int .i64 h2]) : AR w (wr.setCell ⟨ga, j, none⟩ (.int .i64 v)) ga gb g s h1 h2 c1 c2 := by
  have hh : ∀ k, k ≠ ga → (wr.setCell ⟨ga, j, none⟩ (.int .i64 v)).heap[k]? = wr.heap[k]? := fun k hk => Below.heap_setCell wr _ _ k hk
  refine ⟨FO.other h.fo (below_set h.fo.bel h.ha) (fun k hk _ => hh k hk.2.1), ?_, (hh gb (fun e => h.ne e.symm)).trans h.bb, h.ne, h.ha, h.hb⟩
  have := blk_set h.ba j (.int .i64 v)
  rw [hj] at this
  exact this
theorem AR.setB {w wr : World} {ga gb g : Nat} {s : FS} {g1 g2 c1 c2 : Int} (h : AR w wr ga gb g s g1 g2 c1 c2) (j : Nat) (v : Int) {h1 h2 : Int} (hj : (#[.int .i64 0, .int .i64 c1, .int .i64 c2] : Array Value).setIfInBounds j (.int .i64 v) = #[.int .i64 0, .int .i64 h1, .int .i64 h2]) : AR w (wr.setCell ⟨gb, j, none⟩ (.int .i64 v)) ga gb g s g1 g2 h1 h2 := by
  have hh : ∀ k, k ≠ gb → (wr.setCell ⟨gb, j, none⟩ (.int .i64 v)).heap[k]? = wr.heap[k]? := fun k hk => Below.heap_setCell wr _ _ k hk
  refine ⟨FO.other h.fo (below_set h.fo.bel h.hb) (fun k hk _ => hh k hk.2.2), (hh ga h.ne).trans h.ba, ?_, h.ne, h.ha, h.hb⟩
  have := blk_set h.bb j (.int .i64 v)
  rw [hj] at this
  exact this
theorem next_r {w W : World} {ga gb g : Nat} {s s' : FS} {g1 g2 c1 c2 : Int} {i : Int} {t : ByteArray} {b : Bool} (h : AR w W ga gb g s g1 g2 c1 c2) (hi : FI s) (hl : s.st.length ≤ 100000) (hn : nextV s = ((i, t, b), s')) :
    Calls Try.prog 11 #[.pointer (some ⟨g, 0, none⟩)] W fun e w' => e = .returned (.tuple #[.int .i64 i, .string t, .bool b]) ∧ AR w w' ga gb g s' g1 g2 c1 c2 := by
  refine (next_c g s _ w W h.fo hi hl).mono ?_
  rintro e w1 ⟨rfl, h1⟩
  rw [hn] at h1 ⊢
  have hs := h.fo.bel.size
  have la := blk_lt h.ba
  have lb := blk_lt h.bb
  refine ⟨rfl, FO.again2 h1 (fun k hk _ => hk) (fun k hk _ => ⟨by omega, by omega, by omega⟩), ?_, ?_, h.ne, h.ha, h.hb⟩
  · exact (h1.keep.2 ga la (fun hk => hk.2.1 rfl)).trans h.ba
  · exact (h1.keep.2 gb lb (fun hk => hk.2.2 rfl)).trans h.bb
theorem sh_less {M q : Int} {gf cf : Int → Int} {s : FS} (h : Sh M q gf cf s) : cf 1 < 300 ∧ cf 2 < 300 := by
  obtain ⟨x, y, hs, hid, rfl, h1, h2, h3, h4, h5, h6, h7, h8, h9, h10, h11⟩ := h.two
  rcases hid with ⟨i1, i2⟩ | ⟨i1, i2⟩
  · rw [i1] at h10; rw [i2] at h11; omega
  · rw [i1] at h10; rw [i2] at h11; omega
theorem two_ways {M q : Int} {gf cf : Int → Int} {s : FS} (hi : FI s) (h : Sh M q gf cf s) : ∃ id t s', nextV s = ((id, t, true), s') ∧ FI s' ∧ (t.size : Int) ≤ M ∧ ((id = 1 ∧ (cf 1 + 1 = 300 ∨ ∃ gf' cf', gf' 1 = gf 1 + (t.size : Int) ∧ gf' 2 = gf 2 ∧ cf' 1 = cf 1 + 1 ∧ cf' 2 = cf 2 ∧ Sh M q gf' cf' s')) ∨ (id = 2 ∧ (cf 2 + 1 = 300 ∨ ∃ gf' cf', gf' 1 = gf 1 ∧ gf' 2 = gf 2 + (t.size : Int) ∧ cf' 1 = cf 1 ∧ cf' 2 = cf 2 + 1 ∧ Sh M q gf' cf' s'))) := by
  have hs := shares (got hi) _ _ _ _ h hi
  have hf := hi.next
  obtain ⟨⟨⟨id, t, b⟩, s'⟩, hn⟩ : ∃ y, nextV s = y := ⟨_, rfl⟩
  rw [hn] at hs hf
  dsimp only at hs hf
  obtain ⟨rfl, hid, ht, hw⟩ := hs
  refine ⟨id, t, s', hn, hf, ht, ?_⟩
  rcases hid with rfl | rfl
  · exact .inl ⟨rfl, hw.elim .inl (fun h => .inr ⟨_, _, upd_same _ _ _, upd_other _ _ (by decide), upd_same _ _ _, upd_other _ _ (by decide), h⟩)⟩
  · exact .inr ⟨rfl, hw.elim .inl (fun h => .inr ⟨_, _, upd_other _ _ (by decide), upd_same _ _ _, upd_other _ _ (by decide), upd_same _ _ _, h⟩)⟩
theorem g_facts {g1 G c1 C M : Int} {t : ByteArray} {i : Nat} (hG : g1 + (t.size : Int) = G) (hC : c1 + 1 = C) (hg : 0 ≤ g1 ∧ g1 ≤ 200 * i) (ht : (t.size : Int) ≤ M) (hM : 1 ≤ M ∧ M ≤ 200) (hi : i < 400) (hc : 0 ≤ c1) (hc2 : c1 < 300) : wrap64 (g1 + (t.size : Int)) = G ∧ IntKind.i64.wrap (g1 + (t.size : Int)) = G ∧ wrap64 (c1 + 1) = C ∧ IntKind.i64.wrap (c1 + 1) = C ∧ (0 ≤ G ∧ G ≤ 200 * ((i + 1 : Nat) : Int)) ∧ 0 ≤ C := by
  subst hG; subst hC
  have h1 : wrap64 (g1 + (t.size : Int)) = g1 + (t.size : Int) := by unfold wrap64; omega
  have h2 : wrap64 (c1 + 1) = c1 + 1 := by unfold wrap64; omega
  exact ⟨h1, (i64_w _).trans h1, h2, (i64_w _).trans h2, ⟨by omega, by omega⟩, by omega⟩
theorem share_facts {a b k M : Int} (h : a - b ≤ 2 * (k + M) ∧ -(a - b) ≤ 2 * (k + M)) (hk : 1 ≤ k ∧ k ≤ 500) (hM : 1 ≤ M ∧ M ≤ 200) : ∃ D KM T2 ND : Int, wrap64 (a - b) = D ∧ IntKind.i64.wrap (a - b) = D ∧ wrap64 (k + M) = KM ∧ IntKind.i64.wrap (k + M) = KM ∧ wrap64 (2 * KM) = T2 ∧ IntKind.i64.wrap (2 * KM) = T2 ∧ wrap64 (-D) = ND ∧ IntKind.i64.wrap (-D) = ND ∧ decide (D > T2) = false ∧ decide (T2 < D) = false ∧ decide (ND > T2) = false ∧ decide (T2 < ND) = false := by
  have h1 : wrap64 (a - b) = a - b := by unfold wrap64; omega
  have h2 : wrap64 (k + M) = k + M := by unfold wrap64; omega
  have h3 : wrap64 (2 * (k + M)) = 2 * (k + M) := by unfold wrap64; omega
  have h4 : wrap64 (-(a - b)) = -(a - b) := by unfold wrap64; omega
  exact ⟨_, _, _, _, h1, (i64_w _).trans h1, h2, (i64_w _).trans h2, h3, (i64_w _).trans h3, h4, (i64_w _).trans h4, decide_eq_false (by omega), decide_eq_false (by omega), decide_eq_false (by omega), decide_eq_false (by omega)⟩
set_option maxHeartbeats 8000000 in
set_option maxRecDepth 100000 in
theorem fairShares_walk {P1 P2 : Prop} (a0 : Int) (A : Option Addr) (cap : Nat) (xs : List Int) (A2 : Option Addr) (cap2 : Nat) (ys : List Int) (a3 : Int) (w : World) (hr : (Kd.int .i64).C w A xs.length xs) (hc : xs.length ≤ cap) (hr2 : (Kd.int .i64).C w A2 ys.length ys) (hc2 : ys.length ≤ cap2) (G0 : (Lit.int .i64 a0).wf = true) (G1 : P1) (G2 : P2) (G3 : (Lit.int .i64 a3).wf = true) :
    Calls Try.prog 3 #[.int .i64 a0, .slice A xs.length cap, .slice A2 ys.length cap2, .int .i64 a3] w fun e w' => e = .returned (.bool true) ∧ Below w.heap.size w w' := by
  have HR := Aside0.mk hr
  have HR2 := Aside0.mk hr2
  have hz := u_rangeN a0 500 (by decide) (by decide)
  clear hr hc hr2 hc2 G0 G1 G2 G3
  obtain ⟨q, hq, hz⟩ : ∃ q, IntKind.u64.wrap a0 = q ∧ (0 ≤ Int.tmod q 500 ∧ Int.tmod q 500 < 500) := ⟨_, rfl, hz⟩
  obtain ⟨m, hm, hz⟩ : ∃ m, Int.tmod q 500 = m ∧ (0 ≤ m ∧ m < 500) := ⟨_, rfl, hz⟩
  obtain ⟨m1, m2, m3, m4⟩ := m_facts hz.1 (show m < 1000 by omega)
  obtain ⟨k, hk, hkb⟩ : ∃ k : Int, (((m + 1).toNat : Nat) : Int) = k ∧ (1 ≤ k ∧ k ≤ 500) := ⟨_, rfl, by clear m1 m2 m3 m4 hm hq; omega⟩
  have HK := Aside0.mk hkb
  rw [hk] at m3 m4
  clear hz hk hkb
  obtain ⟨na, hna⟩ : ∃ n, xs.length = n := ⟨_, rfl⟩
  obtain ⟨nb, hnb⟩ : ∃ n, ys.length = n := ⟨_, rfl⟩
  rw [hna, hnb]
  rw [hna] at HR
  rw [hnb] at HR2
  have HNA := Aside0.mk hna
  have HNB := Aside0.mk hnb
  clear hna hnb
  by_cases hx0 : na = 0
  · have z1 : ((na : Int) == 0) = true := by rw [hx0]; rfl
    have z2 : (na == 0) = true := by rw [hx0]; rfl
    clear hx0
    go_enter Try.func3, Try.ntmps3
    go_wp2_with (first | (go_at_call 8; (with_reducible refine (works_c _).mono ?_); rintro e_ w0 ⟨rfl, hb⟩; have HB0 := Aside0.mk hb; clear hb) | (go_at_call 9; (with_reducible refine (new_a 1000 _ w w0 HB0.out).mono ?_); rintro e_ w1 ⟨g, rfl, h_⟩; have H1 := Aside0.mk (fl_start HK.out h_); clear h_))
    go_ret
    exact ⟨rfl, HB0.out⟩
  have z1 : ((na : Int) == 0) = false := beq_eq_false_iff_ne.2 (by omega)
  have z2 : (na == 0) = false := beq_eq_false_iff_ne.2 (by omega)
  have z1a : (na = 0) = False := eq_false hx0
  have z1b : ((na : Int) = 0) = False := eq_false (by omega)
  have HX0 := Aside0.mk hx0
  by_cases hy0 : nb = 0
  · have z3 : ((nb : Int) == 0) = true := by rw [hy0]; rfl
    have z4 : (nb == 0) = true := by rw [hy0]; rfl
    clear hx0 hy0
    go_enter Try.func3, Try.ntmps3
    go_wp2_with (first | (go_at_call 8; (with_reducible refine (works_c _).mono ?_); rintro e_ w0 ⟨rfl, hb⟩; have HB0 := Aside0.mk hb; clear hb) | (go_at_call 9; (with_reducible refine (new_a 1000 _ w w0 HB0.out).mono ?_); rintro e_ w1 ⟨g, rfl, h_⟩; have H1 := Aside0.mk (fl_start HK.out h_); clear h_))
    go_ret
    exact ⟨rfl, HB0.out⟩
  have z3 : ((nb : Int) == 0) = false := beq_eq_false_iff_ne.2 (by omega)
  have z4 : (nb == 0) = false := beq_eq_false_iff_ne.2 (by omega)
  have z3a : (nb = 0) = False := eq_false hy0
  have z3b : ((nb : Int) = 0) = False := eq_false (by omega)
  have HY0 := Aside0.mk hy0
  clear hx0 hy0
  go_enter Try.func3, Try.ntmps3
  go_wp2_with (first | (go_at_call 8; (with_reducible refine (works_c _).mono ?_); rintro e_ w0 ⟨rfl, hb⟩; have HB0 := Aside0.mk hb; clear hb) | (go_at_call 9; (with_reducible refine (new_a 1000 _ w w0 HB0.out).mono ?_); rintro e_ w1 ⟨g, rfl, h_⟩; have H1 := Aside0.mk (fl_start HK.out h_); clear h_))
  clear m1 m2 m3 m4 hq hm
  have HF0 := Aside0.mk (show Fill k 0 0 [] [] from ⟨rfl, rfl, (fun t h => by cases h), (fun t h => by cases h), fi_new (by decide) (by decide) HK.out.1 (by have := HK.out; omega), by decide, by decide⟩)
  go_loopw [10, 11] (fun v10 v11 wr => ∃ (L : Int) (i : Nat) (l1 l2 : List ByteArray), v10 = .int .i64 L ∧ v11 = .int .i64 (i : Int) ∧ Aside0 (i ≤ 300) ∧ Aside0 (FA w wr g (fl k l1 l2)) ∧ Aside0 (Fill k L i l1 l2)) (fun _ v11 _ => (300 - intOf v11).toNat)
  case atStart => exact ⟨0, 0, [], [], rfl, rfl, ⟨by omega⟩, H1, HF0⟩
  case round =>
    clear H1 HB0 HF0
    obtain ⟨L, i, l1, l2, rfl, rfl, HIK, HA, HFL⟩ := hrel
    by_cases d1 : i < 300
    · have S1 : decide ((i : Int) < 300) = true := decide_eq_true (by omega)
      have S2 : decide (i < 300) = true := decide_eq_true d1
      have HD := Aside0.mk d1
      obtain ⟨i1, i2⟩ := if_facts (show i ≤ 1000 by omega)
      have t1 := tmod_nat i na
      have t2 := tmod_nat i nb
      have j1 := Nat.mod_lt i (show 0 < na by have := HX0.out; omega)
      have j2 := Nat.mod_lt i (show 0 < nb by have := HY0.out; omega)
      generalize i % na = ia at t1 j1
      generalize i % nb = ib at t2 j2
      obtain ⟨ad, hA, rows⟩ := el_int HR.out HNA.out ia j1
      subst hA
      obtain ⟨ad2, hA2, rows2⟩ := el_int HR2.out HNB.out ib j2
      subst hA2
      have x0 := rows wr HA.out.bel
      have x1 := rows2 wr HA.out.bel
      have e1 : (ia < na) = True := eq_true j1
      have e2 : (ib < nb) = True := eq_true j2
      have e3 : ((ia : Int) < (na : Int)) = True := eq_true (by omega)
      have e4 : ((ib : Int) < (nb : Int)) = True := eq_true (by omega)
      generalize xs.getD ia 0 = y1 at x0
      generalize ys.getD ib 0 = y2 at x1
      clear d1 rows rows2 j1 j2
      have hz := u_rangeN y1 200 (by decide) (by decide)
      obtain ⟨qa, hqa, hz⟩ : ∃ q, IntKind.u64.wrap y1 = q ∧ (0 ≤ Int.tmod q 200 ∧ Int.tmod q 200 < 200) := ⟨_, rfl, hz⟩
      obtain ⟨xa, hxa, hz⟩ : ∃ m, Int.tmod qa 200 = m ∧ (0 ≤ m ∧ m < 200) := ⟨_, rfl, hz⟩
      obtain ⟨ma, hma⟩ : ∃ m : Nat, xa + 1 = (m : Int) := ⟨(xa + 1).toNat, by clear hxa hqa; omega⟩
      have HXA := Aside0.mk hz
      have HMA := Aside0.mk hma
      have hxf := x_facts hz.1 hz.2 hma
      have HSA := Aside0.mk (show ma ≤ 200 by clear hxf hxa hqa; omega)
      have mkA := zs_make ma (by have := HSA.out; omega)
      have cvA := zs_conv ma (by have := HSA.out; omega)
      clear hz hma
      obtain ⟨a1, a2, a3, a4⟩ := hxf
      have hz := u_rangeN y2 200 (by decide) (by decide)
      obtain ⟨qb, hqb, hz⟩ : ∃ q, IntKind.u64.wrap y2 = q ∧ (0 ≤ Int.tmod q 200 ∧ Int.tmod q 200 < 200) := ⟨_, rfl, hz⟩
      obtain ⟨xb, hxb, hz⟩ : ∃ m, Int.tmod qb 200 = m ∧ (0 ≤ m ∧ m < 200) := ⟨_, rfl, hz⟩
      obtain ⟨mb, hmb⟩ : ∃ m : Nat, xb + 1 = (m : Int) := ⟨(xb + 1).toNat, by clear hxb hqb; omega⟩
      have HXB := Aside0.mk hz
      have HMB := Aside0.mk hmb
      have hxf := x_facts hz.1 hz.2 hmb
      have HSB := Aside0.mk (show mb ≤ 200 by clear hxf hxb hqb; omega)
      have mkB := zs_make mb (by have := HSB.out; omega)
      have cvB := zs_conv mb (by have := HSB.out; omega)
      clear hz hmb
      obtain ⟨b1, b2, b3, b4⟩ := hxf
      have PU1 := Aside0.mk (fl_one (q := k) (t := zs ma) (HFL.out.n1.trans HFL.out.n2.symm) (by have := HFL.out.n1; have := HD.out; omega) (by rw [zs_size]; have := HSA.out; omega))
      have PU2 := Aside0.mk (fl_two (q := k) (u := zs ma) (t := zs mb) (HFL.out.n1.trans HFL.out.n2.symm) (by have := HFL.out.n1; have := HD.out; omega) (by rw [zs_size]; have := HSB.out; omega))
      have FI1 := Aside0.mk (HFL.out.mid HD.out HSA.out)
      obtain ⟨L2, hL2⟩ : ∃ x, max L (max xa xb) = x := ⟨_, rfl⟩
      have HL2 := Aside0.mk (show L ≤ L2 ∧ (ma : Int) ≤ L2 + 1 ∧ (mb : Int) ≤ L2 + 1 ∧ L2 ≤ 199 from max_facts hL2 HXA.out HXB.out HMA.out HMB.out HFL.out.L1)
      go_wp2_with (fail)
      go_quiet (fail)
      obtain ⟨wq, hwq⟩ : ∃ x, wr.drewN nq = x := ⟨_, rfl⟩
      have HA2 := Aside0.mk (show FA w wq g (fl k l1 l2) by rw [← hwq]; exact HA.out.below (pw_below_drewN (Below.refl _ _) _))
      rw [hwq]
      clear hwq
      go_wp2_with (first | (go_at_call 10; (with_reducible refine (push_b 1 (zs ma) (HA2.out.below (below_alloc (Below.refl _ _) _)) HFL.out.fi (by decide) (fl_len _ _ _) PU1.out.1 PU1.out.2).mono ?_); rintro e_ w2 ⟨rfl, h_⟩; have H2 := Aside0.mk h_; clear h_) | (go_at_call 10; (with_reducible refine (push_b 2 (zs mb) (H2.out.below (below_alloc (Below.refl _ _) _)) FI1.out (by decide) (fm1_len _ _ _) PU2.out.1 PU2.out.2).mono ?_); rintro e_ w3 ⟨rfl, h_⟩; have H3 := Aside0.mk h_; clear h_))
      go_roundw
      case rel => exact ⟨L2, i + 1, _, _, rfl, by first | rfl | simp, ⟨by clear i1 i2; have := HD.out; omega⟩, H3, ⟨HFL.out.step HD.out HL2.out.1 HL2.out.2.1 HL2.out.2.2.1 HL2.out.2.2.2⟩⟩
      case measure => clear i1 i2 a1 a2 a3 a4 b1 b2 b3 b4 hqa hqb hxa hxb; have := HD.out; simp [intOf]; omega
    · have hi3 : i = 300 := by have := HIK.out; omega
      subst hi3
      have hst := fl_sh (q := k) (M := L + 1) HFL.out.n1 HFL.out.n2 HFL.out.s1 HFL.out.s2 (by have := HFL.out.L0; omega)
      obtain ⟨M, hM⟩ : ∃ M, L + 1 = M := ⟨_, rfl⟩
      have HMB := Aside0.mk (show 1 ≤ M ∧ M ≤ 200 by have := HFL.out.L0; have := HFL.out.L1; omega)
      rw [hM] at hst
      have HSH := Aside0.mk hst
      obtain ⟨M1, M2⟩ := m_plus hM HMB.out
      clear d1 hst hM
      have hz := u_rangeN a3 400 (by decide) (by decide)
      obtain ⟨q3, hq3, hz⟩ : ∃ q, IntKind.u64.wrap a3 = q ∧ (0 ≤ Int.tmod q 400 ∧ Int.tmod q 400 < 400) := ⟨_, rfl, hz⟩
      obtain ⟨S, hS, hz⟩ : ∃ m, Int.tmod q3 400 = m ∧ (0 ≤ m ∧ m < 400) := ⟨_, rfl, hz⟩
      obtain ⟨s1, s2, -, -⟩ := m_facts hz.1 (show S < 1000 by omega)
      have HSB := Aside0.mk hz
      clear hz
      go_wp2_with (fail)
      have HAR0 := Aside0.mk (AR.start HA.out)
      obtain ⟨ga, hga⟩ : ∃ x, wr.heap.size = x := ⟨_, rfl⟩
      rw [hga] at HAR0 ⊢
      generalize (wr.alloc (.cells #[.int .i64 0, .int .i64 0, .int .i64 0] 30)).alloc (.cells #[.int .i64 0, .int .i64 0, .int .i64 0] 30) = wx at HAR0 ⊢
      clear hga
      have HFI0 := Aside0.mk HFL.out.fi
      generalize fl k l1 l2 = s0 at HAR0 HFI0 HSH
      clear HFL HA M1 M2
      go_loopw [16] (fun v16 wr => ∃ (i : Nat) (gf cf : Int → Int) (s : FS), v16 = .int .i64 (i : Int) ∧ Aside0 (i ≤ 400) ∧ Aside0 (AR w wr ga (ga + 1) g s (gf 1) (gf 2) (cf 1) (cf 2)) ∧ Aside0 (Sh M k gf cf s) ∧ Aside0 (FI s) ∧ Aside0 ((0 ≤ gf 1 ∧ gf 1 ≤ 200 * i) ∧ (0 ≤ gf 2 ∧ gf 2 ≤ 200 * i) ∧ 0 ≤ cf 1 ∧ 0 ≤ cf 2)) (fun v16 _ => (400 - intOf v16).toNat)
      case atStart => exact ⟨0, fun _ => 0, fun _ => 0, s0, rfl, ⟨by omega⟩, HAR0, HSH, HFI0, ⟨by simp⟩⟩
      case round =>
        clear HAR0 HSH HFI0
        obtain ⟨i, gf, cf, s, rfl, HIJ, HAR, HSH, HFI, HGB⟩ := hrel
        by_cases d2 : (i : Int) < S
        · have S3 : decide ((i : Int) < S) = true := decide_eq_true d2
          have HD := Aside0.mk (show i < 400 by clear s1 s2 hS hq3; have := HSB.out; omega)
          obtain ⟨i1, i2⟩ := if_facts (show i ≤ 1000 by have := HIJ.out; omega)
          obtain ⟨id, t, s', hn, hfi2, hts, hway⟩ := two_ways HFI.out HSH.out
          have HCL := Aside0.mk (sh_less HSH.out)
          have HTS := Aside0.mk hts
          have HFI2 := Aside0.mk hfi2
          obtain ⟨g1, hg1⟩ : ∃ x, gf 1 = x := ⟨_, rfl⟩
          obtain ⟨g2, hg2⟩ : ∃ x, gf 2 = x := ⟨_, rfl⟩
          obtain ⟨c1, hc1⟩ : ∃ x, cf 1 = x := ⟨_, rfl⟩
          obtain ⟨c2, hc2⟩ : ∃ x, cf 2 = x := ⟨_, rfl⟩
          rw [hg1, hg2, hc1, hc2] at HAR HGB hway
          rw [hc1, hc2] at HCL
          clear d2 hts hfi2 hg1 hg2 hc1 hc2
          have hid : id = 1 ∨ id = 2 := hway.elim (fun h => .inl h.1) (fun h => .inr h.1)
          rcases hway with ⟨rfl, hdone | hsh⟩ | ⟨rfl, hdone | hsh⟩
          · clear hid
            have HNX := Aside0.mk hn
            clear hn
            obtain ⟨G, hG⟩ : ∃ G, g1 + (t.size : Int) = G := ⟨_, rfl⟩
            obtain ⟨C, hC⟩ : ∃ C, c1 + 1 = C := ⟨_, rfl⟩
            have hwf := g_facts hG hC HGB.out.1 HTS.out HMB.out HD.out HGB.out.2.2.1 HCL.out.1
            obtain ⟨u1, u2, u3, u4, hGb, hCb⟩ := hwf
            have HGN := Aside0.mk hGb
            have HCN := Aside0.mk hCb
            have hC3 : C = 300 := by rw [← hC]; exact hdone
            clear hG hC hdone hGb hCb HCN
            subst hC3
            have y1 : (c2 == 300) = false := beq_eq_false_iff_ne.2 (by have := HCL.out; clear u1 u2 u3 u4; omega)
            go_wp2_with (go_at_call 11; (with_reducible refine (next_r HAR.out HFI.out HSH.out.len HNX.out).mono ?_); rintro e_ w2 ⟨rfl, h_⟩; have H2 := Aside0.mk h_; obtain ⟨ca0, ca1, ca2, cb0, cb1, cb2, fa1, fa2, fb1, fb2⟩ := h_.cells; clear h_)
            go_ret
            exact ⟨rfl, ((H2.out.setA 1 G rfl).setB 1 300 rfl).fo.bel⟩
          · clear hid
            have HNX := Aside0.mk hn
            clear hn
            obtain ⟨G, hG⟩ : ∃ G, g1 + (t.size : Int) = G := ⟨_, rfl⟩
            obtain ⟨C, hC⟩ : ∃ C, c1 + 1 = C := ⟨_, rfl⟩
            have hwf := g_facts hG hC HGB.out.1 HTS.out HMB.out HD.out HGB.out.2.2.1 HCL.out.1
            obtain ⟨u1, u2, u3, u4, hGb, hCb⟩ := hwf
            have HGN := Aside0.mk hGb
            have HCN := Aside0.mk hCb
            obtain ⟨gf2, cf2, k1, k2, k3, k4, hsh⟩ := hsh
            have hbd := hsh.bound (by have := HMB.out; omega) HK.out.1
            have hnc := sh_less hsh
            rw [k1, k2, hG] at hbd
            rw [k3, k4, hC] at hnc
            rw [hG] at k1
            rw [hC] at k3
            obtain ⟨D, KM, T2, ND, v1, v2, v3, v4, v5, v6, v7, v8, v9, v10, v11, v12⟩ := share_facts hbd HK.out HMB.out
            have y1 : (c2 == 300) = false := beq_eq_false_iff_ne.2 (by have := HCL.out; clear u1 u2 u3 u4; omega)
            have y2 : (C == 300) = false := beq_eq_false_iff_ne.2 (by clear u1 u2 u3 u4 v1 v2 v3 v4 v5 v6 v7 v8; omega)
            have HSH2 := Aside0.mk hsh
            have HEQ := Aside0.mk (And.intro k1 (And.intro k2 (And.intro k3 k4)))
            clear hG hC hsh hbd hnc k1 k2 k3 k4 hGb hCb
            go_wp2_with (go_at_call 11; (with_reducible refine (next_r HAR.out HFI.out HSH.out.len HNX.out).mono ?_); rintro e_ w2 ⟨rfl, h_⟩; have H2 := Aside0.mk h_; obtain ⟨ca0, ca1, ca2, cb0, cb1, cb2, fa1, fa2, fb1, fb2⟩ := h_.cells; clear h_)
            go_roundw
            case rel =>
              clear u1 u2 u3 u4 v1 v2 v3 v4 v5 v6 v7 v8 i1 i2 s1 s2 hS hq3
              refine ⟨i + 1, gf2, cf2, s', by first | rfl | simp, ⟨by have := HD.out; omega⟩, ⟨?_⟩, HSH2, HFI2, ⟨?_⟩⟩
              · rw [HEQ.out.1, HEQ.out.2.1, HEQ.out.2.2.1, HEQ.out.2.2.2]
                exact (H2.out.setA 1 G rfl).setB 1 C rfl
              · rw [HEQ.out.1, HEQ.out.2.1, HEQ.out.2.2.1, HEQ.out.2.2.2]
                have h1 := HGB.out; have h2 := HGN.out; have h3 := HCN.out
                refine ⟨?_, ?_, ?_, ?_⟩ <;> omega
            case measure => clear u1 u2 u3 u4 v1 v2 v3 v4 v5 v6 v7 v8 i1 i2 s1 s2 hS hq3; have := HD.out; simp [intOf]; omega
          · clear hid
            have HNX := Aside0.mk hn
            clear hn
            obtain ⟨G, hG⟩ : ∃ G, g2 + (t.size : Int) = G := ⟨_, rfl⟩
            obtain ⟨C, hC⟩ : ∃ C, c2 + 1 = C := ⟨_, rfl⟩
            have hwf := g_facts hG hC HGB.out.2.1 HTS.out HMB.out HD.out HGB.out.2.2.2 HCL.out.2
            obtain ⟨u1, u2, u3, u4, hGb, hCb⟩ := hwf
            have HGN := Aside0.mk hGb
            have HCN := Aside0.mk hCb
            have hC3 : C = 300 := by rw [← hC]; exact hdone
            clear hG hC hdone hGb hCb HCN
            subst hC3
            have y1 : (c1 == 300) = false := beq_eq_false_iff_ne.2 (by have := HCL.out; clear u1 u2 u3 u4; omega)
            go_wp2_with (go_at_call 11; (with_reducible refine (next_r HAR.out HFI.out HSH.out.len HNX.out).mono ?_); rintro e_ w2 ⟨rfl, h_⟩; have H2 := Aside0.mk h_; obtain ⟨ca0, ca1, ca2, cb0, cb1, cb2, fa1, fa2, fb1, fb2⟩ := h_.cells; clear h_)
            go_ret
            exact ⟨rfl, ((H2.out.setA 2 G rfl).setB 2 300 rfl).fo.bel⟩
          · clear hid
            have HNX := Aside0.mk hn
            clear hn
            obtain ⟨G, hG⟩ : ∃ G, g2 + (t.size : Int) = G := ⟨_, rfl⟩
            obtain ⟨C, hC⟩ : ∃ C, c2 + 1 = C := ⟨_, rfl⟩
            have hwf := g_facts hG hC HGB.out.2.1 HTS.out HMB.out HD.out HGB.out.2.2.2 HCL.out.2
            obtain ⟨u1, u2, u3, u4, hGb, hCb⟩ := hwf
            have HGN := Aside0.mk hGb
            have HCN := Aside0.mk hCb
            obtain ⟨gf2, cf2, k1, k2, k3, k4, hsh⟩ := hsh
            have hbd := hsh.bound (by have := HMB.out; omega) HK.out.1
            have hnc := sh_less hsh
            rw [k1, k2, hG] at hbd
            rw [k3, k4, hC] at hnc
            rw [hG] at k2
            rw [hC] at k4
            obtain ⟨D, KM, T2, ND, v1, v2, v3, v4, v5, v6, v7, v8, v9, v10, v11, v12⟩ := share_facts hbd HK.out HMB.out
            have y1 : (c1 == 300) = false := beq_eq_false_iff_ne.2 (by have := HCL.out; clear u1 u2 u3 u4; omega)
            have y2 : (C == 300) = false := beq_eq_false_iff_ne.2 (by clear u1 u2 u3 u4 v1 v2 v3 v4 v5 v6 v7 v8; omega)
            have HSH2 := Aside0.mk hsh
            have HEQ := Aside0.mk (And.intro k1 (And.intro k2 (And.intro k3 k4)))
            clear hG hC hsh hbd hnc k1 k2 k3 k4 hGb hCb
            go_wp2_with (go_at_call 11; (with_reducible refine (next_r HAR.out HFI.out HSH.out.len HNX.out).mono ?_); rintro e_ w2 ⟨rfl, h_⟩; have H2 := Aside0.mk h_; obtain ⟨ca0, ca1, ca2, cb0, cb1, cb2, fa1, fa2, fb1, fb2⟩ := h_.cells; clear h_)
            go_roundw
            case rel =>
              clear u1 u2 u3 u4 v1 v2 v3 v4 v5 v6 v7 v8 i1 i2 s1 s2 hS hq3
              refine ⟨i + 1, gf2, cf2, s', by first | rfl | simp, ⟨by have := HD.out; omega⟩, ⟨?_⟩, HSH2, HFI2, ⟨?_⟩⟩
              · rw [HEQ.out.1, HEQ.out.2.1, HEQ.out.2.2.1, HEQ.out.2.2.2]
                exact (H2.out.setA 2 G rfl).setB 2 C rfl
              · rw [HEQ.out.1, HEQ.out.2.1, HEQ.out.2.2.1, HEQ.out.2.2.2]
                have h1 := HGB.out; have h2 := HGN.out; have h3 := HCN.out
                refine ⟨?_, ?_, ?_, ?_⟩ <;> omega
            case measure => clear u1 u2 u3 u4 v1 v2 v3 v4 v5 v6 v7 v8 i1 i2 s1 s2 hS hq3; have := HD.out; simp [intOf]; omega
        · have S3 : decide ((i : Int) < S) = false := decide_eq_false d2
          clear d2
          go_wp2_with (fail)
          go_ret
          exact ⟨rfl, HAR.out.fo.bel⟩
end Go.Proofs.Ytcieopcihbgfdaa.Walk
