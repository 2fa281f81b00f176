/- Layer 10: the ref's Acked. gen/mk_racked.py writes this text. -/
import Derived.Test.YtgdgegkokghedaaRLed
import Derived.Deep.Cut
import Derived.Deep.CutRange
namespace Go.Proofs.Ytgdgegkokghedaa.Led
open Go.RowKit Go.Deep Go.Proofs.YtgdgegkokghedaaW.PrintWords Go.Proofs.YtgdgegkokghedaaW.PrintLast Go.Proofs.YtgdgegkokghedaaW.PrintMore Go.Proofs.Ytgdgegkokghedaa.PLedgerKeeps Go.Proofs.Ytgdgegkokghedaa Go.Proofs.Ytgdgegkokghedaa.Walk
set_option linter.unusedVariables false
set_option linter.unusedSimpArgs false
attribute [local go_sem] max2_int min2_int max_two min_two
theorem rinfo2_ : (Try.prog.info? 2).map (fun i => (i.zero, i.size, i.bytes)) = some (some (.int .i64 0), 1, 8) := by kernel_rfl
theorem own_apart {α β : Type} {d : Kd α} {d' : Kd β} {e e' b b' : Nat} {ok ok' : Nat → Prop} {w : World} {v v' : Value} {xs : List α} {ys : List β} (h : d.R e w b ok v xs) (h' : d'.R e' w b' ok' v' ys) (hne : e ≠ e') : ∀ k, v.ownBlock = some k → some k ≠ v'.ownBlock := fun k hk he => by
  obtain ⟨c1, h1⟩ := Kd.R_typed h k hk
  obtain ⟨c2, h2⟩ := Kd.R_typed h' k he.symm
  rw [h1] at h2
  injection h2 with h2
  injection h2 with _ h2 _
  exact hne h2
theorem blk_apart {α : Type} {d : Kd α} {e b t g : Nat} {ok : Nat → Prop} {w : World} {v : Value} {xs : List α} {cs : Array Value} (h : d.R e w b ok v xs) (hb : w.heap[g]? = some (.cells cs t (0, 0))) (hne : e ≠ t) : some g ≠ v.ownBlock := fun he => by
  obtain ⟨c1, h1⟩ := Kd.R_typed h g he.symm
  rw [hb] at h1
  injection h1 with h1
  injection h1 with _ h1 _
  exact hne h1.symm
/-- What stands in the first loop. -/
structure RA (w0 w1 w' : World) (g gb cr : Nat) (A : Option Addr) (r : List S34) (v1 : Value) (s' : LS) (vt : Value) (tl : List Int) (vr : Value) (rl : List S58) : Prop where
  blk : w'.heap[g]? = some (.cells (lcells v1 s') 48 (0, 0))
  bel : Below w0.heap.size w0 w'
  keep : KeepBut w1 w' g none
  st : w'.heap[gb]? = some (.cells #[.slice A r.length cr] 72 (0, 0))
  sz : w0.heap.size ≤ w1.heap.size
  glt : g < w1.heap.size
  tr : Kd.R (Kd.int .i64) 2 w' w1.heap.size (fun k => k ≠ g) vt tl
  rr : Kd.R k58 69 w' w1.heap.size (fun k => k ≠ g) vr rl
section
variable {w0 w1 w' w2 : World} {g gb cr : Nat} {A : Option Addr} {r : List S34} {v1 : Value} {s' : LS} {vt : Value} {tl : List Int} {vr : Value} {rl : List S58}
theorem RA.below (h : RA w0 w1 w' g gb cr A r v1 s' vt tl vr rl) (hb : Below w'.heap.size w' w2) : RA w0 w1 w2 g gb cr A r v1 s' vt tl vr rl :=
  ⟨blk_below h.blk hb, below_step h.bel hb, ⟨Nat.le_trans h.keep.1 hb.size, fun k hk hg hr => (hb.block k (Nat.lt_of_lt_of_le hk h.keep.1)).trans (h.keep.2 k hk hg hr)⟩, blk_below h.st hb, h.sz, h.glt, Kd.R_below h.tr hb, Kd.R_below h.rr hb⟩
theorem RA.gne (h : RA w0 w1 w' g gb cr A r v1 s' vt tl vr rl) : gb ≠ g := fun he => by
  have h1 := h.st
  rw [he, h.blk] at h1
  injection h1 with h1
  injection h1 with _ h1 _
  exact absurd h1 (by decide)
theorem RA.set (h : RA w0 w1 w' g gb cr A r v1 s' vt tl vr rl) (hg : w0.heap.size ≤ g) (i : Nat) (u : Value) (s2 : LS) (he : (lcells v1 s').setIfInBounds i u = lcells v1 s2) : RA w0 w1 (w'.setCell ⟨g, i, none⟩ u) g gb cr A r v1 s2 vt tl vr rl :=
  ⟨by have := blk_set h.blk i u; rwa [he] at this, below_set h.bel hg, h.keep.set_ i _, (Below.heap_setCell w' ⟨g, i, none⟩ u gb h.gne).trans h.st, h.sz, h.glt, Kd.R_far h.tr (fun k hk => hk) _, Kd.R_far h.rr (fun k hk => hk) _⟩
theorem RA.told {vt2 : Value} {tl2 : List Int} (h : RA w0 w1 w' g gb cr A r v1 s' vt tl vr rl) (hR : Kd.R (Kd.int .i64) 2 w2 w1.heap.size (fun k => k ≠ g) vt2 tl2) (hg : w'.grownBy w2 vt.ownBlock) : RA w0 w1 w2 g gb cr A r v1 s' vt2 tl2 vr rl :=
  ⟨(hg.block g (blk_lt h.blk) (blk_apart h.tr h.blk (by decide))).trans h.blk, h.bel.grown hg h.bel.size (fun j hj => Nat.le_trans h.sz (Kd.R_base h.tr j hj)),
   ⟨Nat.le_trans h.keep.1 hg.size, fun k hk hkg hr => (hg.block k (Nat.lt_of_lt_of_le hk h.keep.1) (fun he => by have := Kd.R_base h.tr k he.symm; omega)).trans (h.keep.2 k hk hkg hr)⟩,
   (hg.block gb (blk_lt h.st) (blk_apart h.tr h.st (by decide))).trans h.st, h.sz, h.glt, hR, Kd.R_grown2 h.rr rfl hg (fun k hk => own_apart h.tr h.rr (by decide) k hk)⟩
theorem RA.rest {vr2 : Value} {rl2 : List S58} (h : RA w0 w1 w' g gb cr A r v1 s' vt tl vr rl) (hR : Kd.R k58 69 w2 w1.heap.size (fun k => k ≠ g) vr2 rl2) (hg : w'.grownBy w2 vr.ownBlock) : RA w0 w1 w2 g gb cr A r v1 s' vt tl vr2 rl2 :=
  ⟨(hg.block g (blk_lt h.blk) (blk_apart h.rr h.blk (by decide))).trans h.blk, h.bel.grown hg h.bel.size (fun j hj => Nat.le_trans h.sz (Kd.R_base h.rr j hj)),
   ⟨Nat.le_trans h.keep.1 hg.size, fun k hk hkg hr => (hg.block k (Nat.lt_of_lt_of_le hk h.keep.1) (fun he => by have := Kd.R_base h.rr k he.symm; omega)).trans (h.keep.2 k hk hkg hr)⟩,
   (hg.block gb (blk_lt h.st) (blk_apart h.rr h.st (by decide))).trans h.st, h.sz, h.glt, Kd.R_grown2 h.tr rfl hg (fun k hk => own_apart h.rr h.tr (by decide) k hk), hR⟩
theorem RA.cells (h : RA w0 w1 w' g gb cr A r v1 s' vt tl vr rl) : w'.cell? ⟨g, 0, none⟩ = some v1 ∧ w'.cell? ⟨g, 2, none⟩ = some (.int .i64 s'.win) ∧ w'.cell? ⟨g, 3, none⟩ = some (.int .i64 s'.thr) ∧ w'.cell? ⟨g, 5, none⟩ = some (.int .i64 s'.back) ∧ w'.frozen? ⟨g, 0, none⟩ = false ∧ w'.frozen? ⟨g, 2, none⟩ = false ∧ w'.frozen? ⟨g, 5, none⟩ = false :=
  ⟨(blk_cell h.blk 0).trans rfl, (blk_cell h.blk 2).trans rfl, (blk_cell h.blk 3).trans rfl, (blk_cell h.blk 5).trans rfl, blk_frozen h.blk 0, blk_frozen h.blk 2, blk_frozen h.blk 5⟩
/-- The flight's row is as it was. -/
theorem RA.row {s : LS} {W : World} {v : Value} (h : RA w0 w1 w' g gb cr A r v1 s' vt tl vr rl) (hp : RP w0 W w1 g v v1 s) : Kd.R k58 69 w' w0.heap.size (fun k => k ≠ g) v1 s.fl :=
  Kd.R_step hp.lg.row (fun k hk hl => h.keep.2 k hl hk (by simp))
/-- A new row is stored into the ledger. -/
theorem RA.reset {s : LS} {W : World} {v ve : Value} {el : List S58} {b : Nat} (h : RA w0 w1 w' g gb cr A r v1 s' vt tl vr rl) (hp : RP w0 W w1 g v v1 s) (hg : w0.heap.size ≤ g) (hb : w1.heap.size ≤ b) (hR : Kd.R k58 69 w' b (fun _ => True) ve el) : RP w0 W (w'.setCell ⟨g, 0, none⟩ ve) g v ve { s' with fl := el } := by
  have hne : ∀ k, ve.ownBlock = some k → w1.heap.size ≤ k := fun k hk => Nat.le_trans hb (Kd.R_base hR k hk)
  refine ⟨⟨blk_set h.blk 0 ve, Kd.R_far (Kd.R_lower (Kd.R_reok rfl hR (fun k hk => show k ≠ g from by have := hne k hk; have := h.glt; omega)) (Nat.le_trans h.sz hb)) (fun k hk => hk) _⟩, below_set h.bel hg, (keep3 hp.keep h.keep (.inr rfl) hp.own).set_ 0 _, ?_⟩
  rcases Kd.R_base2 hR with e | ⟨k, e, hk⟩
  · exact .inr (.inl e)
  · exact .inr (.inr ⟨k, e, Nat.le_trans hp.keep.1 (Nat.le_trans hb hk)⟩)
end
/-- What stands in the second loop. -/
structure RB (wl w' : World) (vo : Value) (ol : List Int) (ve : Value) (el : List S58) : Prop where
  bel : Below wl.heap.size wl w'
  lr : Kd.R (Kd.int .i64) 2 w' wl.heap.size (fun _ => True) vo ol
  er : Kd.R k58 69 w' wl.heap.size (fun _ => True) ve el
section
variable {wl w' w2 : World} {vo : Value} {ol : List Int} {ve : Value} {el : List S58}
theorem RB.below (h : RB wl w' vo ol ve el) (hb : Below w'.heap.size w' w2) : RB wl w2 vo ol ve el := ⟨below_step h.bel hb, Kd.R_below h.lr hb, Kd.R_below h.er hb⟩
theorem RB.lost {vo2 : Value} {ol2 : List Int} (h : RB wl w' vo ol ve el) (hR : Kd.R (Kd.int .i64) 2 w2 wl.heap.size (fun _ => True) vo2 ol2) (hg : w'.grownBy w2 vo.ownBlock) : RB wl w2 vo2 ol2 ve el :=
  ⟨h.bel.grown hg h.bel.size (fun j hj => Kd.R_base h.lr j hj), hR, Kd.R_grown2 h.er rfl hg (fun k hk => own_apart h.lr h.er (by decide) k hk)⟩
theorem RB.left {ve2 : Value} {el2 : List S58} (h : RB wl w' vo ol ve el) (hR : Kd.R k58 69 w2 wl.heap.size (fun _ => True) ve2 el2) (hg : w'.grownBy w2 ve.ownBlock) : RB wl w2 vo ol ve2 el2 :=
  ⟨h.bel.grown hg h.bel.size (fun j hj => Kd.R_base h.er j hj), Kd.R_grown2 h.lr rfl hg (fun k hk => own_apart h.er h.lr (by decide) k hk), hR⟩
end
theorem rints_later {B base : Nat} {w w2 : World} {g : Nat} {s : LS} {v va : Value} {l : List Int} {ok : Nat → Prop} (hl : RG B w g s v) (hr : Kd.R (Kd.int .i64) 2 w base ok va l) (hk : KeepBut w w2 g v.ownBlock) : Kd.R (Kd.int .i64) 2 w2 base ok va l := by
  have ht := Kd.R_tight2 rfl hr
  exact Kd.R_mono (Kd.R_step ht (fun k hok hlt => hk.2 k hlt (fun he => blk_apart hr hl.blk (by decide) (by rw [← he]; exact hok.1)) (fun he => own_apart hr hl.row (by decide) k hok.1.symm he))) (fun k hk => hk.2)
/-- What the ref's Acked leaves and tells. -/
structure RAcks (w0 W w1 w' : World) (g : Nat) (v : Value) (s' : LS) (ta tb : List Int) (er : Int) (e : Ending) : Prop where
  out : ∃ va vb v2, e = .returned (.tuple #[va, vb, .int .i64 er]) ∧ RP w0 W w' g v v2 s' ∧ Kd.R (Kd.int .i64) 2 w' w1.heap.size (fun _ => True) va ta ∧ Kd.R (Kd.int .i64) 2 w' w1.heap.size (fun _ => True) vb tb
def farQ (r : List S34) (x : S58) : Bool := decide (0 < r.length) && farP (hiOf r) x
def rackRest (s : LS) (r : List S34) : List S58 := s.fl.filter (fun x => !anyR x.f0 r)
def rackS (s : LS) (r : List S34) : LS := loseN { toldS s (ackTold s r) with fl := (rackRest s r).filter (fun x => !farQ r x) } (Led.nums ((rackRest s r).filter (farQ r)))
theorem filt_take (p : S58 → Bool) (l : List S58) (i : Nat) (h : i < l.length) {b : Bool} (hb : p (l.getD i z58) = b) : (l.take (i + 1)).filter p = (l.take i).filter p ++ (if b then [l.getD i z58] else []) := by
  rw [take58 l i h, List.filter_append]
  generalize l.getD i z58 = x at hb ⊢
  subst hb
  cases hp : p x <;> simp [hp]
theorem nums_app (a b : List S58) : Led.nums (a ++ b) = Led.nums a ++ Led.nums b := by unfold Led.nums; exact List.map_append
theorem tdiv_range {win z : Int} (hw0 : 2400 ≤ win) (hz0 : 1 ≤ z) (hz1 : z ≤ 1200) : 0 ≤ Int.tdiv (1200 * z) win ∧ Int.tdiv (1200 * z) win ≤ 600 := by
  refine ⟨Int.tdiv_nonneg (by omega) (by omega), ?_⟩
  rw [Int.tdiv_eq_ediv_of_nonneg (by omega)]
  refine Int.le_of_lt_add_one ((Int.ediv_lt_iff_lt_mul (by omega)).2 ?_)
  have : 601 * 2400 ≤ (600 + 1) * win := by omega
  omega
theorem min_growW (win thr z : Int) : min (growX win thr z) 1073741824 = growW win thr z := by
  unfold growW
  split <;> omega
theorem farP_iff {hi n a z : Int} (h0 : 0 ≤ n) (h1 : n ≤ 4611686018427387903) (h2 : 0 ≤ hi) (h3 : hi ≤ 4611686018427387903) : farP hi ⟨n, a, z⟩ = decide (n ≤ hi - 3) := by
  unfold farP
  dsimp only
  rw [show wrap64 (hi - n) = hi - n by unfold wrap64; omega]
  exact decide_eq_decide.2 (by omega)
set_option maxHeartbeats 8000000 in
set_option maxRecDepth 100000 in
theorem racked_bad (w0 W w1 : World) (g cr : Nat) (Ar : Option Addr) (r : List S34) (v v1 : Value) (s : LS) (h : RP w0 W w1 g v v1 s) (hg : w0.heap.size ≤ g) (hC : ∀ w, KeepBut w1 w g v1.ownBlock → Kd.C k34 w Ar r.length r) (hcap : r.length ≤ cr) (hbad : chkV r ≠ 0) :
    Calls Try.prog 16 #[.pointer (some ⟨g, 0, none⟩), .slice Ar r.length cr] w1 fun e w' => RAcks w0 W w1 w' g v s [] [] 2 e := by
  have HL := Aside0.mk h
  have HG := Aside0.mk hg
  have HCK := Aside0.mk hC
  have HC := Aside0.mk (show ∀ w, Below w1.heap.size w1 w → Kd.C k34 w Ar r.length r from fun w hb => hC w ⟨hb.size, fun k hk _ _ => hb.block k hk⟩)
  have HCAP := Aside0.mk hcap
  obtain ⟨er, her⟩ : ∃ er, chkV r = er := ⟨_, rfl⟩
  have HE := Aside0.mk her
  have HTOP := Aside0.mk trivial
  have HHI := Aside0.mk trivial
  have hne : (er == 0) = false := beq_eq_false_iff_ne.mpr (by rw [← her]; exact hbad)
  have hne2 : (er != 0) = true := by unfold bne; rw [hne]; rfl
  clear h hg hC hcap hbad her
  go_enter Try.func16, Try.ntmps16
  go_upto_region 1 with (fail)
  refine Calm.wp_region_phC [] [([0], [1]), ([2, 3, 4, 5, 6, 7, 8, 9, 10, 11, 12, 13, 14, 15, 16, 17, 18], [])] (by kernel_rfl) (by kernel_rfl) ?_
  refine Calm.ph_next ?_ ?_
  · repeat (first | exact Calm.okI_nil | (refine Calm.okI_cons (Or.inl (by decide)) ?_) | (refine Calm.okI_cons (Or.inr (by fail)) ?_))
  repeat (first
    | (refine Calm.g_value (v := ?_) (a' := ?_) rfl rfl (by rfl) ?_ ?_ ?_; rotate_left; (· rintro w' hS'; (try simp only [Calm.SC_cons, Calm.SC_nil, Nat.reduceEqDiff, forall_const, false_implies, and_true, true_and] at hS'); (try obtain ⟨hS1, hS2⟩ := hS'); go_simp; with_reducible rfl); rotate_left; (· simp only [Act.put, List.setIfInBounds_toArray, List.set_cons_zero, List.set_cons_succ, i64_w, i32_w]; rfl)))
  refine Calm.g_nil ?_
  refine Calm.c_call rfl rfl Try.func35 (by kernel_rfl) rfl #[.slice Ar r.length cr] (by rfl) rfl (by (try simp only [List.map_toArray, List.map_cons, List.map_nil]); rfl) ?_
  (with_reducible refine (vizardref08_Check.calls _ Ar cr r (chkV r) _ (HC.out _ (below_drew1 (Below.refl _ _))) HCAP.out (chk_ref r)).mono ?_)
  rw [HE.out]; rintro e_ w3 ⟨rfl, hb⟩; have HB3 := Aside0.mk (below_step (below_drew1 (Below.refl w1.heap.size w1)) hb); clear hb
  refine ⟨_, rfl, ?_, ?_⟩
  · repeat (first | exact Calm.okC_nil | (refine Calm.okC_cons (Or.inl (by decide +kernel)) ?_) | (refine Calm.okC_cons (Or.inr (by first | exact HTOP.out _ HB3.out | exact HHI.out _ HB3.out)) ?_))
  refine Calm.put_to (a' := ?_) ?_ ?_
  rotate_left
  · simp only [Act.put, List.setIfInBounds_toArray, List.set_cons_zero, List.set_cons_succ, i64_w, i32_w]; rfl
  refine Calm.h_nil ?_
  refine Calm.ph_next ?_ ?_
  · repeat (first | exact Calm.okI_nil | (refine Calm.okI_cons (Or.inl (by decide)) ?_) | (refine Calm.okI_cons (Or.inr (by first | exact HTOP.out _ HB3.out | exact HHI.out _ HB3.out)) ?_))
  repeat (first
    | (refine Calm.g_value (v := ?_) (a' := ?_) rfl rfl (by rfl) ?_ ?_ ?_; rotate_left; (· rintro w' hS'; (try simp only [Calm.SC_cons, Calm.SC_nil, Nat.reduceEqDiff, forall_const, false_implies, and_true, true_and] at hS'); (try obtain ⟨hS1, hS2⟩ := hS'); go_simp; with_reducible rfl); rotate_left; (· simp only [Act.put, List.setIfInBounds_toArray, List.set_cons_zero, List.set_cons_succ, i64_w, i32_w]; rfl))
    | (refine Calm.g_off (a' := ?_) rfl rfl (by rfl) ?_ ?_; rotate_left; (· simp only [Act.put, List.setIfInBounds_toArray, List.set_cons_zero, List.set_cons_succ, i64_w, i32_w]; rfl)))
  refine Calm.g_nil ?_
  refine Calm.h_nil ?_
  refine Calm.ph_end ?_
  simp only [Exit.inBlock, Exit.then]
  go_wp2_with (fail)
  go_ret3
  exact ⟨_, _, _, rfl, HL.out.below HB3.out, Kd.R_nil _ _ _ _ _, Kd.R_nil _ _ _ _ _⟩
set_option maxHeartbeats 8000000 in
set_option maxRecDepth 100000 in
theorem racked_high (w0 W w1 : World) (g cr : Nat) (Ar : Option Addr) (r : List S34) (v v1 : Value) (s : LS) (h : RP w0 W w1 g v v1 s) (hg : w0.heap.size ≤ g) (hC : ∀ w, KeepBut w1 w g v1.ownBlock → Kd.C k34 w Ar r.length r) (hcap : r.length ≤ cr) (hok : chkV r = 0) (hsome : 0 < r.length) (hhigh : hiOf r > s.top) :
    Calls Try.prog 16 #[.pointer (some ⟨g, 0, none⟩), .slice Ar r.length cr] w1 fun e w' => RAcks w0 W w1 w' g v s [] [] 2 e := by
  have HL := Aside0.mk h
  have HG := Aside0.mk hg
  have HCK := Aside0.mk hC
  have HC := Aside0.mk (show ∀ w, Below w1.heap.size w1 w → Kd.C k34 w Ar r.length r from fun w hb => hC w ⟨hb.size, fun k hk _ _ => hb.block k hk⟩)
  have HCAP := Aside0.mk hcap
  obtain ⟨-, ct, -, -, -, -, -⟩ := h.lg.cells
  obtain ⟨top, htop⟩ : ∃ top, s.top = top := ⟨_, rfl⟩
  rw [htop] at ct
  have HTOP := Aside0.mk (show ∀ w, Below w1.heap.size w1 w → w.cell? ⟨g, 1, none⟩ = some (.int .i64 top) from fun w hb => (hb.cell (blk_lt h.lg.blk)).trans ct)
  clear ct
  have hr1 := eq_true (show (0 : Int) < (r.length : Int) by omega)
  have hr2 := eq_true hsome
  have hr4 : decide ((r.length : Int) > 0) = true := decide_eq_true (by omega)
  have hr5 : decide (0 < r.length) = true := decide_eq_true (by omega)
  have hr7 : decide (0 < (r.length : Int)) = true := decide_eq_true (by omega)
  obtain ⟨ad, hA, rows⟩ := crow34 (HC.out w1 (Below.refl _ _)) 0 (by omega) (by omega)
  subst hA
  rw [show ad.add ((0 : Int).toNat * 2) = ad from add_nil ad] at rows
  obtain ⟨hi, hhi⟩ : ∃ hi, hiOf r = hi := ⟨_, rfl⟩
  have HHI := Aside0.mk (show ∀ w, Below w1.heap.size w1 w → w.cell? ⟨ad.block, ad.off + 1, none⟩ = some (.int .i64 hi) from fun w hb => by rw [← hhi]; exact (rows w hb).2)
  clear rows
  rw [hhi, htop] at hhigh
  have hd1 : decide (hi > top) = true := decide_eq_true hhigh
  have hd2 : decide (top < hi) = true := decide_eq_true hhigh
  have HE := Aside0.mk hok
  clear h hg hC hcap hok hsome hhigh
  go_enter Try.func16, Try.ntmps16
  go_upto_region 1 with (fail)
  refine Calm.wp_region_phC [(11, fun w_ => w_.cell? ⟨ad.block, ad.off + 1, none⟩ = some (.int .i64 hi)), (15, fun w_ => w_.cell? ⟨g, 1, none⟩ = some (.int .i64 top))] [([0], [1]), ([2, 3, 4, 5, 6, 7, 8, 9, 10, 11, 12, 13, 14, 15, 16, 17, 18], [])] (by kernel_rfl) (by kernel_rfl) ?_
  refine Calm.ph_next ?_ ?_
  · repeat (first | exact Calm.okI_nil | (refine Calm.okI_cons (Or.inl (by decide)) ?_) | (refine Calm.okI_cons (Or.inr (by fail)) ?_))
  repeat (first
    | (refine Calm.g_value (v := ?_) (a' := ?_) rfl rfl (by rfl) ?_ ?_ ?_; rotate_left; (· rintro w' hS'; (try simp only [Calm.SC_cons, Calm.SC_nil, Nat.reduceEqDiff, forall_const, false_implies, and_true, true_and] at hS'); (try obtain ⟨hS1, hS2⟩ := hS'); go_simp; with_reducible rfl); rotate_left; (· simp only [Act.put, List.setIfInBounds_toArray, List.set_cons_zero, List.set_cons_succ, i64_w, i32_w]; rfl)))
  refine Calm.g_nil ?_
  refine Calm.c_call rfl rfl Try.func35 (by kernel_rfl) rfl #[.slice (some ad) r.length cr] (by rfl) rfl (by (try simp only [List.map_toArray, List.map_cons, List.map_nil]); rfl) ?_
  (with_reducible refine (vizardref08_Check.calls _ (some ad) cr r (chkV r) _ (HC.out _ (below_drew1 (Below.refl _ _))) HCAP.out (chk_ref r)).mono ?_)
  rw [HE.out]; rintro e_ w3 ⟨rfl, hb⟩; have HB3 := Aside0.mk (below_step (below_drew1 (Below.refl w1.heap.size w1)) hb); clear hb
  refine ⟨_, rfl, ?_, ?_⟩
  · repeat (first | exact Calm.okC_nil | (refine Calm.okC_cons (Or.inl (by decide +kernel)) ?_) | (refine Calm.okC_cons (Or.inr (by first | exact HTOP.out _ HB3.out | exact HHI.out _ HB3.out)) ?_))
  refine Calm.put_to (a' := ?_) ?_ ?_
  rotate_left
  · simp only [Act.put, List.setIfInBounds_toArray, List.set_cons_zero, List.set_cons_succ, i64_w, i32_w]; rfl
  refine Calm.h_nil ?_
  refine Calm.ph_next ?_ ?_
  · repeat (first | exact Calm.okI_nil | (refine Calm.okI_cons (Or.inl (by decide)) ?_) | (refine Calm.okI_cons (Or.inr (by first | exact HTOP.out _ HB3.out | exact HHI.out _ HB3.out)) ?_))
  repeat (first
    | (refine Calm.g_value (v := ?_) (a' := ?_) rfl rfl (by rfl) ?_ ?_ ?_; rotate_left; (· rintro w' hS'; (try simp only [Calm.SC_cons, Calm.SC_nil, Nat.reduceEqDiff, forall_const, false_implies, and_true, true_and] at hS'); (try obtain ⟨hS1, hS2⟩ := hS'); go_simp; with_reducible rfl); rotate_left; (· simp only [Act.put, List.setIfInBounds_toArray, List.set_cons_zero, List.set_cons_succ, i64_w, i32_w]; rfl))
    | (refine Calm.g_off (a' := ?_) rfl rfl (by rfl) ?_ ?_; rotate_left; (· simp only [Act.put, List.setIfInBounds_toArray, List.set_cons_zero, List.set_cons_succ, i64_w, i32_w]; rfl)))
  refine Calm.g_nil ?_
  refine Calm.h_nil ?_
  refine Calm.ph_end ?_
  simp only [Exit.inBlock, Exit.then]
  go_wp2_with (fail)
  go_ret3
  exact ⟨_, _, _, rfl, HL.out.below HB3.out, Kd.R_nil _ _ _ _ _, Kd.R_nil _ _ _ _ _⟩
set_option maxHeartbeats 8000000 in
set_option maxRecDepth 100000 in
theorem racked_main (w0 W w1 : World) (g cr : Nat) (Ar : Option Addr) (r : List S34) (v v1 : Value) (s : LS) (h : RP w0 W w1 g v v1 s) (hg : w0.heap.size ≤ g) (hC : ∀ w, KeepBut w1 w g v1.ownBlock → Kd.C k34 w Ar r.length r) (hcap : r.length ≤ cr) (hI : Inv s) (hn : s.fl.length ≤ 100000) (hok : chkV r = 0) (hhigh : 0 < r.length → hiOf r ≤ s.top) :
    Calls Try.prog 16 #[.pointer (some ⟨g, 0, none⟩), .slice Ar r.length cr] w1 fun e w' => RAcks w0 W w1 w' g v (rackS s r) (Led.nums (ackTold s r)) (Led.nums ((rackRest s r).filter (farQ r))) 0 e := by
  have HL := Aside0.mk h
  have HG := Aside0.mk hg
  have HCK := Aside0.mk hC
  have HC := Aside0.mk (show ∀ w, Below w1.heap.size w1 w → Kd.C k34 w Ar r.length r from fun w hb => hC w ⟨hb.size, fun k hk _ _ => hb.block k hk⟩)
  have HCAP := Aside0.mk hcap
  have HE := Aside0.mk hok
  have HI := Aside0.mk hI
  have HN := Aside0.mk hn
  have HH := Aside0.mk hhigh
  have HRL := Aside0.mk (chkV_good r hok)
  clear hcap hok hI hn hC
  have HLP := Aside0.mk h
  clear h hg hhigh
  go_enter Try.func16, Try.ntmps16
  go_upto_region 1 with (fail)
  go_cut [33] from 15 to 33 (fun s33 wc => s33 = .bool false ∧ Aside0 (Below w1.heap.size w1 wc))
  case first =>
    by_cases hsome : 0 < r.length
    · have hhigh := HH.out hsome
      have h := HLP.out
      obtain ⟨-, ct, -, -, -, -, -⟩ := h.lg.cells
      obtain ⟨top, htop⟩ : ∃ top, s.top = top := ⟨_, rfl⟩
      rw [htop] at ct
      have HTOP := Aside0.mk (show ∀ w, Below w1.heap.size w1 w → w.cell? ⟨g, 1, none⟩ = some (.int .i64 top) from fun w hb => (hb.cell (blk_lt h.lg.blk)).trans ct)
      clear ct
      have hr1 := eq_true (show (0 : Int) < (r.length : Int) by omega)
      have hr2 := eq_true hsome
      have hr4 : decide ((r.length : Int) > 0) = true := decide_eq_true (by omega)
      have hr5 : decide (0 < r.length) = true := decide_eq_true (by omega)
      have hr7 : decide (0 < (r.length : Int)) = true := decide_eq_true (by omega)
      obtain ⟨ad, hA, rows⟩ := crow34 (HC.out w1 (Below.refl _ _)) 0 (by omega) (by omega)
      subst hA
      rw [show ad.add ((0 : Int).toNat * 2) = ad from add_nil ad] at rows
      obtain ⟨hi, hhi⟩ : ∃ hi, hiOf r = hi := ⟨_, rfl⟩
      have HHI := Aside0.mk (show ∀ w, Below w1.heap.size w1 w → w.cell? ⟨ad.block, ad.off + 1, none⟩ = some (.int .i64 hi) from fun w hb => by rw [← hhi]; exact (rows w hb).2)
      clear rows
      rw [hhi, htop] at hhigh
      have hd1 : decide (hi > top) = false := decide_eq_false (by omega)
      have hd2 : decide (top < hi) = false := decide_eq_false (by omega)
      clear h hsome hhigh htop hhi
      refine Calm.wp_region_phC [(11, fun w_ => w_.cell? ⟨ad.block, ad.off + 1, none⟩ = some (.int .i64 hi)), (15, fun w_ => w_.cell? ⟨g, 1, none⟩ = some (.int .i64 top))] [([0], [1]), ([2, 3, 4, 5, 6, 7, 8, 9, 10, 11, 12, 13, 14, 15, 16, 17, 18], [])] (by kernel_rfl) (by kernel_rfl) ?_
      refine Calm.ph_next ?_ ?_
      · repeat (first | exact Calm.okI_nil | (refine Calm.okI_cons (Or.inl (by decide)) ?_) | (refine Calm.okI_cons (Or.inr (by fail)) ?_))
      repeat (first
        | (refine Calm.g_value (v := ?_) (a' := ?_) rfl rfl (by rfl) ?_ ?_ ?_; rotate_left; (· rintro w' hS'; (try simp only [Calm.SC_cons, Calm.SC_nil, Nat.reduceEqDiff, forall_const, false_implies, and_true, true_and] at hS'); (try obtain ⟨hS1, hS2⟩ := hS'); go_simp; with_reducible rfl); rotate_left; (· simp only [Act.put, List.setIfInBounds_toArray, List.set_cons_zero, List.set_cons_succ, i64_w, i32_w]; rfl)))
      refine Calm.g_nil ?_
      refine Calm.c_call rfl rfl Try.func35 (by kernel_rfl) rfl #[.slice (some ad) r.length cr] (by rfl) rfl (by (try simp only [List.map_toArray, List.map_cons, List.map_nil]); rfl) ?_
      (with_reducible refine (vizardref08_Check.calls _ (some ad) cr r (chkV r) _ (HC.out _ (below_drew1 (Below.refl _ _))) HCAP.out (chk_ref r)).mono ?_)
      rw [HE.out]; rintro e_ w3 ⟨rfl, hb⟩; have HB3 := Aside0.mk (below_step (below_drew1 (Below.refl w1.heap.size w1)) hb); clear hb
      refine ⟨_, rfl, ?_, ?_⟩
      · repeat (first | exact Calm.okC_nil | (refine Calm.okC_cons (Or.inl (by decide +kernel)) ?_) | (refine Calm.okC_cons (Or.inr (by first | exact HTOP.out _ HB3.out | exact HHI.out _ HB3.out)) ?_))
      refine Calm.put_to (a' := ?_) ?_ ?_
      rotate_left
      · simp only [Act.put, List.setIfInBounds_toArray, List.set_cons_zero, List.set_cons_succ, i64_w, i32_w]; rfl
      refine Calm.h_nil ?_
      refine Calm.ph_next ?_ ?_
      · repeat (first | exact Calm.okI_nil | (refine Calm.okI_cons (Or.inl (by decide)) ?_) | (refine Calm.okI_cons (Or.inr (by first | exact HTOP.out _ HB3.out | exact HHI.out _ HB3.out)) ?_))
      repeat (first
        | (refine Calm.g_value (v := ?_) (a' := ?_) rfl rfl (by rfl) ?_ ?_ ?_; rotate_left; (· rintro w' hS'; (try simp only [Calm.SC_cons, Calm.SC_nil, Nat.reduceEqDiff, forall_const, false_implies, and_true, true_and] at hS'); (try obtain ⟨hS1, hS2⟩ := hS'); go_simp; with_reducible rfl); rotate_left; (· simp only [Act.put, List.setIfInBounds_toArray, List.set_cons_zero, List.set_cons_succ, i64_w, i32_w]; rfl))
        | (refine Calm.g_off (a' := ?_) rfl rfl (by rfl) ?_ ?_; rotate_left; (· simp only [Act.put, List.setIfInBounds_toArray, List.set_cons_zero, List.set_cons_succ, i64_w, i32_w]; rfl)))
      refine Calm.g_nil ?_
      refine Calm.h_nil ?_
      refine Calm.ph_end ?_
      simp only [Exit.inBlock, Exit.then]
      go_wp2_with (fail)
      go_meet
      case rel => exact ⟨rfl, HB3⟩
    · have HTOP := Aside0.mk trivial
      have HHI := Aside0.mk trivial
      have hr1 := eq_false (show ¬ (0 : Int) < (r.length : Int) by omega)
      have hr2 := eq_false (show ¬ 0 < r.length by omega)
      have hr4 : decide ((r.length : Int) > 0) = false := decide_eq_false (by omega)
      have hr5 : decide (0 < r.length) = false := decide_eq_false (by omega)
      have hr7 : decide (0 < (r.length : Int)) = false := decide_eq_false (by omega)
      clear hsome
      refine Calm.wp_region_phC [] [([0], [1]), ([2, 3, 4, 5, 6, 7, 8, 9, 10, 11, 12, 13, 14, 15, 16, 17, 18], [])] (by kernel_rfl) (by kernel_rfl) ?_
      refine Calm.ph_next ?_ ?_
      · repeat (first | exact Calm.okI_nil | (refine Calm.okI_cons (Or.inl (by decide)) ?_) | (refine Calm.okI_cons (Or.inr (by fail)) ?_))
      repeat (first
        | (refine Calm.g_value (v := ?_) (a' := ?_) rfl rfl (by rfl) ?_ ?_ ?_; rotate_left; (· rintro w' hS'; (try simp only [Calm.SC_cons, Calm.SC_nil, Nat.reduceEqDiff, forall_const, false_implies, and_true, true_and] at hS'); (try obtain ⟨hS1, hS2⟩ := hS'); go_simp; with_reducible rfl); rotate_left; (· simp only [Act.put, List.setIfInBounds_toArray, List.set_cons_zero, List.set_cons_succ, i64_w, i32_w]; rfl)))
      refine Calm.g_nil ?_
      refine Calm.c_call rfl rfl Try.func35 (by kernel_rfl) rfl #[.slice Ar r.length cr] (by rfl) rfl (by (try simp only [List.map_toArray, List.map_cons, List.map_nil]); rfl) ?_
      (with_reducible refine (vizardref08_Check.calls _ Ar cr r (chkV r) _ (HC.out _ (below_drew1 (Below.refl _ _))) HCAP.out (chk_ref r)).mono ?_)
      rw [HE.out]; rintro e_ w3 ⟨rfl, hb⟩; have HB3 := Aside0.mk (below_step (below_drew1 (Below.refl w1.heap.size w1)) hb); clear hb
      refine ⟨_, rfl, ?_, ?_⟩
      · repeat (first | exact Calm.okC_nil | (refine Calm.okC_cons (Or.inl (by decide +kernel)) ?_) | (refine Calm.okC_cons (Or.inr (by first | exact HTOP.out _ HB3.out | exact HHI.out _ HB3.out)) ?_))
      refine Calm.put_to (a' := ?_) ?_ ?_
      rotate_left
      · simp only [Act.put, List.setIfInBounds_toArray, List.set_cons_zero, List.set_cons_succ, i64_w, i32_w]; rfl
      refine Calm.h_nil ?_
      refine Calm.ph_next ?_ ?_
      · repeat (first | exact Calm.okI_nil | (refine Calm.okI_cons (Or.inl (by decide)) ?_) | (refine Calm.okI_cons (Or.inr (by first | exact HTOP.out _ HB3.out | exact HHI.out _ HB3.out)) ?_))
      repeat (first
        | (refine Calm.g_value (v := ?_) (a' := ?_) rfl rfl (by rfl) ?_ ?_ ?_; rotate_left; (· rintro w' hS'; (try simp only [Calm.SC_cons, Calm.SC_nil, Nat.reduceEqDiff, forall_const, false_implies, and_true, true_and] at hS'); (try obtain ⟨hS1, hS2⟩ := hS'); go_simp; with_reducible rfl); rotate_left; (· simp only [Act.put, List.setIfInBounds_toArray, List.set_cons_zero, List.set_cons_succ, i64_w, i32_w]; rfl))
        | (refine Calm.g_off (a' := ?_) rfl rfl (by rfl) ?_ ?_; rotate_left; (· simp only [Act.put, List.setIfInBounds_toArray, List.set_cons_zero, List.set_cons_succ, i64_w, i32_w]; rfl)))
      refine Calm.g_nil ?_
      refine Calm.h_nil ?_
      refine Calm.ph_end ?_
      simp only [Exit.inBlock, Exit.then]
      go_wp2_with (fail)
      go_meet
      case rel => exact ⟨rfl, HB3⟩
  case rest =>
    obtain ⟨rfl, HB3⟩ := hcut
    have hp3 := HLP.out.below HB3.out
    have HP3 := Aside0.mk hp3
    clear hp3
    obtain ⟨e0, -, -, -, -, -, -⟩ := HP3.out.lg.cells
    obtain ⟨Af, cf, hvf⟩ := Kd.R_slice HP3.out.lg.row
    subst hvf
    go_wp2_with ((with_reducible refine gate_dst (N := 36) rfl ?_); refine box_event ?hg (N := 36) ?hd (cs := [.slice Ar r.length cr].toArray) (t := 72) ?hr ?_; (case hd => rfl); (case hg => rfl); (case hr => first | (go_simp; done) | (go_simp; rfl)); intro gb hgb w2 hbox hb; have HX := Aside0.mk hbox; have HB2 := Aside0.mk hb; have HGB := Aside0.mk hgb; clear hgb hbox hb)
    have HA := Aside0.mk (show RA w0 wc w2 g gb cr Ar r (.slice Af s.fl.length cf) s (.slice none 0 0) [] (.slice none 0 0) [] from ⟨blk_below HP3.out.lg.blk HB2.out, below_step HP3.out.bel HB2.out, KeepBut.of_below HB2.out g none, HX.out, HP3.out.bel.size, blk_lt HP3.out.lg.blk, Kd.R_nil _ _ _ _ _, Kd.R_nil _ _ _ _ _⟩)
    clear e0 HX HB2 HGB
    go_loopw [8, 10, 12] (fun v8 v10 v12 wr => ∃ (i : Nat) (tl : List Int) (rl : List S58) (m : LS), v12 = .int .i64 (i : Int) ∧ Aside0 (i ≤ s.fl.length) ∧ Aside0 (tl = Led.nums ((s.fl.take i).filter (fun x => anyR x.f0 r)) ∧ rl = (s.fl.take i).filter (fun x => !anyR x.f0 r) ∧ m = toldS s ((s.fl.take i).filter (fun x => anyR x.f0 r))) ∧ Aside0 (RA w0 wc wr g gb cr Ar r (.slice Af s.fl.length cf) m v8 tl v10 rl)) (fun _ _ v12 _ => ((s.fl.length : Int) - intOf v12).toNat)
    case atStart => exact ⟨0, [], [], s, rfl, ⟨Nat.zero_le _⟩, ⟨rfl, rfl, rfl⟩, HA⟩
    case round =>
      clear HA
      obtain ⟨i, tl, rl, m, rfl, HIX, HEQ, HA⟩ := hrel
      obtain ⟨e0, e2, e3, e5, f0, f2, f5⟩ := HA.out.cells
      by_cases d1 : (i : Int) < (s.fl.length : Int)
      · have M1 : decide ((i : Int) < (s.fl.length : Int)) = true := decide_eq_true d1
        have M1' : decide (i < s.fl.length) = true := decide_eq_true (by omega)
        have n1 : i < s.fl.length := by omega
        have hw1 : wrap64 ((i : Int) + 1) = ((i + 1 : Nat) : Int) := by have := HN.out; unfold wrap64; omega
        have hw2 : IntKind.i64.wrap ((i : Int) + 1) = ((i + 1 : Nat) : Int) := (i64_w _).trans hw1
        obtain ⟨ad, hA, rows⟩ := crow58 (Kd.R_reads' (HA.out.row HP3.out)).2.2 (i : Int) (by omega) d1
        subst hA
        obtain ⟨x0, x1, x2⟩ := rows wr (Below.refl _ _)
        rw [Int.toNat_natCast] at x0 x1 x2
        have hmem : s.fl.getD i z58 ∈ s.fl := by rw [List.getD_eq_getElem?_getD, List.getElem?_eq_getElem n1]; exact List.getElem_mem _
        have hxr := HI.out.fl _ hmem
        have hf1 := fun b => filt_take (fun x => anyR x.f0 r) s.fl i n1 (b := b)
        have hf2 := fun b => filt_take (fun x => !anyR x.f0 r) s.fl i n1 (b := b)
        generalize s.fl.getD i z58 = x at x0 x1 x2 hxr hf1 hf2
        obtain ⟨n, at_, z⟩ := x
        dsimp only at x0 x1 x2 hxr hf1 hf2
        have hbox := blk_new wr (.cells #[.int .i64 n, .int .i64 at_, .int .i64 z] 69)
        have hb : Below wr.heap.size wr (wr.alloc (.cells #[.int .i64 n, .int .i64 at_, .int .i64 z] 69)) := below_alloc (Below.refl _ _) _
        obtain ⟨wp, hwp⟩ : ∃ wp, wr.alloc (.cells #[.int .i64 n, .int .i64 at_, .int .i64 z] 69) = wp := ⟨_, rfl⟩
        rw [hwp] at hb hbox
        have H2 := Aside0.mk (HA.out.below hb)
        have HX := Aside0.mk hbox
        have c0 := (show _ = some (Value.int .i64 n) from (blk_cell hbox 0).trans rfl)
        have HSET := Aside0.mk (show SetAt wp gb Ar cr r from ⟨H2.out.st, HCK.out wp (keep3 (v := .slice (some ad) s.fl.length cf) (v1 := .slice (some ad) s.fl.length cf) (KeepBut.of_below HB3.out g _) H2.out.keep (.inr rfl) (.inl rfl))⟩)
        have HLEN := Aside0.mk (show tl.length ≤ 100000 ∧ rl.length ≤ 100000 by obtain ⟨q1, q2, -⟩ := HEQ.out; rw [q1, q2]; unfold Led.nums; rw [List.length_map]; have hz := HN.out; have z1 := List.length_filter_le (fun x => anyR x.f0 r) (s.fl.take i); have z2 := List.length_filter_le (fun x => !anyR x.f0 r) (s.fl.take i); rw [List.length_take] at z1 z2; omega)
        have HJ := Aside0.mk d1
        have p1 := eq_true d1
        have p2 : ((i : Int) < (s.fl.length : Int)) = True := p1
        have p3 := eq_true n1
        have hrl : r.length ≤ 100000 := by have := HRL.out.1; omega
        have HHAS := Aside0.mk (fun b (hb : anyR n r = b) => (has_c gb cr Ar r n wp HSET.out hrl).mono (fun e w' hq => (show e = .returned (.bool b) ∧ Drawn0 wp w' from ⟨by rw [← hb]; exact hq.1, hq.2⟩)))
        clear d1 n1 rows hmem hbox hb hrl
        cases hany : anyR n r with
        | false =>
          have HF1 := Aside0.mk (hf1 false hany)
          have HF2 := Aside0.mk (hf2 true (by rw [hany]; rfl))
          have HAN := Aside0.mk hany
          clear hf1 hf2 hany hxr
          go_wp2_with (first | (go_at_call 36; (with_reducible refine (HHAS.out false HAN.out).mono ?_); rintro e_ w3 ⟨rfl, hd⟩; have hb3 := below_drawn0 (Below.refl wp.heap.size wp) hd; have H3 := Aside0.mk (H2.out.below hb3); have g0 := (hb3.cell (blk_lt HX.out)).trans ((blk_cell HX.out 0).trans (rfl : _ = some (Value.int .i64 n))); have g1 := (hb3.cell (blk_lt HX.out)).trans ((blk_cell HX.out 1).trans (rfl : _ = some (Value.int .i64 at_))); have g2 := (hb3.cell (blk_lt HX.out)).trans ((blk_cell HX.out 2).trans (rfl : _ = some (Value.int .i64 z))); clear hd hb3) | ((with_reducible refine gate_builtin (b := .append) (xs := #[.tmp 58, .tmp 60]) rfl ?_); at_builtin; refine Kd.R_append k58 (w0 := w3) wc.heap.size rfl (.tmp 58) (.tmp 60) 46 69 (.agg #[.int .i64 0, .int .i64 0, .int .i64 0]) 24 rfl Try.underlying46 info69_ rfl (by decide) (by omega) _ rl ⟨n, at_, z⟩ [.int .i64 n, .int .i64 at_, .int .i64 z] (fun k => k ≠ g) (fun _ => False) rfl rfl ?aP (fun _ hk => hk.elim) ?aF H3.out.rr (Below.refl _ _) ?aS ?aL ?_; (case aP => exact k58_mkM _ _ _ _); (case aF => exact fun k hk => by have := blk_lt H3.out.blk; omega); (case aS => exact H3.out.keep.1); (case aL => have := HLEN.out; omega); intro v6 w6 hR6 hB6 hg6 hat; have H6 := Aside0.mk (H3.out.rest hR6 hg6); clear hR6 hB6 hg6 hat))
          go_roundw
          case rel =>
            refine ⟨i + 1, tl, rl ++ [⟨n, at_, z⟩], m, by first | rfl | simp, ⟨by have := HJ.out; omega⟩, ⟨?_, ?_, ?_⟩, H6⟩
            · rw [HF1.out]; simpa using HEQ.out.1
            · rw [HF2.out, ← HEQ.out.2.1]; rfl
            · rw [HF1.out]; simpa using HEQ.out.2.2
          case measure => have := HJ.out; simp [intOf]; omega
        | true =>
          have HF1 := Aside0.mk (hf1 true hany)
          have HF2 := Aside0.mk (hf2 false (by rw [hany]; rfl))
          have HAN := Aside0.mk hany
          have him : Inv m := by rw [HEQ.out.2.2]; exact inv_told _ _ HI.out (fun x hx => (HI.out.fl x (List.mem_of_mem_take (List.mem_filter.1 hx).1)).2.2)
          have hw0 := him.w0
          have hw1_ := him.w1
          obtain ⟨hz0, hz1⟩ := hxr.2.2
          obtain ⟨hq0, hq1⟩ := tdiv_range hw0 hz0 hz1
          have hstep : toldS s ((s.fl.take (i + 1)).filter (fun x => anyR x.f0 r)) = { m with win := growW m.win m.thr z, back := 0 } := by rw [HF1.out, told_app, ← HEQ.out.2.2]; rfl
          have HSTEP := Aside0.mk hstep
          have HMG := Aside0.mk (min_growW m.win m.thr z)
          obtain ⟨mfl, mtop, win, thr, mark, back⟩ := m
          dsimp only at e2 e3 hw0 hw1_ hq0 hq1 HMG
          have hz : (win == 0) = false := beq_eq_false_iff_ne.mpr (by omega)
          have hz' : win ≠ 0 := by omega
          have w1_ : wrap64 (1200 * z) = 1200 * z := by unfold wrap64; omega
          have w1b : IntKind.i64.wrap (1200 * z) = 1200 * z := (i64_w _).trans w1_
          obtain ⟨qd, hqd⟩ : ∃ q, Int.tdiv (1200 * z) win = q := ⟨_, rfl⟩
          rw [hqd] at hq0 hq1
          have w2_ : wrap64 qd = qd := by unfold wrap64; omega
          have w2b : IntKind.i64.wrap qd = qd := (i64_w _).trans w2_
          have w3_ : wrap64 (win + z) = win + z := by unfold wrap64; omega
          have w3b : IntKind.i64.wrap (win + z) = win + z := (i64_w _).trans w3_
          have w4_ : wrap64 (win + qd) = win + qd := by unfold wrap64; omega
          have w4b : IntKind.i64.wrap (win + qd) = win + qd := (i64_w _).trans w4_
          clear hf1 hf2 hany hxr him hstep hz0 hz1 hq0 hq1 hw0 hw1_
          by_cases hc : win < thr
          · have C1 : decide (win < thr) = true := decide_eq_true hc
            have hgx : growX win thr z = win + z := by unfold growX; rw [if_pos hc]
            have hgw : min (win + z) 1073741824 = growW win thr z := by rw [← hgx]; exact HMG.out
            have hgw2 : (if 1073741824 < win + z then 1073741824 else win + z) = growW win thr z := by unfold growW; rw [hgx]
            have hgw3 : (if win + z < 1073741824 then win + z else 1073741824) = growW win thr z := by rw [← hgw]; split <;> omega
            have hgw4 : (if win + z ≤ 1073741824 then win + z else 1073741824) = growW win thr z := by rw [← hgw]; split <;> omega
            obtain ⟨gr, hgr⟩ : ∃ q, growW win thr z = q := ⟨_, rfl⟩
            rw [hgr] at hgw hgw2 hgw3 hgw4 HSTEP
            clear hc hgx hgr HMG
            go_wp2_with (first | (go_at_call 36; (with_reducible refine (HHAS.out true HAN.out).mono ?_); rintro e_ w3 ⟨rfl, hd⟩; have hb3 := below_drawn0 (Below.refl wp.heap.size wp) hd; have H3 := Aside0.mk (H2.out.below hb3); have HX3 := Aside0.mk (blk_below HX.out hb3); have g0 := (hb3.cell (blk_lt HX.out)).trans ((blk_cell HX.out 0).trans (rfl : _ = some (Value.int .i64 n))); clear hd hb3) | ((with_reducible refine gate_builtin (b := .append) (xs := #[.tmp 62, .tmp 65]) rfl ?_); at_builtin; refine Kd.R_append (Kd.int .i64) (w0 := w3) wc.heap.size rfl (.tmp 62) (.tmp 65) 30 2 (.int .i64 0) 8 rfl Try.underlying30 rinfo2_ rfl (by decide) (by omega) _ tl n [.int .i64 n] (fun k => k ≠ g) (fun _ => False) rfl rfl ?aP2 (fun _ hk => hk.elim) ?aF2 H3.out.tr (Below.refl _ _) ?aS2 ?aL2 ?_; (case aP2 => rfl); (case aF2 => exact fun k hk => by have := blk_lt H3.out.blk; omega); (case aS2 => exact H3.out.keep.1); (case aL2 => have := HLEN.out; omega); intro v6 w6 hR6 hB6 hg6 hat; have H6 := Aside0.mk (H3.out.told hR6 hg6); have g2 := (show _ = some (Value.int .i64 z) from (blk_cell ((hg6.block _ (blk_lt HX3.out) (blk_apart H3.out.tr HX3.out (by decide))).trans HX3.out) 2).trans rfl); have hc6 := H6.out.cells; dsimp only at hc6; obtain ⟨k0, k2, k3, k5, l0, l2, l5⟩ := hc6; clear hR6 hB6 hg6 hat))
            go_region
            simp only [Exit.then]
            go_wp2_with (fail)
            go_region
            simp only [Exit.inBlock, Exit.then]
            go_wp2_with (fail)
            go_roundw
            case rel =>
              have h7 := H6.out.set HG.out 2 (.int .i64 (win + z)) ⟨mfl, mtop, win + z, thr, mark, back⟩ rfl
              have h8 := h7.set HG.out 2 (.int .i64 gr) ⟨mfl, mtop, gr, thr, mark, back⟩ rfl
              have h9 := h8.set HG.out 5 (.int .i64 0) ⟨mfl, mtop, gr, thr, mark, 0⟩ rfl
              refine ⟨i + 1, tl ++ [n], rl, ⟨mfl, mtop, gr, thr, mark, 0⟩, by first | rfl | simp, ⟨by have := HJ.out; omega⟩, ⟨?_, ?_, ?_⟩, ⟨?_⟩⟩
              · rw [HF1.out, nums_app, ← HEQ.out.1]; rfl
              · rw [HF2.out, ← HEQ.out.2.1]; simp
              · exact HSTEP.out.symm
              · first | exact h9.below (below_drew1 (below_drew1 (Below.refl _ _))) | exact h9.below (below_drew1 (Below.refl _ _)) | exact h9
            case measure => have := HJ.out; simp [intOf]; omega
          · have C1 : decide (win < thr) = false := decide_eq_false hc
            have hgx : growX win thr z = win + qd := by unfold growX; rw [if_neg hc, hqd]
            have hgw : min (win + qd) 1073741824 = growW win thr z := by rw [← hgx]; exact HMG.out
            have hgw2 : (if 1073741824 < win + qd then 1073741824 else win + qd) = growW win thr z := by unfold growW; rw [hgx]
            have hgw3 : (if win + qd < 1073741824 then win + qd else 1073741824) = growW win thr z := by rw [← hgw]; split <;> omega
            have hgw4 : (if win + qd ≤ 1073741824 then win + qd else 1073741824) = growW win thr z := by rw [← hgw]; split <;> omega
            obtain ⟨gr, hgr⟩ : ∃ q, growW win thr z = q := ⟨_, rfl⟩
            rw [hgr] at hgw hgw2 hgw3 hgw4 HSTEP
            clear hc hgx hgr HMG
            go_wp2_with (first | (go_at_call 36; (with_reducible refine (HHAS.out true HAN.out).mono ?_); rintro e_ w3 ⟨rfl, hd⟩; have hb3 := below_drawn0 (Below.refl wp.heap.size wp) hd; have H3 := Aside0.mk (H2.out.below hb3); have HX3 := Aside0.mk (blk_below HX.out hb3); have g0 := (hb3.cell (blk_lt HX.out)).trans ((blk_cell HX.out 0).trans (rfl : _ = some (Value.int .i64 n))); clear hd hb3) | ((with_reducible refine gate_builtin (b := .append) (xs := #[.tmp 62, .tmp 65]) rfl ?_); at_builtin; refine Kd.R_append (Kd.int .i64) (w0 := w3) wc.heap.size rfl (.tmp 62) (.tmp 65) 30 2 (.int .i64 0) 8 rfl Try.underlying30 rinfo2_ rfl (by decide) (by omega) _ tl n [.int .i64 n] (fun k => k ≠ g) (fun _ => False) rfl rfl ?aP2 (fun _ hk => hk.elim) ?aF2 H3.out.tr (Below.refl _ _) ?aS2 ?aL2 ?_; (case aP2 => rfl); (case aF2 => exact fun k hk => by have := blk_lt H3.out.blk; omega); (case aS2 => exact H3.out.keep.1); (case aL2 => have := HLEN.out; omega); intro v6 w6 hR6 hB6 hg6 hat; have H6 := Aside0.mk (H3.out.told hR6 hg6); have g2 := (show _ = some (Value.int .i64 z) from (blk_cell ((hg6.block _ (blk_lt HX3.out) (blk_apart H3.out.tr HX3.out (by decide))).trans HX3.out) 2).trans rfl); have hc6 := H6.out.cells; dsimp only at hc6; obtain ⟨k0, k2, k3, k5, l0, l2, l5⟩ := hc6; clear hR6 hB6 hg6 hat))
            go_region
            simp only [Exit.then]
            go_wp2_with (fail)
            go_region
            simp only [Exit.inBlock, Exit.then]
            go_wp2_with (fail)
            go_roundw
            case rel =>
              have h7 := H6.out.set HG.out 2 (.int .i64 (win + qd)) ⟨mfl, mtop, win + qd, thr, mark, back⟩ rfl
              have h8 := h7.set HG.out 2 (.int .i64 gr) ⟨mfl, mtop, gr, thr, mark, back⟩ rfl
              have h9 := h8.set HG.out 5 (.int .i64 0) ⟨mfl, mtop, gr, thr, mark, 0⟩ rfl
              refine ⟨i + 1, tl ++ [n], rl, ⟨mfl, mtop, gr, thr, mark, 0⟩, by first | rfl | simp, ⟨by have := HJ.out; omega⟩, ⟨?_, ?_, ?_⟩, ⟨?_⟩⟩
              · rw [HF1.out, nums_app, ← HEQ.out.1]; rfl
              · rw [HF2.out, ← HEQ.out.2.1]; simp
              · exact HSTEP.out.symm
              · first | exact h9.below (below_drew1 (below_drew1 (Below.refl _ _))) | exact h9.below (below_drew1 (Below.refl _ _)) | exact h9
            case measure => have := HJ.out; simp [intOf]; omega
      · have M1 : decide ((i : Int) < (s.fl.length : Int)) = false := decide_eq_false d1
        have M1' : decide (i < s.fl.length) = false := decide_eq_false (by omega)
        have hend : s.fl.take i = s.fl := List.take_of_length_le (by omega)
        have HEQ2 := Aside0.mk (show tl = Led.nums (ackTold s r) ∧ rl = rackRest s r ∧ m = toldS s (ackTold s r) by have h := HEQ.out; rw [hend] at h; exact h)
        clear d1 hend HEQ
        obtain ⟨wl, hwl⟩ : ∃ x, x = wr := ⟨_, rfl⟩
        subst hwl
        obtain ⟨Ae, ce, hve⟩ := Kd.R_slice HA.out.rr
        subst hve
        have HLR := Aside0.mk (show rl.length ≤ 100000 by rw [HEQ2.out.2.1]; exact Nat.le_trans (List.length_filter_le _ _) HN.out)
        have HB0 := Aside0.mk (show RB wl wl (.slice none 0 0) [] (.slice none 0 0) [] from ⟨Below.refl _ _, Kd.R_nil _ _ _ _ _, Kd.R_nil _ _ _ _ _⟩)
        go_wp2_with (fail)
        clear e0 e2 e3 e5 f0 f2 f5
        go_loopw [9, 11, 14] (fun v9 v11 v14 wr => ∃ (j : Nat) (ol : List Int) (el : List S58), v14 = .int .i64 (j : Int) ∧ Aside0 (j ≤ rl.length) ∧ Aside0 (ol = Led.nums ((rl.take j).filter (farQ r)) ∧ el = (rl.take j).filter (fun x => !farQ r x)) ∧ Aside0 (RB wl wr v9 ol v11 el)) (fun _ _ v14 _ => ((rl.length : Int) - intOf v14).toNat)
        case atStart => exact ⟨0, [], [], rfl, ⟨Nat.zero_le _⟩, ⟨rfl, rfl⟩, HB0⟩
        case round =>
          clear HB0
          obtain ⟨j, ol, el, rfl, HJX, HEQ, HB⟩ := hrel
          by_cases d1 : (j : Int) < (rl.length : Int)
          · have M1 : decide ((j : Int) < (rl.length : Int)) = true := decide_eq_true d1
            have M1' : decide (j < rl.length) = true := decide_eq_true (by omega)
            have n1 : j < rl.length := by omega
            have hw1 : wrap64 ((j : Int) + 1) = ((j + 1 : Nat) : Int) := by have := HLR.out; unfold wrap64; omega
            have hw2 : IntKind.i64.wrap ((j : Int) + 1) = ((j + 1 : Nat) : Int) := (i64_w _).trans hw1
            have hRR := (Kd.R_reads' HA.out.rr).2.2
            obtain ⟨ad, hA, rows⟩ := crow58 hRR (j : Int) (by omega) d1
            subst hA
            obtain ⟨x0, x1, x2⟩ := rows wr HB.out.bel
            rw [Int.toNat_natCast] at x0 x1 x2
            have hmem : rl.getD j z58 ∈ s.fl := by
              have h0 : rl.getD j z58 ∈ rl := by rw [List.getD_eq_getElem?_getD, List.getElem?_eq_getElem n1]; exact List.getElem_mem _
              rw [HEQ2.out.2.1] at h0 ⊢
              exact (List.mem_filter.1 h0).1
            have hxr := HI.out.fl _ hmem
            have hf1 := fun b => filt_take (farQ r) rl j n1 (b := b)
            have hf2 := fun b => filt_take (fun x => !farQ r x) rl j n1 (b := b)
            generalize rl.getD j z58 = x at x0 x1 x2 hxr hf1 hf2
            obtain ⟨n, at_, z⟩ := x
            dsimp only at x0 x1 x2 hxr hf1 hf2
            have HLEN := Aside0.mk (show ol.length ≤ 100000 ∧ el.length ≤ 100000 by obtain ⟨q1, q2⟩ := HEQ.out; rw [q1, q2]; unfold Led.nums; rw [List.length_map]; have hz := HLR.out; have z1 := List.length_filter_le (farQ r) (rl.take j); have z2 := List.length_filter_le (fun x => !farQ r x) (rl.take j); rw [List.length_take] at z1 z2; omega)
            have HJ := Aside0.mk d1
            have p1 := eq_true d1
            have p2 : ((j : Int) < (rl.length : Int)) = True := p1
            have p3 := eq_true n1
            have PB1 := Aside0.mk trivial
            by_cases hs : 0 < r.length
            · have hCr := HCK.out wr (keep3 (v := .slice Af s.fl.length cf) (v1 := .slice Af s.fl.length cf) (KeepBut.of_below HB3.out g _) (HA.out.below HB.out.bel).keep (.inr rfl) (.inl rfl))
              obtain ⟨ad3, hA3, y0, y1⟩ := at34 hCr 0 hs
              subst hA3
              rw [show ad3.add (0 * 2) = ad3 from add_nil ad3] at y1
              have hfine := HRL.out.2 0 hs
              have hrg : 0 ≤ hiOf r ∧ hiOf r ≤ 4611686018427387903 := by
                unfold goodB at hfine
                rw [Bool.and_eq_true] at hfine
                have h1 := (fineB_iff _).1 hfine.1
                unfold hiOf
                omega
              have hfp := farP_iff (hi := hiOf r) (n := n) (a := at_) (z := z) hxr.1 (by have := HI.out.t1; omega) hrg.1 hrg.2
              have hfq : farQ r ⟨n, at_, z⟩ = decide (n ≤ hiOf r - 3) := by unfold farQ; rw [decide_eq_true hs, Bool.true_and]; exact hfp
              rw [show (r.getD 0 z34).f1 = hiOf r from rfl] at y1
              obtain ⟨hi, hhi⟩ : ∃ hi, hiOf r = hi := ⟨_, rfl⟩
              rw [hhi] at y1 hrg hfq
              have hw3 : wrap64 (hi - 3) = hi - 3 := by unfold wrap64; omega
              have hw4 : IntKind.i64.wrap (hi - 3) = hi - 3 := (i64_w _).trans hw3
              have hr1 := eq_true (show (0 : Int) < (r.length : Int) by omega)
              have hr2 := eq_true hs
              have hr4 : decide ((r.length : Int) > 0) = true := decide_eq_true (by omega)
              have hr5 : decide (0 < r.length) = true := decide_eq_true (by omega)
              have hr7 : decide (0 < (r.length : Int)) = true := decide_eq_true (by omega)
              clear y0 hfine hrg hfp hhi hCr hxr hs d1 n1 rows hRR hmem
              by_cases e1 : n ≤ hi - 3
              · have E1 : decide (n ≤ hi - 3) = true := decide_eq_true e1
                have hq : farQ r ⟨n, at_, z⟩ = true := hfq.trans E1
                clear e1 hfq
                have HF1 := Aside0.mk (hf1 true hq)
                have HF2 := Aside0.mk (hf2 false (by rw [hq]; rfl))
                clear hf1 hf2 hq
                go_wp2_with (fail)
                go_region
                simp only [Exit.then]
                have HB := Aside0.mk (HB.out.below (below_drew1 (Below.refl wr.heap.size wr)))
                go_wp2_with ((with_reducible refine gate_builtin (b := .append) (xs := #[.tmp 135, .tmp 141]) rfl ?_); at_builtin; refine Kd.R_append (Kd.int .i64) (w0 := wr.drew) wl.heap.size rfl (.tmp 135) (.tmp 141) 30 2 (.int .i64 0) 8 rfl Try.underlying30 rinfo2_ rfl (by decide) (by omega) _ ol n [.int .i64 n] (fun _ => True) (fun _ => False) rfl rfl ?aP4 (fun _ hk => hk.elim) (fun _ _ => trivial) HB.out.lr (Below.refl _ _) ?aS4 ?aL4 ?_; (case aP4 => rfl); (case aS4 => exact HB.out.bel.size); (case aL4 => have := HLEN.out; omega); intro v6 w6 hR6 hB6 hg6 hat; have H6 := Aside0.mk (HB.out.lost hR6 hg6); clear hR6 hB6 hg6 hat)
                go_roundw
                case rel =>
                  refine ⟨j + 1, ol ++ [n], el, by first | rfl | simp, ⟨by have := HJ.out; omega⟩, ⟨?_, ?_⟩, ⟨by first | exact H6.out | exact H6.out.below (below_drew1 (Below.refl _ _))⟩⟩
                  · rw [HF1.out, nums_app, ← HEQ.out.1]; rfl
                  · rw [HF2.out, ← HEQ.out.2]; simp
                case measure => have := HJ.out; simp [intOf]; omega
              · have E1 : decide (n ≤ hi - 3) = false := decide_eq_false e1
                have hq : farQ r ⟨n, at_, z⟩ = false := hfq.trans E1
                clear e1 hfq
                have HF1 := Aside0.mk (hf1 false hq)
                have HF2 := Aside0.mk (hf2 true (by rw [hq]; rfl))
                clear hf1 hf2 hq
                go_wp2_with (fail)
                go_region
                simp only [Exit.then]
                have HB := Aside0.mk (HB.out.below (below_drew1 (Below.refl wr.heap.size wr)))
                go_wp2_with ((with_reducible refine gate_builtin (b := .append) (xs := #[.tmp 143, .tmp 148]) rfl ?_); at_builtin; refine Kd.R_append k58 (w0 := wr.drew) wl.heap.size rfl (.tmp 143) (.tmp 148) 46 69 (.agg #[.int .i64 0, .int .i64 0, .int .i64 0]) 24 rfl Try.underlying46 info69_ rfl (by decide) (by omega) _ el ⟨n, at_, z⟩ [.int .i64 n, .int .i64 at_, .int .i64 z] (fun _ => True) (fun _ => False) rfl rfl ?aP3 (fun _ hk => hk.elim) (fun _ _ => trivial) HB.out.er (Below.refl _ _) ?aS3 ?aL3 ?_; (case aP3 => exact k58_mkM _ _ _ _); (case aS3 => exact HB.out.bel.size); (case aL3 => have := HLEN.out; omega); intro v6 w6 hR6 hB6 hg6 hat; have H6 := Aside0.mk (HB.out.left hR6 hg6); clear hR6 hB6 hg6 hat)
                go_roundw
                case rel =>
                  refine ⟨j + 1, ol, el ++ [⟨n, at_, z⟩], by first | rfl | simp, ⟨by have := HJ.out; omega⟩, ⟨?_, ?_⟩, ⟨by first | exact H6.out | exact H6.out.below (below_drew1 (Below.refl _ _))⟩⟩
                  · rw [HF1.out]; simpa using HEQ.out.1
                  · rw [HF2.out, ← HEQ.out.2]; rfl
                case measure => have := HJ.out; simp [intOf]; omega
            · have hq : farQ r ⟨n, at_, z⟩ = false := by unfold farQ; rw [decide_eq_false hs, Bool.false_and]
              have hr1 := eq_false (show ¬ (0 : Int) < (r.length : Int) by omega)
              have hr2 := eq_false hs
              have hr4 : decide ((r.length : Int) > 0) = false := decide_eq_false (by omega)
              have hr5 : decide (0 < r.length) = false := decide_eq_false (by omega)
              have hr7 : decide (0 < (r.length : Int)) = false := decide_eq_false (by omega)
              clear hxr hs d1 n1 rows hRR hmem
              have HF1 := Aside0.mk (hf1 false hq)
              have HF2 := Aside0.mk (hf2 true (by rw [hq]; rfl))
              clear hf1 hf2 hq
              go_wp2_with (fail)
              go_region
              simp only [Exit.then]
              have HB := Aside0.mk (HB.out.below (below_drew1 (Below.refl wr.heap.size wr)))
              go_wp2_with ((with_reducible refine gate_builtin (b := .append) (xs := #[.tmp 143, .tmp 148]) rfl ?_); at_builtin; refine Kd.R_append k58 (w0 := wr.drew) wl.heap.size rfl (.tmp 143) (.tmp 148) 46 69 (.agg #[.int .i64 0, .int .i64 0, .int .i64 0]) 24 rfl Try.underlying46 info69_ rfl (by decide) (by omega) _ el ⟨n, at_, z⟩ [.int .i64 n, .int .i64 at_, .int .i64 z] (fun _ => True) (fun _ => False) rfl rfl ?aP3 (fun _ hk => hk.elim) (fun _ _ => trivial) HB.out.er (Below.refl _ _) ?aS3 ?aL3 ?_; (case aP3 => exact k58_mkM _ _ _ _); (case aS3 => exact HB.out.bel.size); (case aL3 => have := HLEN.out; omega); intro v6 w6 hR6 hB6 hg6 hat; have H6 := Aside0.mk (HB.out.left hR6 hg6); clear hR6 hB6 hg6 hat)
              go_roundw
              case rel =>
                refine ⟨j + 1, ol, el ++ [⟨n, at_, z⟩], by first | rfl | simp, ⟨by have := HJ.out; omega⟩, ⟨?_, ?_⟩, ⟨by first | exact H6.out | exact H6.out.below (below_drew1 (Below.refl _ _))⟩⟩
                · rw [HF1.out]; simpa using HEQ.out.1
                · rw [HF2.out, ← HEQ.out.2]; rfl
              case measure => have := HJ.out; simp [intOf]; omega
          · have M1 : decide ((j : Int) < (rl.length : Int)) = false := decide_eq_false d1
            have M1' : decide (j < rl.length) = false := decide_eq_false (by omega)
            have hend : rl.take j = rl := List.take_of_length_le (by omega)
            have HEQ3 := Aside0.mk (show ol = Led.nums (rl.filter (farQ r)) ∧ el = rl.filter (fun x => !farQ r x) by have h := HEQ.out; rw [hend] at h; exact h)
            have HA2 := Aside0.mk (HA.out.below HB.out.bel)
            obtain ⟨e0, e2, e3, e5, f0, f2, f5⟩ := HA2.out.cells
            have him : Inv m := by rw [HEQ2.out.2.2]; exact inv_told _ _ HI.out (fun x hx => (HI.out.fl x (List.mem_filter.1 hx).1).2.2)
            obtain ⟨Ao, co, hvo⟩ := Kd.R_slice HB.out.lr
            subst hvo
            obtain ⟨Ax, cx, hvx⟩ := Kd.R_slice HB.out.er
            subst hvx
            have HRS := Aside0.mk (HA2.out.reset HP3.out HG.out HA.out.keep.1 HB.out.er)
            have HLO := Aside0.mk (Kd.R_far (Kd.R_reok (ok := fun k => k ≠ g) rfl HB.out.lr (fun k hk => show k ≠ g from by have := Kd.R_base HB.out.lr k hk; have := HA.out.glt; have := HA.out.keep.1; omega)) (p := ⟨g, 0, none⟩) (fun k hk => hk) (.slice Ax el.length cx))
            have HTO := Aside0.mk (Kd.R_far HA2.out.tr (p := ⟨g, 0, none⟩) (fun k hk => hk) (.slice Ax el.length cx))
            have HOL := Aside0.mk (show ol.length ≤ 100000 by rw [HEQ3.out.1]; unfold Led.nums; rw [List.length_map]; exact Nat.le_trans (List.length_filter_le _ _) HLR.out)
            have HLS := Aside0.mk (rlose_c g { m with fl := el } (.slice Ax el.length cx) (.slice Ax el.length cx) Ao co ol w0 _ _ (RP.start HRS.out.lg HRS.out.bel) HG.out (show 0 ≤ m.win from by have := him.w0; omega) (show m.win ≤ 1073741824 from him.w1) (Kd.R_reads' HLO.out).2.2 HOL.out)
            clear d1 hend him
            go_wp2_with (go_at_call 37; (with_reducible refine (HLS.out).mono ?_); rintro e_ w7 ⟨rfl, h7⟩; have H7 := Aside0.mk h7; clear h7)
            go_ret3
            have hfin := HRS.out.trans H7.out
            have ht := rints_later HRS.out.lg HTO.out H7.out.keep
            have hl := rints_later HRS.out.lg HLO.out H7.out.keep
            refine ⟨_, _, .slice Ax el.length cx, rfl, ?_, ?_, ?_⟩
            · have e : loseN { m with fl := el } ol = rackS s r := by unfold rackS; rw [HEQ3.out.1, HEQ3.out.2, HEQ2.out.2.1, HEQ2.out.2.2]
              rw [← e]; exact hfin
            · rw [← HEQ2.out.1]; exact Kd.R_lower (Kd.R_mono ht (fun _ _ => trivial)) HB3.out.size
            · rw [← HEQ2.out.2.1, ← HEQ3.out.1]; exact Kd.R_lower (Kd.R_mono hl (fun _ _ => trivial)) (Nat.le_trans HB3.out.size HA.out.keep.1)
end Go.Proofs.Ytgdgegkokghedaa.Led
