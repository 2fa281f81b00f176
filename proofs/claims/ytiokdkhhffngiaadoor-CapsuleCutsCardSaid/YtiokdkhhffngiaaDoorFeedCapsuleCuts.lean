/- Feed's contract (law CapsuleCuts). -/
import Derived.Test.YtiokdkhhffngiaaDoorPureCapsuleCuts
import Derived.LoopN
namespace Go.Proofs.YtiokdkhhffngiaaDoor.Feed
open Go.RowKit Go.Proofs.YtiokdkhhffngiaaDoorW.PrintWords Go.Proofs.YtiokdkhhffngiaaDoorW.PrintLast Go.Proofs.YtiokdkhhffngiaaDoorW.PrintMore Go.Proofs.YtiokdkhhffngiaaDoor.PCapsuleCuts Go.Proofs.YtiokdkhhffngiaaDoor Go.Proofs.YtiokdkhhffngiaaDoor.Pure
set_option linter.unusedVariables false
set_option linter.unusedSimpArgs false
theorem info32_ : (Tryd.prog.info? 32).map (fun i => (i.zero, i.size, i.bytes)) = some (some (.agg #[.int .i64 0, .string (⟨#[]⟩ : ByteArray)]), 2, 24) := by kernel_rfl
/-- Feed's code. -/
def ecode : Bool → Int
  | true => 8
  | false => 0
def sizeAt (W : World) (g : Nat) : Nat := match W.cell? ⟨g, 0, none⟩ with | some (.string s) => s.size | _ => 0
theorem sizeAt_eq {W : World} {g : Nat} {s : ByteArray} {b : Bool} (h : W.heap[g]? = some (.cells #[.string s, .bool b] 73 (0, 0))) : sizeAt W g = s.size := by
  unfold sizeAt
  rw [(blk_cell h 0).trans (rfl : _ = some (Value.string s))]
theorem drawn_blk {w w' : World} (h : Drawn0 w w') : w'.heap = w.heap := by
  obtain ⟨n, rfl⟩ := h
  rfl
/-- A loop's state: what is told, what is left. -/
structure Lp (w0 W wr : World) (g : Nat) (v : Value) (pre : List S32) (cur : ByteArray) (b : Bool) : Prop where
  r : Kd.R k32 32 wr w0.heap.size (fun k => k ≠ g ∧ W.heap.size ≤ k) v pre
  blk : wr.heap[g]? = some (.cells #[.string cur, .bool b] 73 (0, 0))
  bel : Below w0.heap.size w0 wr
  keep : KeepBut W wr g none
theorem Lp.drewN {w0 W wr w' : World} {g : Nat} {v : Value} {pre : List S32} {cur : ByteArray} {b : Bool} (h : Lp w0 W wr g v pre cur b) (hd : Drawn0 wr w') : Lp w0 W w' g v pre cur b := by
  obtain ⟨n, rfl⟩ := hd
  exact ⟨Kd.R_drewN h.r n, blk_drewN h.blk n, pw_below_drewN h.bel n, keep_drewN h.keep n⟩
theorem Lp.set {w0 W wr : World} {g : Nat} {v : Value} {pre : List S32} {cur : ByteArray} {b : Bool} (h : Lp w0 W wr g v pre cur b) (hg : w0.heap.size ≤ g) (c2 : ByteArray) : Lp w0 W (wr.setCell ⟨g, 0, none⟩ (.string c2)) g v pre c2 b :=
  ⟨Kd.R_far h.r (fun k hk => hk.1) _, by simpa using blk_set h.blk 0 (.string c2), below_set h.bel hg, h.keep.set_ 0 _⟩
theorem Lp.setb {w0 W wr : World} {g : Nat} {v : Value} {pre : List S32} {cur : ByteArray} {b : Bool} (h : Lp w0 W wr g v pre cur b) (hg : w0.heap.size ≤ g) (b2 : Bool) : Lp w0 W (wr.setCell ⟨g, 1, none⟩ (.bool b2)) g v pre cur b2 :=
  ⟨Kd.R_far h.r (fun k hk => hk.1) _, by simpa using blk_set h.blk 1 (.bool b2), below_set h.bel hg, h.keep.set_ 1 _⟩
theorem Lp.app {w0 W w1 w2 : World} {g : Nat} {v v2 : Value} {pre pre2 : List S32} {cur : ByteArray} {b : Bool} (h : Lp w0 W w1 g v pre cur b) (hR : Kd.R k32 32 w2 w0.heap.size (fun k => k ≠ g ∧ W.heap.size ≤ k) v2 pre2) (hB : Below w0.heap.size w0 w2) (hgr : w1.grownBy w2 v.ownBlock) : Lp w0 W w2 g v2 pre2 cur b := by
  refine ⟨hR, (hgr.block g (blk_lt h.blk) (fun he => (h.r.1 g he.symm).1 rfl)).trans h.blk, hB, ?_⟩
  refine h.keep.trans (KeepBut.of_grown hgr g) ?_
  cases he : v.ownBlock with
  | none => exact .inl rfl
  | some k => exact .inr ⟨k, rfl, (h.r.1 k he).2⟩
set_option maxHeartbeats 8000000 in
set_option maxRecDepth 100000 in
theorem feed_bad (g : Nat) (f0 s : ByteArray) (W : World) (hb : W.heap[g]? = some (.cells #[.string f0, .bool true] 73 (0, 0))) :
    Calls Tryd.prog 9 #[.pointer (some ⟨g, 0, none⟩), .string s] W fun e w' => e = .returned (.tuple #[.slice none 0 0, .int .i64 8]) ∧ W = w' := by
  have hc1 : W.cell? ⟨g, 1, none⟩ = some (.bool true) := (blk_cell hb 1).trans rfl
  clear hb
  go_enter Tryd.func9, Tryd.ntmps9
  go_wp2_with (fail)
  go_ret2
  exact ⟨rfl, rfl⟩
set_option maxHeartbeats 8000000 in
set_option maxRecDepth 100000 in
theorem feed_c (g : Nat) (f0 s : ByteArray) (l : List S32) (t : ByteArray) (b : Bool) (w0 W : World) (hb : W.heap[g]? = some (.cells #[.string f0, .bool false] 73 (0, 0))) (hg : w0.heap.size ≤ g) (hB : Below w0.heap.size w0 W)
    (hT : Kd.C (Kd.int .i64) w0 (some ⟨0, 0, none⟩) 4 ([1, 2, 4, 8] : List Int)) (hd : Drains (f0 ++ s) l t b) (hz : f0.size + s.size ≤ 100000) :
    Calls Tryd.prog 9 #[.pointer (some ⟨g, 0, none⟩), .string s] W fun e w' => ∃ v, e = .returned (.tuple #[v, .int .i64 (ecode b)]) ∧ Lp w0 W w' g v l t b := by
  have hc0 : W.cell? ⟨g, 0, none⟩ = some (.string f0) := (blk_cell hb 0).trans rfl
  have hc1 : W.cell? ⟨g, 1, none⟩ = some (.bool false) := (blk_cell hb 1).trans rfl
  have hf0 := blk_frozen hb 0
  have hz1 := eq_true (show f0.size + s.size ≤ 9223372036854775807 by omega)
  have hz2 : decide (f0.size + s.size ≤ 9223372036854775807) = true := decide_eq_true (by omega)
  have hz3 : (9223372036854775807 < f0.size + s.size) = False := eq_false (by omega)
  have H0 : Aside0 (Lp w0 W W g (.slice none 0 0) [] f0 false) := ⟨⟨Kd.R_nil _ _ _ _ _, hb, hB, KeepBut.refl _ _ _⟩⟩
  have HG := Aside0.mk hg
  have HT := Aside0.mk hT
  have HD := Aside0.mk hd
  have HZ := Aside0.mk hz
  have HGW := Aside0.mk (blk_lt hb)
  clear hb hg hB hT hd hz
  obtain ⟨r, hr⟩ : ∃ r : Int, ecode b = r := ⟨_, rfl⟩
  rw [hr]
  have HR := Aside0.mk hr
  clear hr
  go_enter Tryd.func9, Tryd.ntmps9
  go_wp2_with (fail)
  have H1 := Aside0.mk (H0.out.set HG.out (f0 ++ s))
  clear H0 hc0 hc1 hf0 hz1 hz2 hz3
  go_loopw [6] (fun v6 wr => ∃ (A : Option Addr) (c : Nat) (pre l2 : List S32) (cur : ByteArray), v6 = .slice A pre.length c ∧ Aside0 (Lp w0 W wr g v6 pre cur false) ∧ Aside0 (Drains cur l2 t b ∧ pre ++ l2 = l ∧ pre.length + cur.size ≤ 100000)) (fun _ wr => sizeAt wr g)
  case atStart => exact ⟨none, 0, [], l, f0 ++ s, rfl, H1, ⟨HD.out, rfl, by have := HZ.out; rw [ByteArray.size_append]; simpa using this⟩⟩
  case round =>
    clear H1
    obtain ⟨A, c, pre, l2, cur, rfl, HL, HX⟩ := hrel
    obtain ⟨hdr, hpre, hsz⟩ := HX.out
    have hcell := (blk_cell HL.out.blk 0).trans (rfl : _ = some (Value.string cur))
    have hcell1 := (blk_cell HL.out.blk 1).trans (rfl : _ = some (Value.bool false))
    have hfr0 := blk_frozen HL.out.blk 0
    have hfr1 := blk_frozen HL.out.blk 1
    have hrange := pair_range cur
    obtain ⟨k, hk⟩ := (pair_ev cur).rounds
    have HSZ := Aside0.mk (sizeAt_eq HL.out.blk)
    have HTR := Aside0.mk (Kd.C_below HT.out HL.out.bel)
    have hinv := drains_inv hdr
    obtain ⟨⟨a, z, rr, q⟩, hp⟩ : ∃ p, pairv cur = p := ⟨_, rfl⟩
    rw [hp] at hk hinv hrange
    dsimp only at hinv hrange
    have HK := Aside0.mk hk
    have HPRE := Aside0.mk hpre
    have HN := Aside0.mk hsz
    have HRG := Aside0.mk hrange
    clear hk hdr hp hpre hsz hrange
    rcases hinv with ⟨rfl, h2, h3, h4, h5⟩ | ⟨rfl, h3, h4, h5⟩ | ⟨rfl, h2, h2s, h3, h4, h5⟩ | ⟨rfl, h2, h2s, l', h3, h4⟩
    · have C1 : decide (z > 4096) = true := decide_eq_true h2
      have C1' : decide (4096 < z) = true := decide_eq_true h2
      obtain rfl : r = 8 := by rw [← HR.out, h5]; rfl
      have HE := Aside0.mk (And.intro h3 (And.intro h4 h5))
      clear h2 h3 h4 h5 HR
      go_wp2_with (first | (go_at_call 27; (with_reducible refine (capsule_pair.calls k cur a z rr true _ HTR.out HK.out).mono ?_); rintro e w1 ⟨rfl, hd1⟩; have HL1 := Aside0.mk (HL.out.drewN hd1); have hcell := (blk_cell HL1.out.blk 0).trans (rfl : _ = some (Value.string cur)); have hcell1 := (blk_cell HL1.out.blk 1).trans (rfl : _ = some (Value.bool false)); have hfr0 := blk_frozen HL1.out.blk 0; have hfr1 := blk_frozen HL1.out.blk 1; clear hd1))
      go_ret2
      obtain ⟨h3, h4, h5⟩ := HE.out
      have hl : pre = l := by rw [← HPRE.out, h3, List.append_nil]
      exact ⟨_, rfl, by rw [← hl, h4, h5]; exact HL1.out.setb HG.out true⟩
    · obtain rfl : r = 0 := by rw [← HR.out, h5]; rfl
      have HE := Aside0.mk (And.intro h3 (And.intro h4 h5))
      clear h3 h4 h5 HR
      go_wp2_with (first | (go_at_call 27; (with_reducible refine (capsule_pair.calls k cur a z rr false _ HTR.out HK.out).mono ?_); rintro e w1 ⟨rfl, hd1⟩; have HL1 := Aside0.mk (HL.out.drewN hd1); have hcell := (blk_cell HL1.out.blk 0).trans (rfl : _ = some (Value.string cur)); have hcell1 := (blk_cell HL1.out.blk 1).trans (rfl : _ = some (Value.bool false)); have hfr0 := blk_frozen HL1.out.blk 0; have hfr1 := blk_frozen HL1.out.blk 1; clear hd1))
      go_ret2
      obtain ⟨h3, h4, h5⟩ := HE.out
      have hl : pre = l := by rw [← HPRE.out, h3, List.append_nil]
      exact ⟨_, rfl, by rw [← hl, h4, h5]; exact HL1.out⟩
    · have C1 : decide (z > 4096) = false := decide_eq_false h2
      have C1' : decide (4096 < z) = false := decide_eq_false h2
      have C2 : decide ((rr.size : Int) < z) = true := decide_eq_true h2s
      obtain rfl : r = 0 := by rw [← HR.out, h5]; rfl
      have HE := Aside0.mk (And.intro h3 (And.intro h4 h5))
      clear h2 h2s h3 h4 h5 HR
      go_wp2_with (first | (go_at_call 27; (with_reducible refine (capsule_pair.calls k cur a z rr true _ HTR.out HK.out).mono ?_); rintro e w1 ⟨rfl, hd1⟩; have HL1 := Aside0.mk (HL.out.drewN hd1); have hcell := (blk_cell HL1.out.blk 0).trans (rfl : _ = some (Value.string cur)); have hcell1 := (blk_cell HL1.out.blk 1).trans (rfl : _ = some (Value.bool false)); have hfr0 := blk_frozen HL1.out.blk 0; have hfr1 := blk_frozen HL1.out.blk 1; clear hd1))
      go_ret2
      obtain ⟨h3, h4, h5⟩ := HE.out
      have hl : pre = l := by rw [← HPRE.out, h3, List.append_nil]
      exact ⟨_, rfl, by rw [← hl, h4, h5]; exact HL1.out⟩
    · have C1 : decide (z > 4096) = false := decide_eq_false h2
      have C1' : decide (4096 < z) = false := decide_eq_false h2
      have C2 : decide ((rr.size : Int) < z) = false := decide_eq_false h2s
      have p0 := eq_true HRG.out.1
      have p1 := eq_true (show z ≤ (rr.size : Int) by omega)
      have HZZ := Aside0.mk (show z ≤ (rr.size : Int) by omega)
      have HE := Aside0.mk (And.intro h3 h4)
      clear h2 h2s h3 h4
      go_wp2_with (first | (go_at_call 27; (with_reducible refine (capsule_pair.calls k cur a z rr true _ HTR.out HK.out).mono ?_); rintro e w1 ⟨rfl, hd1⟩; have HL1 := Aside0.mk (HL.out.drewN hd1); have hcell := (blk_cell HL1.out.blk 0).trans (rfl : _ = some (Value.string cur)); have hcell1 := (blk_cell HL1.out.blk 1).trans (rfl : _ = some (Value.bool false)); have hfr0 := blk_frozen HL1.out.blk 0; have hfr1 := blk_frozen HL1.out.blk 1; clear hd1) | ((with_reducible refine gate_builtin (b := .append) (xs := #[.tmp 51, .tmp 57]) rfl ?_); at_builtin; refine Kd.R_append k32 (w0 := w0) w0.heap.size rfl (.tmp 51) (.tmp 57) 26 32 (.agg #[.int .i64 0, .string (⟨#[]⟩ : ByteArray)]) 24 rfl Tryd.underlying26 info32_ rfl (by decide) (by omega) (.slice A pre.length c) pre ⟨a, rr.extract 0 z.toNat⟩ [.int .i64 a, .string (rr.extract 0 z.toNat)] (fun k => k ≠ g ∧ W.heap.size ≤ k) (fun _ => False) rfl rfl ?aP (fun _ hk => hk.elim) ?aF HL1.out.r HL1.out.bel ?aS ?aL ?_; (case aP => exact k32_mkM _ _ _ _); (case aF => exact fun k hk => ⟨by have := blk_lt HL1.out.blk; omega, Nat.le_trans HL1.out.keep.1 hk⟩); (case aS => exact HL1.out.bel.size); (case aL => have := HN.out; omega); intro v1 w2 hR2 hB2 hgr hat; obtain ⟨A2, c2, rfl⟩ := Kd.R_slice hR2; have HL2 := Aside0.mk (HL1.out.app hR2 hB2 hgr); have hcell2 := (blk_cell HL2.out.blk 0).trans (rfl : _ = some (Value.string cur)); have hfr2 := blk_frozen HL2.out.blk 0; clear hR2 hB2 hgr hat))
      go_roundw
      case rel =>
        obtain ⟨h3, h4⟩ := HE.out
        have hrg := HRG.out
        refine ⟨A2, c2, pre ++ [⟨a, rr.extract 0 z.toNat⟩], l', _, by rw [List.length_append]; rfl, ⟨by have h := HL2.out.set HG.out (rr.extract z.toNat rr.size); rw [List.length_append] at h; exact h⟩, ⟨h4, by rw [← HPRE.out, h3, List.append_assoc]; rfl, ?_⟩⟩
        have := hrg.2.2.2.2.2 (by first | rfl | trivial)
        have := HN.out
        rw [List.length_append, ByteArray.size_extract]
        simp only [List.length_cons, List.length_nil]
        omega
      case measure =>
        have hrg := HRG.out
        have h1 := sizeAt_eq (HL2.out.set HG.out (rr.extract z.toNat rr.size)).blk
        have h2 := HSZ.out
        have := hrg.2.2.2.2.2 (by first | rfl | trivial)
        rw [h1, h2, ByteArray.size_extract]
        omega
theorem one_of {s r : ByteArray} {a z : Int} {l : List S32} {t x : ByteArray} {b : Bool} (hp : pairv s = (a, z, r, true)) (h2 : ¬ z > 4096) (h3 : ¬ (r.size : Int) < z) (hx : r.extract 0 z.toNat = x) (h : Drains (r.extract z.toNat r.size) l t b) : Drains s (⟨a, x⟩ :: l) t b := by
  have h1 := Drains.one (s := s) (l := l) (t := t) (b := b) (by rw [hp]) (by rw [hp]; exact h2) (by rw [hp]; exact h3) (by rw [hp]; exact h)
  rw [hp] at h1
  dsimp only at h1
  rwa [hx] at h1
theorem d1 : Drains ((⟨#[]⟩ : ByteArray) ++ (⟨#[0, 2, 97, 98, 1]⟩ : ByteArray)) [⟨0, (⟨#[97, 98]⟩ : ByteArray)⟩] (⟨#[1]⟩ : ByteArray) false := by
  have e : ((⟨#[97, 98, 1]⟩ : ByteArray).extract (2 : Int).toNat (⟨#[97, 98, 1]⟩ : ByteArray).size) = (⟨#[1]⟩ : ByteArray) := by decide +kernel
  refine one_of (r := (⟨#[97, 98, 1]⟩ : ByteArray)) (a := 0) (z := 2) (by decide +kernel) (by decide) (by decide) (by decide +kernel) ?_
  rw [e]
  exact .more (by decide +kernel)
theorem d2 : Drains ((⟨#[1]⟩ : ByteArray) ++ (⟨#[0]⟩ : ByteArray)) [⟨1, (⟨#[]⟩ : ByteArray)⟩] (⟨#[]⟩ : ByteArray) false := by
  have e : ((⟨#[]⟩ : ByteArray).extract (0 : Int).toNat (⟨#[]⟩ : ByteArray).size) = (⟨#[]⟩ : ByteArray) := by decide +kernel
  refine one_of (r := (⟨#[]⟩ : ByteArray)) (a := 1) (z := 0) (by decide +kernel) (by decide) (by decide) (by decide +kernel) ?_
  rw [e]
  exact .more (by decide +kernel)
/-- A row of one capsule: its cells. -/
theorem one_form {W : World} {base : Nat} {ok : Nat → Prop} {v : Value} {x : S32} (h : Kd.R k32 32 W base ok v [x]) : ∃ gb cap, v = .slice (some ⟨gb, 0, none⟩) 1 cap := by
  obtain ⟨gb, cap, rfl, _, _, _⟩ := Kd.R_form h (by simp)
  exact ⟨gb, cap, rfl⟩
theorem one_cells {W : World} {base gb cap : Nat} {ok : Nat → Prop} {x : S32} (h : Kd.R k32 32 W base ok (.slice (some ⟨gb, 0, none⟩) 1 cap) [x]) : W.cell? ⟨gb, 0, none⟩ = some (.int .i64 x.f0) ∧ W.cell? ⟨gb, 1, none⟩ = some (.string x.f1) := by
  obtain ⟨_, _, hC⟩ := Kd.R_reads' h
  obtain ⟨ad, c, e, _, hK, hcell⟩ := Kd.C_get hC z32 0 (by decide) (by simp)
  obtain rfl : (⟨gb, 0, none⟩ : Addr) = ad := Option.some.inj e
  obtain rfl := k32_open hK
  exact ⟨by simpa [Addr.add] using hcell 0 _ rfl, by simpa [Addr.add] using hcell 1 _ rfl⟩
set_option maxHeartbeats 8000000 in
set_option maxRecDepth 100000 in
theorem works_c (w : World) (hT : Kd.C (Kd.int .i64) w (some ⟨0, 0, none⟩) 4 ([1, 2, 4, 8] : List Int)) (kg : Nat) (hgram : capsule_Gram.f kg 4 0 (⟨#[120]⟩ : ByteArray) = some ((⟨#[1, 0, 120]⟩ : ByteArray), 0)) :
    Calls Tryd.prog 7 #[] w fun e w' => e = .returned (.bool true) ∧ Below w.heap.size w w' := by
  have HT := Aside0.mk hT
  have HGR := Aside0.mk hgram
  have HB := Aside0.mk (Below.refl w.heap.size w)
  have ec : ecode false = 0 := rfl
  clear hT hgram
  go_enter Tryd.func7, Tryd.ntmps7
  go_wp2_with (go_at_call 8; (with_reducible refine (capsule_New.calls (⟨#[]⟩ : ByteArray) false w _ HB.out rfl).mono ?_); rintro e w1 ⟨g, rfl, hI, hB1, -⟩; obtain ⟨hib, hig⟩ := hI; have HIB := Aside0.mk hib; have HIG := Aside0.mk hig; have HB1 := Aside0.mk hB1; clear hib hig hB1)
  go_at_call 9
  (with_reducible refine (feed_c g (⟨#[]⟩ : ByteArray) (⟨#[0, 2, 97, 98, 1]⟩ : ByteArray) _ _ _ w _ HIB.out HIG.out HB1.out HT.out d1 (by decide)).mono ?_)
  rintro e w2 ⟨v1, rfl, h1⟩
  obtain ⟨g1, cap1, rfl⟩ := one_form h1.r
  have HL1 := Aside0.mk h1
  clear h1
  go_wp2_with (fail)
  go_at_call 9
  (with_reducible refine (feed_c g (⟨#[1]⟩ : ByteArray) (⟨#[0]⟩ : ByteArray) _ _ _ w _ HL1.out.blk HIG.out HL1.out.bel HT.out d2 (by decide)).mono ?_)
  rintro e w3 ⟨v2, rfl, h2⟩
  obtain ⟨g2, cap2, rfl⟩ := one_form h2.r
  have HL2 := Aside0.mk h2
  clear h2
  go_wp2_with (fail)
  go_at_call 11
  (with_reducible refine (capsule_Gram.calls kg 4 0 (⟨#[120]⟩ : ByteArray) _ _ _ (Kd.C_below HT.out HL2.out.bel) HGR.out).mono ?_)
  rintro e w4 ⟨rfl, hb4⟩
  obtain ⟨a0, a1⟩ := one_cells (Kd.R_below (Kd.R_keep HL1.out.r HL2.out.keep (fun k hk => hk.1)) hb4)
  obtain ⟨b0, b1⟩ := one_cells (Kd.R_below HL2.out.r hb4)
  dsimp only at a0 a1 b0 b1
  have HB4 := Aside0.mk (below_step HL2.out.bel hb4)
  clear hb4
  go_wp2_with (fail)
  go_ret
  exact ⟨rfl, HB4.out⟩
end Go.Proofs.YtiokdkhhffngiaaDoor.Feed
