/- Layer 8: acks.Set: its state, New, Add. gen/mk_set08.py writes this text. -/
import Derived.Test.YtanebifiafghnaaReplace
import Derived.Test.YtanebifiafghnaaSearch
import Derived.Test.YtanebifiafghnaaClos
import Derived.Deep.Cut
import Derived.Deep.CutRange
namespace Go.Proofs.Ytanebifiafghnaa.Ack
open Go.RowKit Go.Deep Go.Proofs.YtanebifiafghnaaW.PrintWords Go.Proofs.YtanebifiafghnaaW.PrintLast Go.Proofs.YtanebifiafghnaaW.PrintMore Go.Proofs.Ytanebifiafghnaa.PAcksRight Go.Proofs.Ytanebifiafghnaa
set_option linter.unusedVariables false
set_option linter.unusedSimpArgs false
attribute [local go_sem] max2_int min2_int max_two min_two
structure SG (B : Nat) (w : World) (g : Nat) (l : List S35) (v : Value) : Prop where
  blk : w.heap[g]? = some (.cells #[v] 51 (0, 0))
  row : Kd.R k35 35 w B (fun k => k ≠ g) v l
theorem SG.below {B : Nat} {w w2 : World} {g : Nat} {l : List S35} {v : Value} (h : SG B w g l v) (hb : Below w.heap.size w w2) : SG B w2 g l v := ⟨blk_below h.blk hb, Kd.R_below h.row hb⟩
/-- Whose block the new row is. -/
def RO (W : World) (v v' : Value) : Prop := v'.ownBlock = v.ownBlock ∨ v'.ownBlock = none ∨ ∃ b, v'.ownBlock = some b ∧ W.heap.size ≤ b
theorem keep3 {w w1 w2 : World} {g : Nat} {v v1 : Value} {row : Option Nat} (h : KeepBut w w1 g v.ownBlock) (k : KeepBut w1 w2 g row) (hr : row = v1.ownBlock ∨ row = none) (ho : RO w v v1) : KeepBut w w2 g v.ownBlock :=
  ⟨Nat.le_trans h.1 k.1, fun i hi hg hn => (k.2 i (Nat.lt_of_lt_of_le hi h.1) hg (fun he => by
    rcases hr with e | e
    · rw [e] at he
      rcases ho with e2 | e2 | ⟨b, e2, hb⟩
      · exact hn (he.trans e2)
      · rw [e2] at he; cases he
      · rw [e2] at he; injection he with he; omega
    · rw [e] at he; cases he)).trans (h.2 i hi hg hn)⟩
theorem RO.trans {W w1 : World} {v v1 v2 : Value} (h : RO W v v1) (k : RO w1 v1 v2) (hs : W.heap.size ≤ w1.heap.size) : RO W v v2 := by
  rcases k with ho | ho | ⟨b, hb, hq⟩
  · unfold RO; rw [ho]; exact h
  · exact .inr (.inl ho)
  · exact .inr (.inr ⟨b, hb, Nat.le_trans hs hq⟩)
/-- What an act leaves. -/
structure SP (w0 W w' : World) (g : Nat) (v v' : Value) (l' : List S35) : Prop where
  lg : SG w0.heap.size w' g l' v'
  bel : Below w0.heap.size w0 w'
  keep : KeepBut W w' g v.ownBlock
  own : RO W v v'
theorem SP.start {w0 W : World} {g : Nat} {v : Value} {l : List S35} (h : SG w0.heap.size W g l v) (hB : Below w0.heap.size w0 W) : SP w0 W W g v v l := ⟨h, hB, KeepBut.refl _ _ _, .inl rfl⟩
theorem SP.below {w0 W w1 w2 : World} {g : Nat} {v v1 : Value} {l : List S35} (h : SP w0 W w1 g v v1 l) (hb : Below w1.heap.size w1 w2) : SP w0 W w2 g v v1 l :=
  ⟨h.lg.below hb, below_step h.bel hb, ⟨Nat.le_trans h.keep.1 hb.size, fun k hk hg hr => (hb.block k (Nat.lt_of_lt_of_le hk h.keep.1)).trans (h.keep.2 k hk hg hr)⟩, h.own⟩
def fineB (x : S35) : Bool := decide (0 ≤ x.f0) && decide (x.f0 ≤ x.f1) && decide (x.f1 ≤ 4611686018427387903)
theorem acks_fine_f (a b : Int) : acks_fine.f a b = some (fineB ⟨a, b⟩) := by
  unfold acks_fine.f fineB
  dsimp only
  by_cases h1 : 0 ≤ a <;> by_cases h2 : a ≤ b <;> simp [h1, h2]
theorem fineB_iff (x : S35) : fineB x = true ↔ 0 ≤ x.f0 ∧ x.f0 ≤ x.f1 ∧ x.f1 ≤ 4611686018427387903 := by simp [fineB, and_assoc]
/-- Right ranges: the greatest first, apart. -/
structure NF (l : List S35) : Prop where
  fine : ∀ x ∈ l, 0 ≤ x.f0 ∧ x.f0 ≤ x.f1 ∧ x.f1 ≤ 4611686018427387903
  apart : l.Pairwise (fun x y => y.f1 + 1 < x.f0)
/-- Where p turns from false to true. -/
structure Turn (n r : Nat) (p : Nat → Bool) : Prop where
  lt : ∀ t, t < r → p t = false
  ge : ∀ t, r ≤ t → t < n → p t = true
  le : r ≤ n
theorem turn_ex (n : Nat) (p : Nat → Bool) (hm : ∀ a b, a ≤ b → b < n → p a = true → p b = true) : ∃ r, Turn n r p := by
  induction n with
  | zero => exact ⟨0, fun t h => absurd h (Nat.not_lt_zero _), fun t _ h => absurd h (Nat.not_lt_zero _), Nat.le_refl _⟩
  | succ n ih =>
    obtain ⟨r, h1, h2, h3⟩ := ih (fun a b hab hb => hm a b hab (by omega))
    rcases Nat.lt_or_ge r n with hr | hr
    · exact ⟨r, h1, fun t ht htn => hm r t ht htn (h2 r (Nat.le_refl _) hr), by omega⟩
    · obtain rfl : r = n := by omega
      cases hp : p r with
      | true => exact ⟨r, h1, fun t ht htn => by obtain rfl : t = r := by omega
                                                 exact hp, by omega⟩
      | false => exact ⟨r + 1, fun t ht => by
          rcases Nat.lt_or_ge t r with h | h
          · exact h1 t h
          · obtain rfl : t = r := by omega
            exact hp, fun t ht htn => by omega, by omega⟩
theorem below_drawn0 {w w1 w2 : World} (h : Below w.heap.size w w1) (hd : Drawn0 w1 w2) : Below w.heap.size w w2 := by
  obtain ⟨n, rfl⟩ := hd
  exact pw_below_drewN h n
theorem add_block (ad : Addr) (k : Nat) : (ad.add k).block = ad.block := by unfold Addr.add; split <;> rfl
theorem cell_other {w : World} {a b : Addr} {u : Value} (hne : b.block ≠ a.block) : (w.setCell a u).cell? b = w.cell? b := by
  unfold World.cell?
  rw [Below.heap_setCell w a u b.block hne]
theorem blk_apart {α : Type} {d : Kd α} {e b t g : Nat} {ok : Nat → Prop} {w : World} {v : Value} {xs : List α} {cs : Array Value} (h : d.R e w b ok v xs) (hb : w.heap[g]? = some (.cells cs t (0, 0))) (hne : e ≠ t) : some g ≠ v.ownBlock := fun he => by
  obtain ⟨c1, h1⟩ := Kd.R_typed h g he.symm
  rw [hb] at h1
  injection h1 with h1
  injection h1 with _ h1 _
  exact hne h1.symm
theorem getD_mem {l : List S35} {i : Nat} (h : i < l.length) : l.getD i z35 ∈ l := by rw [List.getD_eq_getElem?_getD, List.getElem?_eq_getElem h]; exact List.getElem_mem _
theorem getD_eq {l : List S35} {i : Nat} (h : i < l.length) : l.getD i z35 = l[i] := by rw [List.getD_eq_getElem?_getD, List.getElem?_eq_getElem h]; rfl
theorem NF.lt {l : List S35} (h : NF l) {a b : Nat} (hab : a < b) (hb : b < l.length) : (l.getD b z35).f1 + 1 < (l.getD a z35).f0 := by
  rw [getD_eq hb, getD_eq (show a < l.length by omega)]
  exact List.pairwise_iff_getElem.1 h.apart a b (by omega) hb hab
theorem NF.turn1 {l : List S35} (h : NF l) (hi : Int) : ∃ r, Turn l.length r (fun t => decide ((l.getD t z35).f0 ≤ hi + 1)) :=
  turn_ex _ _ (fun a b hab hb ha => by
    rcases Nat.eq_or_lt_of_le hab with e | e
    · subst e; exact ha
    · have h1 := h.lt e hb
      have h2 := h.fine _ (getD_mem hb)
      have h3 := of_decide_eq_true ha
      exact decide_eq_true (by omega))
theorem NF.turn2 {l : List S35} (h : NF l) (lo : Int) : ∃ r, Turn l.length r (fun t => decide ((l.getD t z35).f1 + 1 < lo)) :=
  turn_ex _ _ (fun a b hab hb ha => by
    rcases Nat.eq_or_lt_of_le hab with e | e
    · subst e; exact ha
    · have h1 := h.lt e hb
      have h2 := h.fine _ (getD_mem (show a < l.length by omega))
      have h3 := of_decide_eq_true ha
      exact decide_eq_true (by omega))
/-- What Add makes of the ranges. -/
def newR (l : List S35) (lo hi : Int) (fr up : Nat) : S35 := if fr < up then ⟨min lo (l.getD (up - 1) z35).f0, max hi (l.getD fr z35).f1⟩ else ⟨lo, hi⟩
structure AddR (l l' : List S35) (lo hi : Int) : Prop where
  out : ∃ fr up, Turn l.length fr (fun t => decide ((l.getD t z35).f0 ≤ hi + 1)) ∧ Turn l.length up (fun t => decide ((l.getD t z35).f1 + 1 < lo)) ∧ l' = (l.take fr ++ newR l lo hi fr up :: l.drop (max fr up)).take 16
structure UpF (n fr up : Nat) : Prop where
  d1 : decide ((fr : Int) < (up : Int)) = true
  d2 : decide (fr < up) = true
  w1 : wrap64 ((up : Int) - 1) = ((up - 1 : Nat) : Int) ∧ IntKind.i64.wrap ((up : Int) - 1) = ((up - 1 : Nat) : Int)
  q1 : ((0 : Int) ≤ ((up - 1 : Nat) : Int)) = True
  q2 : (((up - 1 : Nat) : Int) < (n : Int)) = True
  q3 : (up - 1 < n) = True
  q4 : ((0 : Int) ≤ (fr : Int)) = True
  q5 : ((fr : Int) < (n : Int)) = True
  q6 : (fr < n) = True
theorem upF {n fr up : Nat} (h : fr < up) (hu : up ≤ n) (hn : n ≤ 16) : UpF n fr up := by
  have hw : wrap64 ((up : Int) - 1) = ((up - 1 : Nat) : Int) := by unfold wrap64; omega
  exact ⟨decide_eq_true (by omega), decide_eq_true h, ⟨hw, (i64_w _).trans hw⟩, eq_true (by omega), eq_true (by omega), eq_true (by omega), eq_true (by omega), eq_true (by omega), eq_true (by omega)⟩
set_option maxHeartbeats 8000000 in
set_option maxRecDepth 100000 in
theorem new_c (W : World) : Calls Try.prog 12 #[] W fun e w' => ∃ g, e = .returned (.pointer (some ⟨g, 0, none⟩)) ∧ W.heap.size ≤ g ∧ w'.heap[g]? = some (.cells #[.slice none 0 0] 51 (0, 0)) ∧ Below W.heap.size W w' := by
  go_enter Try.func12, Try.ntmps12
  go_wp2_with (first | ((with_reducible refine gate_dst (N := 2) rfl ?_); refine box_event ?hg (N := 2) ?hd (cs := #[.slice none 0 0]) (t := 51) ?hr ?_; (case hd => rfl); (case hg => rfl); (case hr => first | (go_simp; done) | (go_simp; rfl)); intro gb hgb w1 hbox hb; have HB1 := Aside0.mk hb; have HBX := Aside0.mk hbox; have HGB := Aside0.mk hgb; clear hgb hbox hb))
  go_ret
  first | exact ⟨gb, rfl, by first | exact HGB.out | exact Nat.le_of_eq HGB.out | exact Nat.le_of_eq HGB.out.symm, HBX.out, HB1.out⟩ | exact ⟨_, rfl, Nat.le_refl _, blk_new _ _, below_alloc (Below.refl _ _) _⟩
set_option maxHeartbeats 8000000 in
set_option maxRecDepth 100000 in
theorem add_bad (w0 W w1 : World) (g : Nat) (v v1 : Value) (l : List S35) (lo hi : Int) (h : SP w0 W w1 g v v1 l) (hg : w0.heap.size ≤ g) (hbad : fineB ⟨lo, hi⟩ = false) :
    Calls Try.prog 13 #[.pointer (some ⟨g, 0, none⟩), .int .i64 lo, .int .i64 hi] w1 fun e w' => e = .returned (.int .i64 2) ∧ SP w0 W w' g v v1 l := by
  have HP := Aside0.mk h
  have HFI := Aside0.mk (fun w => acks_fine.calls lo hi false w (by rw [acks_fine_f, hbad]))
  clear h hg hbad
  go_enter Try.func13, Try.ntmps13
  go_wp2_with (first | ((with_reducible refine gate_dst (N := 3) rfl ?_); refine box_event ?hg3 (N := 3) ?hd3 (cs := [.pointer (some ⟨g, 0, none⟩)].toArray) (t := 29) ?hr3 ?_; (case hd3 => rfl); (case hg3 => rfl); (case hr3 => first | (go_simp; done) | (go_simp; rfl)); intro bS hbS w2 hx hb; have HX2 := Aside0.mk hx; have HB2 := Aside0.mk hb; have HS := Aside0.mk hbS; clear hbS hx hb) | ((with_reducible refine gate_dst (N := 4) rfl ?_); refine box_event ?hg4 (N := 4) ?hd4 (cs := [.int .i64 lo].toArray) (t := 2) ?hr4 ?_; (case hd4 => rfl); (case hg4 => rfl); (case hr4 => first | (go_simp; done) | (go_simp; rfl)); intro bL hbL w3 hx hb; have HX3 := Aside0.mk (blk_below HX2.out hb); have HL3 := Aside0.mk hx; have HB3 := Aside0.mk (below_step HB2.out hb); have HLE := Aside0.mk hbL; clear hbL hx hb) | ((with_reducible refine gate_dst (N := 5) rfl ?_); refine box_event ?hg5 (N := 5) ?hd5 (cs := [.int .i64 hi].toArray) (t := 2) ?hr5 ?_; (case hd5 => rfl); (case hg5 => rfl); (case hr5 => first | (go_simp; done) | (go_simp; rfl)); intro bH hbH w4 hx hb; have HX4 := Aside0.mk (blk_below HX3.out hb); have HL4 := Aside0.mk (blk_below HL3.out hb); have HH4 := Aside0.mk hx; have HB4 := Aside0.mk (below_step HB3.out hb); have HHE := Aside0.mk hbH; have cl := (show _ = some (Value.int .i64 lo) from (blk_cell HL4.out 0).trans rfl); have ch := (show _ = some (Value.int .i64 hi) from (blk_cell hx 0).trans rfl); clear hbH hx hb) | (go_at_call 20; (with_reducible refine (HFI.out _).mono ?_); rintro e_ w5 ⟨rfl, hd⟩; have HD5 := Aside0.mk hd; clear hd))
  go_ret
  obtain ⟨nd, hnd⟩ := HD5.out
  exact ⟨rfl, (HP.out.below HB4.out).below (by rw [hnd]; exact pw_below_drewN (Below.refl _ _) nd)⟩
set_option maxHeartbeats 8000000 in
set_option maxRecDepth 100000 in
theorem add_ok (w0 W w1 : World) (g : Nat) (v v1 : Value) (l : List S35) (lo hi : Int) (h : SP w0 W w1 g v v1 l) (hg : w0.heap.size ≤ g) (hN : NF l) (hl : l.length ≤ 16) (hok : fineB ⟨lo, hi⟩ = true) :
    Calls Try.prog 13 #[.pointer (some ⟨g, 0, none⟩), .int .i64 lo, .int .i64 hi] w1 fun e w' => ∃ v2 l', e = .returned (.int .i64 0) ∧ SP w0 W w' g v v2 l' ∧ AddR l l' lo hi := by
  obtain ⟨h0, h1, h2⟩ := (fineB_iff _).1 hok
  dsimp only at h0 h1 h2
  obtain ⟨fr, hfr⟩ := hN.turn1 hi
  obtain ⟨up, hup⟩ := hN.turn2 lo
  obtain ⟨A, c, rfl⟩ := Kd.R_slice h.lg.row
  have HP := Aside0.mk h
  have HG := Aside0.mk hg
  have HN := Aside0.mk hN
  have HLN := Aside0.mk hl
  have HFR := Aside0.mk hfr
  have HUP := Aside0.mk hup
  have HR0 := Aside0.mk (And.intro h0 (And.intro h1 h2))
  have HFI := Aside0.mk (fun w => acks_fine.calls lo hi true w (by rw [acks_fine_f, hok]))
  have hnc := (Kd.R_reads' h.lg.row).2.1
  have HNC := Aside0.mk hnc
  clear h hg hN hl hfr hup h0 h1 h2 hok hnc
  go_enter Try.func13, Try.ntmps13
  go_upto_region 3 with (first | ((with_reducible refine gate_dst (N := 3) rfl ?_); refine box_event ?hg3 (N := 3) ?hd3 (cs := [.pointer (some ⟨g, 0, none⟩)].toArray) (t := 29) ?hr3 ?_; (case hd3 => rfl); (case hg3 => rfl); (case hr3 => first | (go_simp; done) | (go_simp; rfl)); intro bS hbS w2 hx hb; have HX2 := Aside0.mk hx; have HB2 := Aside0.mk hb; have HS := Aside0.mk hbS; clear hbS hx hb) | ((with_reducible refine gate_dst (N := 4) rfl ?_); refine box_event ?hg4 (N := 4) ?hd4 (cs := [.int .i64 lo].toArray) (t := 2) ?hr4 ?_; (case hd4 => rfl); (case hg4 => rfl); (case hr4 => first | (go_simp; done) | (go_simp; rfl)); intro bL hbL w3 hx hb; have HX3 := Aside0.mk (blk_below HX2.out hb); have HL3 := Aside0.mk hx; have HB3 := Aside0.mk (below_step HB2.out hb); have HLE := Aside0.mk hbL; clear hbL hx hb) | ((with_reducible refine gate_dst (N := 5) rfl ?_); refine box_event ?hg5 (N := 5) ?hd5 (cs := [.int .i64 hi].toArray) (t := 2) ?hr5 ?_; (case hd5 => rfl); (case hg5 => rfl); (case hr5 => first | (go_simp; done) | (go_simp; rfl)); intro bH hbH w4 hx hb; have HX4 := Aside0.mk (blk_below HX3.out hb); have HL4 := Aside0.mk (blk_below HL3.out hb); have HH4 := Aside0.mk hx; have HB4 := Aside0.mk (below_step HB3.out hb); have HHE := Aside0.mk hbH; have cl := (show _ = some (Value.int .i64 lo) from (blk_cell HL4.out 0).trans rfl); have ch := (show _ = some (Value.int .i64 hi) from (blk_cell hx 0).trans rfl); clear hbH hx hb) | (go_at_call 20; (with_reducible refine (HFI.out _).mono ?_); rintro e_ w5 ⟨rfl, hd⟩; have HD5 := Aside0.mk hd; clear hd))
  obtain ⟨nd, hnd⟩ := HD5.out
  have hb45 : Below w4.heap.size w4 w5 := by rw [hnd]; exact pw_below_drewN (Below.refl _ _) nd
  have HB5 := Aside0.mk (below_step HB4.out hb45)
  have HX5 := Aside0.mk (blk_below HX4.out hb45)
  have HL5 := Aside0.mk (blk_below HL4.out hb45)
  have HH5 := Aside0.mk (blk_below HH4.out hb45)
  have HP5 := Aside0.mk (HP.out.below HB5.out)
  have HBS := Aside0.mk (show w1.heap.size ≤ bS ∧ w1.heap.size ≤ bL ∧ w1.heap.size ≤ bH ∧ bS ≠ bL ∧ bS ≠ bH ∧ bL ≠ bH by have a1 := blk_lt HX2.out; have a2 := blk_lt HL3.out; have a3 := blk_lt HX3.out; have b1 := HS.out; have b2 := HLE.out; have b3 := HHE.out; have b4 := HB2.out.size; have b5 := HB3.out.size; omega)
  clear hnd hb45 HD5 HX4 HL4 HH4 HB4 HX3 HL3 HB3 HX2 HB2 HS HLE HHE cl ch
  have HC5 := Aside0.mk (Kd.R_reads' HP5.out.lg.row).2.2
  have HSE1 := Aside0.mk (show See w5 bS bH g c A l hi from ⟨HX5.out, HH5.out, HP5.out.lg.blk, HC5.out⟩)
  have HSE2 := Aside0.mk (show See w5 bS bL g c A l lo from ⟨HX5.out, HL5.out, HP5.out.lg.blk, HC5.out⟩)
  have HQ1 := Aside0.mk (search_c 23 #[.pointer (some ⟨bS, 0, none⟩), .pointer (some ⟨bH, 0, none⟩)] l.length fr _ w5 (fun args w => by go_simp) (by have := HLN.out; omega) (fun m i hi_ => by have hm := HN.out.fine _ (getD_mem hi_); have hq := add1_c (w5.drewN m) bS bH g c i A l hi (HSE1.out.below (pw_below_drewN (Below.refl _ _) m)) hi_ hm.1 (by omega) (by have := HR0.out; omega) (by have := HR0.out; omega); simpa using hq) HFR.out.lt HFR.out.ge HFR.out.le)
  have HQ2 := Aside0.mk (fun w6 (hb6 : Below w5.heap.size w5 w6) => search_c 24 #[.pointer (some ⟨bS, 0, none⟩), .pointer (some ⟨bL, 0, none⟩)] l.length up _ w6 (fun args w => by go_simp) (by have := HLN.out; omega) (fun m i hi_ => by have hm := HN.out.fine _ (getD_mem hi_); have hq := add2_c (w6.drewN m) bS bL g c i A l lo (HSE2.out.below (below_step hb6 (pw_below_drewN (Below.refl _ _) m))) hi_ (by omega) hm.2.2 (by have := HR0.out; omega) (by have := HR0.out; omega); simpa using hq) HUP.out.lt HUP.out.ge HUP.out.le)
  have cS := (show _ = some (Value.pointer (some ⟨g, 0, none⟩)) from (blk_cell HX5.out 0).trans rfl)
  have cG := (show _ = some (Value.slice A l.length c) from (blk_cell HP5.out.lg.blk 0).trans rfl)
  go_upto_if 29 with (first | (go_at_call 22; (with_reducible refine (HQ1.out).mono ?_); rintro e_ w6 ⟨rfl, hd⟩; have hb6 : Below w5.heap.size w5 w6 := below_drawn0 (Below.refl _ _) hd; have HB6 := Aside0.mk hb6; have cS6 := (hb6.cell (blk_lt HX5.out)).trans cS; have cG6 := (hb6.cell (blk_lt HP5.out.lg.blk)).trans cG; clear hd hb6) | (go_at_call 22; (with_reducible refine (HQ2.out w6 HB6.out).mono ?_); rintro e_ w7 ⟨rfl, hd⟩; have HB7 := Aside0.mk (below_drawn0 HB6.out hd); clear hd))
  obtain ⟨x, hx⟩ : ∃ x, newR l lo hi fr up = x := ⟨_, rfl⟩
  have HXE := Aside0.mk hx
  clear hx cS cG cS6 cG6 HQ1 HQ2
  go_cut [] from 9 to 80 (fun wc => Aside0 (Below w1.heap.size w1 wc) ∧ Aside0 (wc.heap[bS]? = some (.cells #[.pointer (some ⟨g, 0, none⟩)] 29 (0, 0))) ∧ Aside0 (wc.heap[bL]? = some (.cells #[.int .i64 x.f0] 2 (0, 0))) ∧ Aside0 (wc.heap[bH]? = some (.cells #[.int .i64 x.f1] 2 (0, 0))))
  case first =>
    obtain ⟨xl, xh⟩ := x
    have HL7 := Aside0.mk (blk_below HL5.out HB7.out)
    have HH7 := Aside0.mk (blk_below HH5.out HB7.out)
    have HS7 := Aside0.mk (blk_below HX5.out HB7.out)
    have HB71 := Aside0.mk (below_step HB5.out HB7.out)
    by_cases hd : fr < up
    · have HMN := Aside0.mk (show min lo (l.getD (up - 1) z35).f0 = xl ∧ max hi (l.getD fr z35).f1 = xh by have h := HXE.out; unfold newR at h; rw [if_pos hd] at h; injection h with h1 h2; exact ⟨h1, h2⟩)
      have hupf := upF hd HUP.out.le HLN.out
      obtain ⟨ad, hA, y0, -⟩ := at35 (Kd.C_below HC5.out HB7.out) (up - 1) (by have := HUP.out.le; omega)
      obtain ⟨ad2, hA2, -, y1⟩ := at35 (Kd.C_below HC5.out HB7.out) fr (by have := HUP.out.le; omega)
      obtain rfl : ad = ad2 := Option.some.inj (hA.symm.trans hA2)
      obtain ⟨ad3, hA3, o0, -⟩ := at35 (Kd.R_reads' HP.out.lg.row).2.2 fr (by have := HUP.out.le; omega)
      obtain rfl : ad = ad3 := Option.some.inj (hA.symm.trans hA3)
      clear hA3
      subst hA
      generalize (l.getD (up - 1) z35).f0 = a at y0 HMN
      generalize (l.getD fr z35).f1 = b at y1 HMN
      have Hmn := Aside0.mk HMN.out.1
      have Hmx := Aside0.mk HMN.out.2
      have mn0 : min lo a = xl := Hmn.out
      have mn1 : (if lo ≤ a then lo else a) = xl := by rw [← Hmn.out]; split <;> omega
      have mn2 : (if lo < a then lo else a) = xl := by rw [← Hmn.out]; split <;> omega
      have mn3 : (if a ≤ lo then a else lo) = xl := by rw [← Hmn.out]; split <;> omega
      have mn4 : (if a < lo then a else lo) = xl := by rw [← Hmn.out]; split <;> omega
      have mx0 : max hi b = xh := Hmx.out
      have mx1 : (if hi ≤ b then b else hi) = xh := by rw [← Hmx.out]; split <;> omega
      have mx2 : (if hi < b then b else hi) = xh := by rw [← Hmx.out]; split <;> omega
      have mx3 : (if b ≤ hi then hi else b) = xh := by rw [← Hmx.out]; split <;> omega
      have mx4 : (if b < hi then hi else b) = xh := by rw [← Hmx.out]; split <;> omega
      have cL := (show _ = some (Value.int .i64 lo) from (blk_cell HL7.out 0).trans rfl)
      have cH := (show _ = some (Value.int .i64 hi) from (blk_cell HH7.out 0).trans rfl)
      have cS := (show _ = some (Value.pointer (some ⟨g, 0, none⟩)) from (blk_cell HS7.out 0).trans rfl)
      have cG := (show _ = some (Value.slice (some ad) l.length c) from (blk_cell (blk_below HP5.out.lg.blk HB7.out) 0).trans rfl)
      have fL := blk_frozen HL7.out 0
      have fH := blk_frozen HH7.out 0
      have nLH : (bL == bH) = false := beq_eq_false_iff_ne.2 HBS.out.2.2.2.2.2
      have nHL : (bH == bL) = false := beq_eq_false_iff_ne.2 HBS.out.2.2.2.2.2.symm
      have nl := HBS.out.2.2.2.2.2
      have nl2 := HBS.out.2.2.2.2.2.symm
      have pd := eq_true hd
      have pd2 := eq_true (show (fr : Int) < (up : Int) by omega)
      have hold := (World.block_lt_of_cell? _ _ o0)
      rw [add_block] at hold
      have na : ad.block ≠ bL := by have := HBS.out.2.1; omega
      have na2 : ad.block ≠ bH := by have := HBS.out.2.2.1; omega
      have ng : g ≠ bL := by have := HBS.out.2.1; have := blk_lt HP.out.lg.blk; omega
      have ng2 : g ≠ bH := by have := HBS.out.2.2.1; have := blk_lt HP.out.lg.blk; omega
      have ns : bS ≠ bL := HBS.out.2.2.2.1
      have ns2 : bS ≠ bH := HBS.out.2.2.2.2.1
      have fa := eq_false na
      have fa2 := eq_false na2
      have fg := eq_false ng
      have fg2 := eq_false ng2
      have fs := eq_false ns
      have fs2 := eq_false ns2
      have fl := eq_false nl
      have fl2 := eq_false nl2
      clear hd hA2 hold o0
      obtain ⟨d1, d2, ⟨w1_, w2_⟩, q1, q2, q3, q4, q5, q6⟩ := hupf
      have cH8 := (cell_other (w := w7.drew) (a := ⟨bL, 0, none⟩) (u := .int .i64 xl) (b := ⟨bH, 0, none⟩) nl2).trans cH
      have cS8 := (cell_other (w := w7.drew) (a := ⟨bL, 0, none⟩) (u := .int .i64 xl) (b := ⟨bS, 0, none⟩) ns).trans cS
      have cG8 := (cell_other (w := w7.drew) (a := ⟨bL, 0, none⟩) (u := .int .i64 xl) (b := ⟨g, 0, none⟩) ng).trans cG
      have y18 := (cell_other (w := w7.drew) (a := ⟨bL, 0, none⟩) (u := .int .i64 xl) (b := ⟨(ad.add (fr * 2)).block, (ad.add (fr * 2)).off + 1, none⟩) (by rw [add_block]; exact na)).trans y1
      go_wp2_with (fail)
      rotate_left
      · exact absurd (of_eq_true pd) (by assumption)
      refine Calm.wp_region_calmC [(0, fun w_ => w_.cell? ⟨bL, 0, none⟩ = some (.int .i64 lo)), (1, fun w_ => w_.cell? ⟨bS, 0, none⟩ = some (.pointer (some ⟨g, 0, none⟩))), (4, fun w_ => w_.cell? ⟨g, 0, none⟩ = some (.slice (some ad) l.length c)), (9, fun w_ => w_.cell? (ad.add ((up - 1) * 2)) = some (.int .i64 a)), (11, fun w_ => w_.cell? ⟨bH, 0, none⟩ = some (.int .i64 hi)), (12, fun w_ => w_.cell? ⟨bS, 0, none⟩ = some (.pointer (some ⟨g, 0, none⟩))), (15, fun w_ => w_.cell? ⟨g, 0, none⟩ = some (.slice (some ad) l.length c)), (19, fun w_ => w_.cell? ⟨(ad.add (fr * 2)).block, (ad.add (fr * 2)).off + 1, none⟩ = some (.int .i64 b))] [0, 1, 2, 3, 4, 5, 6, 7, 8, 9, 10, 11, 12, 13, 14, 15, 16, 17, 18, 19, 20] [21, 22] (by kernel_rfl) (by kernel_rfl) (Calm.allC_cons (by exact cL) (Calm.allC_cons (by exact cS) (Calm.allC_cons (by exact cG) (Calm.allC_cons (by exact y0) (Calm.allC_cons (by exact cH) (Calm.allC_cons (by exact cS) (Calm.allC_cons (by exact cG) (Calm.allC_cons (by exact y1) Calm.allC_nil)))))))) ?_
      repeat (first
        | (refine Calm.g_value (v := ?_) (a' := ?_) rfl rfl (by rfl) ?_ ?_ ?_; rotate_left; (· rintro w' hS'; (try simp only [Calm.SC_cons, Calm.SC_nil, Nat.reduceEqDiff, forall_const, false_implies, and_true, true_and] at hS'); (try obtain ⟨hS1, hS2⟩ := hS'); go_simp; with_reducible rfl); rotate_left; (· simp only [Act.put, List.setIfInBounds_toArray, List.set_cons_zero, List.set_cons_succ, i64_w, i32_w]; rfl)))
      refine Calm.g_nil ?_
      refine Calm.c_store (w1 := ?_) rfl (by rfl) rfl ?_ ?_ ?_
      rotate_left
      · go_simp; rfl
      · repeat (first | exact Calm.okC_nil | (refine Calm.okC_cons (Or.inl (by decide +kernel)) ?_) | (refine Calm.okC_cons (Or.inr (by (first | exact cH8 | exact cS8 | exact cG8 | exact y18))) ?_))
      refine Calm.c_store (w1 := ?_) rfl (by rfl) rfl ?_ ?_ ?_
      rotate_left
      · go_simp; rfl
      · repeat (first | exact Calm.okC_nil | (refine Calm.okC_cons (Or.inl (by decide +kernel)) ?_) | (refine Calm.okC_cons (Or.inr (by fail)) ?_))
      refine Calm.h_nil ?_
      simp only [Exit.inBlock, Exit.then]
      go_wp2_with (fail)
      go_meet
      case rel =>
        have hl1 := blk_set HL7.out 0 (.int .i64 xl)
        have hh1 := (Below.heap_setCell w7 ⟨bL, 0, none⟩ (.int .i64 xl) bH nl2).trans HH7.out
        have hs1 := (Below.heap_setCell w7 ⟨bL, 0, none⟩ (.int .i64 xl) bS HBS.out.2.2.2.1).trans HS7.out
        have hh2 := blk_set hh1 0 (.int .i64 xh)
        have hl2 := (Below.heap_setCell _ ⟨bH, 0, none⟩ (.int .i64 xh) bL nl).trans hl1
        have hs2 := (Below.heap_setCell _ ⟨bH, 0, none⟩ (.int .i64 xh) bS HBS.out.2.2.2.2.1).trans hs1
        have hb2 := below_set (j := 0) (v := .int .i64 xh) (below_set (j := 0) (v := .int .i64 xl) HB71.out HBS.out.2.1) HBS.out.2.2.1
        first | exact ⟨⟨hb2⟩, ⟨hs2⟩, ⟨hl2⟩, ⟨hh2⟩⟩ | exact ⟨⟨below_drew1 hb2⟩, ⟨hs2⟩, ⟨hl2⟩, ⟨hh2⟩⟩
    · have hxe := HXE.out
      unfold newR at hxe
      rw [if_neg hd] at hxe
      injection hxe with e1 e2
      subst e1 e2
      have d1 : decide ((fr : Int) < (up : Int)) = false := decide_eq_false (by omega)
      have d2 : decide (fr < up) = false := decide_eq_false hd
      have pd := eq_false hd
      have pd2 := eq_false (show ¬ (fr : Int) < (up : Int) by omega)
      go_wp2_with (fail)
      all_goals (try (exfalso; omega))
      go_meet
      case rel => exact ⟨HB71, HS7, HL7, HH7⟩
  case rest =>
    obtain ⟨HBc, HSc, HLc, HHc⟩ := hcut
    have HPc := Aside0.mk (HP.out.below HBc.out)
    obtain ⟨mx, hmx⟩ : ∃ mx, max fr up = mx := ⟨_, rfl⟩
    have HMX := Aside0.mk hmx
    have hmi : max (fr : Int) (up : Int) = (mx : Int) := by omega
    have Hmz := Aside0.mk hmi
    have mz0 : max (fr : Int) (up : Int) = (mx : Int) := Hmz.out
    have mz1 : (if (fr : Int) ≤ (up : Int) then (up : Int) else (fr : Int)) = (mx : Int) := by rw [← Hmz.out]; split <;> omega
    have mz2 : (if (fr : Int) < (up : Int) then (up : Int) else (fr : Int)) = (mx : Int) := by rw [← Hmz.out]; split <;> omega
    have mz3 : (if (up : Int) ≤ (fr : Int) then (fr : Int) else (up : Int)) = (mx : Int) := by rw [← Hmz.out]; split <;> omega
    have mz4 : (if (up : Int) < (fr : Int) then (fr : Int) else (up : Int)) = (mx : Int) := by rw [← Hmz.out]; split <;> omega
    have MX0 : max fr up = mx := HMX.out
    have MX1 : (if fr ≤ up then up else fr) = mx := by rw [← HMX.out]; split <;> omega
    have MX2 : (if fr < up then up else fr) = mx := by rw [← HMX.out]; split <;> omega
    have MX3 : (if up ≤ fr then fr else up) = mx := by rw [← HMX.out]; split <;> omega
    have MX4 : (if up < fr then fr else up) = mx := by rw [← HMX.out]; split <;> omega
    have HML := Aside0.mk (show mx ≤ l.length ∧ fr ≤ mx by have := HFR.out.le; have := HUP.out.le; omega)
    have Hmq : (if fr < up then (up : Int) else (fr : Int)) = (mx : Int) := by rw [← hmx]; split <;> omega
    clear hmx hmi
    have hdr : Below wc.heap.size wc wc.drew := below_drew1 (Below.refl _ _)
    have HPd := Aside0.mk (HPc.out.below hdr)
    have HSd := Aside0.mk (blk_below HSc.out hdr)
    have HLd := Aside0.mk (blk_below HLc.out hdr)
    have HHd := Aside0.mk (blk_below HHc.out hdr)
    have hba : Below wc.drew.heap.size wc.drew (wc.drew.alloc (.cells (rc x).toArray 35)) := below_alloc (Below.refl _ _) _
    have HPa := Aside0.mk (HPd.out.below hba)
    have HSa := Aside0.mk (blk_below HSd.out hba)
    have hbx := blk_new wc.drew (.cells (rc x).toArray 35)
    have hne : some wc.drew.heap.size ≠ (Value.slice A l.length c).ownBlock := fun he => by have := ((Kd.R_bound HPd.out.lg.row).1 _ he.symm).2.2.1; omega
    have HRP : Aside0 (Calls Try.prog 25 #[.slice A l.length c, .int .i64 fr, .int .i64 mx, .slice (some ⟨wc.heap.size, 0, none⟩) 1 1] ((wc.alloc (.cells #[.int .i64 x.f0, .int .i64 x.f1] 35)).drew) fun e w' => Ins ((wc.alloc (.cells #[.int .i64 x.f0, .int .i64 x.f1] 35)).drew) w' w0.heap.size (fun k => k ≠ g) (.slice A l.length c) (l.take fr ++ x :: l.drop mx) e) := ⟨by exact (replace_c _ w0.heap.size (fun k => k ≠ g) (.slice A l.length c) l x wc.drew.heap.size fr mx HPa.out.lg.row hbx hne (by have := HLN.out; omega) HML.out.2 HML.out.1 HPa.out.bel.size (fun k hk => Nat.ne_of_gt (Nat.lt_of_lt_of_le (blk_lt HPa.out.lg.blk) hk)))⟩
    have cSd := (show wc.drew.cell? ⟨bS, 0, none⟩ = some (Value.pointer (some ⟨g, 0, none⟩)) from (blk_cell HSd.out 0).trans rfl)
    have cGd := (show wc.drew.cell? ⟨g, 0, none⟩ = some (Value.slice A l.length c) from (blk_cell HPd.out.lg.blk 0).trans rfl)
    have cLd := (show wc.drew.cell? ⟨bL, 0, none⟩ = some (Value.int .i64 x.f0) from (blk_cell HLd.out 0).trans rfl)
    have cHd := (show wc.drew.cell? ⟨bH, 0, none⟩ = some (Value.int .i64 x.f1) from (blk_cell HHd.out 0).trans rfl)
    have cSa := (show (wc.drew.alloc (.cells (rc x).toArray 35)).cell? ⟨bS, 0, none⟩ = some (Value.pointer (some ⟨g, 0, none⟩)) from (blk_cell HSa.out 0).trans rfl)
    have cGa := (hba.cell (blk_lt HPd.out.lg.blk)).trans cGd
    have cLa := (hba.cell (blk_lt HLd.out)).trans cLd
    have cHa := (hba.cell (blk_lt HHd.out)).trans cHd
    clear hdr hba hbx hne
    go_wp2_with (fail)
    refine Calm.wp_region_phC [(0, fun w_ => w_.cell? ⟨bS, 0, none⟩ = some (.pointer (some ⟨g, 0, none⟩))), (1, fun w_ => w_.cell? ⟨bS, 0, none⟩ = some (.pointer (some ⟨g, 0, none⟩))), (4, fun w_ => w_.cell? ⟨g, 0, none⟩ = some (.slice A l.length c)), (9, fun w_ => w_.cell? ⟨bL, 0, none⟩ = some (.int .i64 x.f0)), (10, fun w_ => w_.cell? ⟨bH, 0, none⟩ = some (.int .i64 x.f1))] [([0, 1, 2, 3, 4, 5, 6, 7, 8, 9, 10, 11], [12, 13]), ([14, 15], [16])] (by kernel_rfl) (by kernel_rfl) ?_
    refine Calm.ph_next ?_ ?_
    · repeat (first | exact Calm.okI_nil | (refine Calm.okI_cons (Or.inl (by decide)) ?_) | (refine Calm.okI_cons (Or.inr (by first | exact cSd | exact cGd | exact cLd | exact cHd)) ?_))
    repeat (first
      | (refine Calm.g_value (v := ?_) (a' := ?_) rfl rfl (by rfl) ?_ ?_ ?_; rotate_left; (· rintro w' hS'; (try simp only [Calm.SC_cons, Calm.SC_nil, Nat.reduceEqDiff, forall_const, false_implies, and_true, true_and] at hS'); (try obtain ⟨hS1, hS2⟩ := hS'); go_simp; with_reducible rfl); rotate_left; (· simp only [Act.put, List.setIfInBounds_toArray, List.set_cons_zero, List.set_cons_succ, i64_w, i32_w]; rfl)))
    refine Calm.g_nil ?_
    refine Calm.c_value (v := ?_) (w1 := ?_) (a' := ?_) rfl rfl (by rfl) ?_ ?_ ?_ ?_
    rotate_left
    rotate_left
    · go_simp; first | (refine And.intro ?_ ?_ <;> rfl) | rfl
    · repeat (first | exact Calm.okC_nil | (refine Calm.okC_cons (Or.inl (by decide +kernel)) ?_) | (refine Calm.okC_cons (Or.inr (by (first | exact cSa | exact cGa | exact cLa | exact cHa))) ?_))
    rotate_left
    · simp only [Act.put, List.setIfInBounds_toArray, List.set_cons_zero, List.set_cons_succ, i64_w, i32_w]; rfl
    refine Calm.c_call rfl rfl Try.func25 (by kernel_rfl) rfl #[.slice A l.length c, .int .i64 fr, .int .i64 mx, .slice (some ⟨wc.heap.size, 0, none⟩) 1 1] (by rfl) rfl (by (try simp only [List.map_toArray, List.map_cons, List.map_nil]); rfl) ?_
    (with_reducible refine (HRP.out).mono ?_)
    rintro e_ w9 ⟨v9, rfl, hR9, hg9, ho9⟩; have hs9 : w9.heap[bS]? = some (.cells #[.pointer (some ⟨g, 0, none⟩)] 29 (0, 0)) := (hg9.block bS (blk_lt HSa.out) (blk_apart HPa.out.lg.row HSa.out (by decide))).trans HSa.out; have hgg9 : w9.heap[g]? = some (.cells #[.slice A l.length c] 51 (0, 0)) := (hg9.block g (blk_lt HPa.out.lg.blk) (blk_apart HPa.out.lg.row HPa.out.lg.blk (by decide))).trans HPa.out.lg.blk; have cS9 := (show _ = some (Value.pointer (some ⟨g, 0, none⟩)) from (blk_cell hs9 0).trans rfl); have cG9 := (show _ = some (Value.slice A l.length c) from (blk_cell hgg9 0).trans rfl); have fG9 := blk_frozen hgg9 0; obtain ⟨l9, hl9⟩ : ∃ q, l.take fr ++ x :: l.drop mx = q := ⟨_, rfl⟩; rw [hl9] at hR9; obtain ⟨A9, c9, rfl⟩ := Kd.R_slice hR9; have HL9 := Aside0.mk hl9; have HR9 := Aside0.mk hR9; have HG9b := Aside0.mk hg9; have HO9 := Aside0.mk ho9; have HS9 := Aside0.mk hs9; have HG9 := Aside0.mk hgg9; clear hR9 hg9 ho9 hs9 hgg9 hl9
    refine ⟨_, rfl, ?_, ?_⟩
    · repeat (first | exact Calm.okC_nil | (refine Calm.okC_cons (Or.inl (by decide +kernel)) ?_) | (refine Calm.okC_cons (Or.inr (by exact cS9)) ?_))
    refine Calm.put_to (a' := ?_) ?_ ?_
    rotate_left
    · simp only [Act.put, List.setIfInBounds_toArray, List.set_cons_zero, List.set_cons_succ, i64_w, i32_w]; rfl
    refine Calm.h_nil ?_
    refine Calm.ph_next ?_ ?_
    · repeat (first | exact Calm.okI_nil | (refine Calm.okI_cons (Or.inl (by decide)) ?_) | (refine Calm.okI_cons (Or.inr (by exact cS9)) ?_))
    repeat (first
      | (refine Calm.g_value (v := ?_) (a' := ?_) rfl rfl (by rfl) ?_ ?_ ?_; rotate_left; (· rintro w' hS'; (try simp only [Calm.SC_cons, Calm.SC_nil, Nat.reduceEqDiff, forall_const, false_implies, and_true, true_and] at hS'); (try obtain ⟨hS1, hS2⟩ := hS'); go_simp; with_reducible rfl); rotate_left; (· simp only [Act.put, List.setIfInBounds_toArray, List.set_cons_zero, List.set_cons_succ, i64_w, i32_w]; rfl)))
    refine Calm.g_nil ?_
    refine Calm.c_store (w1 := ?_) rfl (by rfl) rfl ?_ ?_ ?_
    rotate_left
    · go_simp; rfl
    · repeat (first | exact Calm.okC_nil | (refine Calm.okC_cons (Or.inl (by decide +kernel)) ?_) | (refine Calm.okC_cons (Or.inr (by fail)) ?_))
    refine Calm.h_nil ?_
    refine Calm.ph_end ?_
    simp only [Exit.inBlock, Exit.then]
    obtain ⟨m, hm⟩ : ∃ m, min l9.length 16 = m := ⟨_, rfl⟩
    have HMM := Aside0.mk hm
    have HNC9 := Aside0.mk (Kd.R_reads' HR9.out).2.1
    have hmi : min (l9.length : Int) 16 = (m : Int) := by omega
    have Hmz := Aside0.mk hmi
    have mz0 : min (l9.length : Int) 16 = (m : Int) := Hmz.out
    have mz1 : (if (l9.length : Int) ≤ 16 then (l9.length : Int) else 16) = (m : Int) := by rw [← Hmz.out]; split <;> omega
    have mz2 : (if (l9.length : Int) < 16 then (l9.length : Int) else 16) = (m : Int) := by rw [← Hmz.out]; split <;> omega
    have mz3 : (if 16 ≤ (l9.length : Int) then 16 else (l9.length : Int)) = (m : Int) := by rw [← Hmz.out]; split <;> omega
    have mz4 : (if 16 < (l9.length : Int) then 16 else (l9.length : Int)) = (m : Int) := by rw [← Hmz.out]; split <;> omega
    have Hm1 : (if l9.length < 16 then (l9.length : Int) else 16) = (m : Int) := by rw [← hm]; split <;> omega
    have Hm2 : (if 16 < l9.length then (16 : Int) else (l9.length : Int)) = (m : Int) := by rw [← hm]; split <;> omega
    have Hm3 : (if l9.length ≤ 16 then (l9.length : Int) else 16) = (m : Int) := by rw [← hm]; split <;> omega
    have Hm4 : (if 16 ≤ l9.length then (16 : Int) else (l9.length : Int)) = (m : Int) := by rw [← hm]; split <;> omega
    have q1 := eq_true (show (0 : Int) ≤ (m : Int) by omega)
    have q2 := eq_true (show (m : Int) ≤ (c9 : Int) by have := HNC9.out; omega)
    obtain ⟨w10, hw10⟩ : ∃ w, w9.setCell ⟨g, 0, none⟩ (.slice A9 l9.length c9) = w := ⟨_, rfl⟩
    have hblk10 := blk_set HG9.out 0 (.slice A9 l9.length c9)
    have hs10 := (Below.heap_setCell w9 ⟨g, 0, none⟩ (.slice A9 l9.length c9) bS (fun he => by have h1 := HS9.out; have h2 := HG9.out; rw [show bS = g from he, h2] at h1; injection h1 with h1; injection h1 with _ h1 _; exact absurd h1 (by decide))).trans HS9.out
    have hr10 := Kd.R_far HR9.out (p := ⟨g, 0, none⟩) (fun k hk => hk) (.slice A9 l9.length c9)
    have hb9 := HPa.out.bel.grown HG9b.out HPa.out.bel.size (fun j hj => Kd.R_base HPa.out.lg.row j hj)
    have hb10 := below_set (j := 0) (v := .slice A9 l9.length c9) hb9 HG.out
    have hk9 : KeepBut w1 w9 g (Value.slice A l.length c).ownBlock := KeepBut.trans (KeepBut.of_below (below_step HBc.out (below_alloc (below_drew1 (Below.refl _ _)) _)) g _) (KeepBut.of_grown HG9b.out g) (.inl rfl)
    have hk10 := hk9.set_ 0 (.slice A9 l9.length c9)
    rw [hw10] at hblk10 hs10 hr10 hb10 hk10 ⊢
    have HK10 := Aside0.mk hk10
    have HR10 := Aside0.mk hr10
    have HB10 := Aside0.mk hb10
    have HBK := Aside0.mk hblk10
    have cS10 := (show _ = some (Value.pointer (some ⟨g, 0, none⟩)) from (blk_cell hs10 0).trans rfl)
    have cG10 := (show _ = some (Value.slice A9 l9.length c9) from (blk_cell hblk10 0).trans rfl)
    have fG10 := blk_frozen hblk10 0
    clear hm hmi hw10 hblk10 hs10 hr10 hb9 hb10 hk9 hk10 cS9 cG9 fG9
    go_wp2_with (fail)
    go_region
    simp only [Exit.then]
    go_wp2_with (fail)
    go_ret
    have htk : l9.take m = l9.take 16 := by
      rw [← HMM.out]
      rcases Nat.lt_or_ge l9.length 16 with h | h
      · rw [Nat.min_eq_left (by omega), List.take_length, List.take_of_length_le (by omega)]
      · rw [Nat.min_eq_right h]
    have hml : (l9.take m).length = m := by rw [List.length_take]; have := HMM.out; omega
    have hrt := Kd.R_far (Kd.R_take HR10.out (show m ≤ l9.length by have := HMM.out; omega)) (p := ⟨g, 0, none⟩) (fun k hk => hk) (.slice A9 m c9)
    have hbk := blk_set HBK.out 0 (.slice A9 m c9)
    have hbl := below_set (j := 0) (v := .slice A9 m c9) HB10.out HG.out
    have hkp := (keep3 HP.out.keep HK10.out (.inl rfl) HP.out.own).set_ 0 (.slice A9 m c9)
    have hro : RO W v (.slice A9 m c9) := by
      refine HP.out.own.trans (w1 := w1) ?_ HP.out.keep.1
      rcases HO9.out with e | ⟨b, e, hbb⟩
      · exact .inl ((own_cap A9 _ _ l9.length c9).trans e)
      · exact .inr (.inr ⟨b, (own_cap A9 _ _ l9.length c9).trans e, Nat.le_trans (below_step HBc.out (below_alloc (below_drew1 (Below.refl _ _)) _)).size hbb⟩)
    have hadd : AddR l (l9.take 16) lo hi := ⟨fr, up, HFR.out, HUP.out, by rw [← HL9.out, HXE.out, HMX.out]⟩
    rw [htk] at hrt
    have hsp : SP w0 W (w10.setCell ⟨g, 0, none⟩ (.slice A9 m c9)) g v (.slice A9 m c9) (l9.take 16) := ⟨⟨hbk, hrt⟩, hbl, hkp, hro⟩
    first | exact ⟨_, _, rfl, hsp, hadd⟩ | exact ⟨_, _, rfl, hsp.below (below_drew1 (Below.refl _ _)), hadd⟩
end Go.Proofs.Ytanebifiafghnaa.Ack
