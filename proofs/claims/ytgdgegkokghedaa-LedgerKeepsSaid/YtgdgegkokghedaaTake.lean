/- ledger.Ledger.take: the closures, slices.IndexFunc, slices.DeleteFunc. -/
import Derived.Test.YtgdgegkokghedaaLed
import Derived.Lib.SliceRun
import Derived.Deep.Heap
namespace Go.Proofs.Ytgdgegkokghedaa.Led
open Go.RowKit Go.Deep Go.Proofs.YtgdgegkokghedaaW.PrintWords Go.Proofs.YtgdgegkokghedaaW.PrintLast Go.Proofs.YtgdgegkokghedaaW.PrintMore Go.Proofs.Ytgdgegkokghedaa.PLedgerKeeps Go.Proofs.Ytgdgegkokghedaa
set_option linter.unusedVariables false
set_option linter.unusedSimpArgs false
def pkc (x : S58) : List Value := [.int .i64 x.f0, .int .i64 x.f1, .int .i64 x.f2]
def pk (x : S58) : Value := .agg #[.int .i64 x.f0, .int .i64 x.f1, .int .i64 x.f2]
def clo (K : Nat) (caps : Array Value) : Value := .func (.func K) #[] caps
/-- What the worlds of a take share with the one at its start. -/
def Apart (own : Option Nat) (W w : World) : Prop := W.heap.size ≤ w.heap.size ∧ ∀ k, k < W.heap.size → some k ≠ own → w.heap[k]? = W.heap[k]?
theorem Apart.below {own : Option Nat} {W w w2 : World} (h : Apart own W w) (hb : Below w.heap.size w w2) : Apart own W w2 := ⟨Nat.le_trans h.1 hb.size, fun k hk ho => (hb.block k (Nat.lt_of_lt_of_le hk h.1)).trans (h.2 k hk ho)⟩
/-- A function value that holds for packets. -/
def PredC (K : Nat) (caps : Array Value) (p : S58 → Bool) (own : Option Nat) (W : World) : Prop := (∀ args w, (callFunc K args).run Try.prog w = .ok (.enter K args) w) ∧ ∀ (x : S58) (w : World), Apart own W w → Calls Try.prog K (#[pk x] ++ caps) w fun e w' => e = .returned (.bool (p x)) ∧ Below w.heap.size w w'
/-- A take's state: the row (cur), what was taken (tk). -/
structure DS (w0 W wr : World) (g b3 b5 : Nat) (v F : Value) (cur tk : List S58) : Prop where
  row : Kd.R k58 58 wr w0.heap.size (fun k => k ≠ g ∧ k < W.heap.size) v cur
  tkc : ∃ vt, wr.heap[b5]? = some (.cells #[vt] 54 (0, 0)) ∧ Kd.R k58 58 wr w0.heap.size (fun k => W.heap.size ≤ k ∧ k ≠ b5 ∧ k ≠ b3) vt tk
  cl : wr.heap[b3]? = some (.cells #[F] 63 (0, 0))
  bel : Below w0.heap.size w0 wr
  ap : Apart v.ownBlock W wr
  h3 : W.heap.size ≤ b3
  h5 : W.heap.size ≤ b5
  h35 : b3 ≠ b5
theorem DS.below {w0 W wr w2 : World} {g b3 b5 : Nat} {v F : Value} {cur tk : List S58} (h : DS w0 W wr g b3 b5 v F cur tk) (hb : Below wr.heap.size wr w2) : DS w0 W w2 g b3 b5 v F cur tk := by
  obtain ⟨vt, h1, h2⟩ := h.tkc
  exact ⟨Kd.R_below h.row hb, ⟨vt, blk_below h1 hb, Kd.R_below h2 hb⟩, blk_below h.cl hb, below_step h.bel hb, h.ap.below hb, h.h3, h.h5, h.h35⟩
/-- Behind an append to what was taken, and its store. -/
theorem DS.push {w0 W w1 w2 : World} {g b3 b5 : Nat} {v F vt v2 : Value} {cur tk : List S58} {l2 : List S58} (h : DS w0 W w1 g b3 b5 v F cur tk) (hW : w0.heap.size ≤ W.heap.size) (hb5 : w1.heap[b5]? = some (.cells #[vt] 54 (0, 0))) (hvt : Kd.R k58 58 w1 w0.heap.size (fun k => W.heap.size ≤ k ∧ k ≠ b5 ∧ k ≠ b3) vt tk) (hR : Kd.R k58 58 w2 w0.heap.size (fun k => W.heap.size ≤ k ∧ k ≠ b5 ∧ k ≠ b3) v2 l2) (hB : Below w0.heap.size w0 w2) (hgr : w1.grownBy w2 vt.ownBlock) :
    DS w0 W (w2.setCell ⟨b5, 0, none⟩ v2) g b3 b5 v F cur l2 := by
  have n1 : ∀ k, k < w1.heap.size → k < W.heap.size → w2.heap[k]? = w1.heap[k]? := fun k hk hl => hgr.block k hk (fun he => by have := (hvt.1 k he.symm).1; omega)
  have nb : ∀ k, k ≠ b5 → (w2.setCell ⟨b5, 0, none⟩ v2).heap[k]? = w2.heap[k]? := fun k hk => blk_setCell_other _ _ _ _ hk
  have hsz : w1.heap.size ≤ w2.heap.size := hgr.size
  have hss : (w2.setCell ⟨b5, 0, none⟩ v2).heap.size = w2.heap.size := World.size_setCell _ _ _
  have l5 := blk_lt hb5
  have l3 := blk_lt h.cl
  have h3 := h.h3
  have h5 := h.h5
  have b1 : w2.heap[b5]? = some (.cells #[vt] 54 (0, 0)) := (hgr.block b5 l5 (fun he => (hvt.1 b5 he.symm).2.1 rfl)).trans hb5
  have r1 : Kd.R k58 58 w2 w0.heap.size (fun k => k ≠ g ∧ k < W.heap.size) v cur := Kd.R_step h.row (fun k hk hl => n1 k hl hk.2)
  refine ⟨Kd.R_far r1 (fun k hk => by have := hk.2; show k ≠ b5; omega) _, ⟨v2, blk_set b1 0 v2, Kd.R_far hR (fun k hk => hk.2.1) _⟩, ?_, below_set hB (by omega), ⟨?_, fun k hk ho => ?_⟩, h3, h5, h.h35⟩
  · rw [nb b3 h.h35]
    exact (hgr.block b3 l3 (fun he => (hvt.1 b3 he.symm).2.2 rfl)).trans h.cl
  · rw [hss]; exact Nat.le_trans h.ap.1 hsz
  · rw [nb k (by omega), n1 k (Nat.lt_of_lt_of_le hk h.ap.1) hk]
    exact h.ap.2 k hk ho
set_option maxHeartbeats 8000000 in
set_option maxRecDepth 100000 in
theorem tk1_c (w0 W w1 : World) (g b3 b5 K : Nat) (caps : Array Value) (p : S58 → Bool) (v : Value) (cur tk : List S58) (x : S58) (hp : PredC K caps p v.ownBlock W) (h : DS w0 W w1 g b3 b5 v (clo K caps) cur tk) (hW : w0.heap.size ≤ W.heap.size) (hl : tk.length ≤ 100000) :
    Calls Try.prog 40 #[pk x, .pointer (some ⟨b3, 0, none⟩), .pointer (some ⟨b5, 0, none⟩)] w1 fun e w' => e = .returned (.bool (p x)) ∧ DS w0 W w' g b3 b5 v (clo K caps) cur (if p x then tk ++ [x] else tk) ∧ ∀ kv, kv < w1.heap.size → kv ≠ b5 → (∀ vt, w1.heap[b5]? = some (.cells #[vt] 54 (0, 0)) → vt.ownBlock ≠ some kv) → w'.heap[kv]? = w1.heap[kv]? := by
  obtain ⟨eg, hp⟩ := hp
  have hp := hp x
  have HL := Aside0.mk h
  have HW := Aside0.mk hW
  have HN := Aside0.mk hl
  clear h hW hl
  unfold pk at hp ⊢
  cases hq : p x with
  | false =>
    rw [hq] at hp
    have HP := Aside0.mk hp
    clear hp hq
    go_enter Try.func40, Try.ntmps40
    go_wp2_with (first | ((with_reducible refine gate_dst (N := 3) rfl ?_); refine box_event ?hg (N := 3) ?hd (cs := [.int .i64 x.f0, .int .i64 x.f1, .int .i64 x.f2].toArray) (t := 58) ?hr ?_; (case hd => rfl); (case hg => rfl); (case hr => first | (go_simp; done) | (go_simp; rfl)); intro gb hgb w2 hbox hb; have hL2 := HL.out.below hb; have hc0 := (show _ = some (Value.int .i64 x.f0) from (blk_cell hbox 0).trans rfl); have hc1 := (show _ = some (Value.int .i64 x.f1) from (blk_cell hbox 1).trans rfl); have hc2 := (show _ = some (Value.int .i64 x.f2) from (blk_cell hbox 2).trans rfl); have hcl : w2.cell? ⟨b3, 0, none⟩ = some (.func (.func K) #[] caps) := (blk_cell hL2.cl 0).trans rfl; have H2 := Aside0.mk hL2; have HX := Aside0.mk hbox; have HB1 := Aside0.mk hb; clear hL2 hgb hbox hb) | ((with_reducible refine (HP.out _ H2.out.ap).mono ?_); rintro e w3 ⟨rfl, hb3⟩; have hL3 := H2.out.below hb3; have HB3 := Aside0.mk (below_step HB1.out hb3); clear hb3; have H3 := Aside0.mk hL3; clear hL3))
    go_ret
    exact ⟨rfl, H3.out, fun kv hk _ _ => HB3.out.block kv hk⟩
  | true =>
    rw [hq] at hp
    have HP := Aside0.mk hp
    clear hp hq
    go_enter Try.func40, Try.ntmps40
    go_wp2_with (first | ((with_reducible refine gate_dst (N := 3) rfl ?_); refine box_event ?hg (N := 3) ?hd (cs := [.int .i64 x.f0, .int .i64 x.f1, .int .i64 x.f2].toArray) (t := 58) ?hr ?_; (case hd => rfl); (case hg => rfl); (case hr => first | (go_simp; done) | (go_simp; rfl)); intro gb hgb w2 hbox hb; have hL2 := HL.out.below hb; have hc0 := (show _ = some (Value.int .i64 x.f0) from (blk_cell hbox 0).trans rfl); have hc1 := (show _ = some (Value.int .i64 x.f1) from (blk_cell hbox 1).trans rfl); have hc2 := (show _ = some (Value.int .i64 x.f2) from (blk_cell hbox 2).trans rfl); have hcl : w2.cell? ⟨b3, 0, none⟩ = some (.func (.func K) #[] caps) := (blk_cell hL2.cl 0).trans rfl; have H2 := Aside0.mk hL2; have HX := Aside0.mk hbox; have HB1 := Aside0.mk hb; clear hL2 hgb hbox hb) | ((with_reducible refine (HP.out _ H2.out.ap).mono ?_); rintro e w3 ⟨rfl, hb3⟩; have hL3 := H2.out.below hb3; obtain ⟨vt, hb5, ht⟩ := hL3.tkc; obtain ⟨At, ct, rfl⟩ := Kd.R_slice ht; have h5c := (show _ = some (Value.slice At tk.length ct) from (blk_cell hb5 0).trans rfl); have HB5 := Aside0.mk hb5; have HT := Aside0.mk ht; have e0 := (hb3.cell (World.block_lt_of_cell? _ _ hc0)).trans hc0; have e1 := (hb3.cell (World.block_lt_of_cell? _ _ hc1)).trans hc1; have e2 := (hb3.cell (World.block_lt_of_cell? _ _ hc2)).trans hc2; clear hb5 ht; have HB3 := Aside0.mk (below_step HB1.out hb3); clear hb3; have H3 := Aside0.mk hL3; clear hL3) | ((with_reducible refine gate_builtin (b := .append) (xs := #[.tmp 9, .tmp 11]) rfl ?_); at_builtin; refine Kd.R_append k58 (w0 := w0) w0.heap.size rfl (.tmp 9) (.tmp 11) 54 58 (.agg #[.int .i64 0, .int .i64 0, .int .i64 0]) 24 rfl Try.underlying54 info58_ rfl (by decide) (by omega) (.slice At tk.length ct) tk x [.int .i64 x.f0, .int .i64 x.f1, .int .i64 x.f2] (fun k => W.heap.size ≤ k ∧ k ≠ b5 ∧ k ≠ b3) (fun _ => False) rfl rfl ?aP (fun _ hk => hk.elim) ?aF HT.out H3.out.bel ?aS ?aL ?_; (case aP => exact k58_mkM _ _ _ _); (case aF => exact fun k hk => ⟨Nat.le_trans H3.out.ap.1 hk, by have := blk_lt HB5.out; omega, by have := blk_lt H3.out.cl; omega⟩); (case aS => exact H3.out.bel.size); (case aL => have := HN.out; omega); intro v6 w6 hR6 hB6 hg6 hat; obtain ⟨A6, c6, rfl⟩ := Kd.R_slice hR6; have HG6 := Aside0.mk hg6; have HPU := Aside0.mk (H3.out.push HW.out HB5.out HT.out hR6 hB6 hg6); have hb6 := (hg6.block b5 (blk_lt HB5.out) (fun he => (HT.out.1 b5 he.symm).2.1 rfl)).trans HB5.out; have hbc6 := (blk_cell hb6 0).trans (rfl : _ = some (Value.slice At tk.length ct)); have hbf6 := blk_frozen hb6 0; clear hR6 hB6 hg6 hat hb6))
    go_ret
    have h9 := HPU.out
    refine ⟨rfl, by rw [List.length_append] at h9; first | exact h9 | exact HPU.out, fun kv hk h5 hv => ?_⟩
    have hb5 : w1.heap[b5]? = some (.cells #[.slice At tk.length ct] 54 (0, 0)) := by
      obtain ⟨vt, hv1, _⟩ := HL.out.tkc
      have h2 := HB5.out
      rw [HB3.out.block b5 (blk_lt hv1), hv1] at h2
      rw [hv1]
      exact h2
    have hne := hv _ hb5
    exact ((blk_setCell_other _ _ _ _ h5).trans (HG6.out.block kv (Nat.lt_of_lt_of_le hk HB3.out.size) (fun he => hne he.symm))).trans (HB3.out.block kv hk)
theorem DS.at {w0 W wr : World} {g b3 b5 n c : Nat} {A : Option Addr} {F : Value} {cur tk : List S58} (h : DS w0 W wr g b3 b5 (.slice A n c) F cur tk) (i : Int) (h0 : 0 ≤ i) (h1 : i < n) : ∃ ad, A = some ad ∧ wr.cell? (ad.add (i.toNat * 3)) = some (.int .i64 (cur.getD i.toNat z58).f0) ∧ wr.cell? ⟨(ad.add (i.toNat * 3)).block, (ad.add (i.toNat * 3)).off + 1, none⟩ = some (.int .i64 (cur.getD i.toNat z58).f1) ∧ wr.cell? ⟨(ad.add (i.toNat * 3)).block, (ad.add (i.toNat * 3)).off + 2, none⟩ = some (.int .i64 (cur.getD i.toNat z58).f2) := by
  obtain ⟨rfl, -, hC⟩ := Kd.R_reads' h.row
  obtain ⟨ad, e, rows⟩ := crow58 hC i h0 h1
  exact ⟨ad, e, rows wr (Below.refl _ _)⟩
theorem DS.len {w0 W wr : World} {g b3 b5 n c : Nat} {A : Option Addr} {F : Value} {cur tk : List S58} (h : DS w0 W wr g b3 b5 (.slice A n c) F cur tk) : n = cur.length := (Kd.R_reads' h.row).1
set_option maxHeartbeats 8000000 in
set_option maxRecDepth 100000 in
theorem idx_c (w0 W w1 : World) (g b3 b5 K n c : Nat) (A : Option Addr) (caps : Array Value) (p : S58 → Bool) (fl : List S58) (hp : PredC K caps p (Value.slice A n c).ownBlock W) (h : DS w0 W w1 g b3 b5 (.slice A n c) (clo K caps) fl []) (hW : w0.heap.size ≤ W.heap.size) (hl : n ≤ 100000) :
    Calls Try.prog 42 #[.slice A n c, .func (.func 40) #[] #[.pointer (some ⟨b3, 0, none⟩), .pointer (some ⟨b5, 0, none⟩)]] w1 fun e w' => ∃ i : Int, e = .returned (.int .i64 i) ∧ ((i = -1 ∧ (∀ j, j < n → p (fl.getD j z58) = false) ∧ DS w0 W w' g b3 b5 (.slice A n c) (clo K caps) fl []) ∨ (0 ≤ i ∧ i < n ∧ p (fl.getD i.toNat z58) = true ∧ (∀ j, j < i.toNat → p (fl.getD j z58) = false) ∧ DS w0 W w' g b3 b5 (.slice A n c) (clo K caps) fl [fl.getD i.toNat z58])) := by
  have HL := Aside0.mk h
  have HW := Aside0.mk hW
  have HN := Aside0.mk hl
  have HP := Aside0.mk hp
  clear h hW hl hp
  go_enter Try.func42, Try.ntmps42
  go_wp2_with (fail)
  go_loopw [8] (fun v8 wr => ∃ i : Int, v8 = .int .i64 i ∧ Aside0 (0 ≤ i ∧ i ≤ n ∧ ∀ j, j < i.toNat → p (fl.getD j z58) = false) ∧ Aside0 (DS w0 W wr g b3 b5 (.slice A n c) (clo K caps) fl [])) (fun v8 _ => ((n : Int) - intOf v8).toNat)
  case atStart => exact ⟨0, rfl, ⟨by omega, by omega, fun j hj => by simp at hj⟩, HL⟩
  case round =>
    clear HL
    obtain ⟨i, rfl, HI, HD⟩ := hrel
    have hi0 := HI.out.1
    by_cases d1 : i < (n : Int)
    · have M1 : decide (i < (n : Int)) = true := decide_eq_true d1
      obtain ⟨ad, hA, x0, x1, x2⟩ := HD.out.at i hi0 d1
      subst hA
      have p0 := eq_true hi0
      have p1 := eq_true d1
      have hw1 : wrap64 (i + 1) = i + 1 := by have := HN.out; unfold wrap64; omega
      have hw2 : IntKind.i64.wrap (i + 1) = i + 1 := (i64_w _).trans hw1
      have hcall := fun w h => tk1_c w0 W w g b3 b5 K caps p (.slice (some ad) n c) fl [] (fl.getD i.toNat z58) HP.out h HW.out (by simp)
      have HI2 := Aside0.mk (And.intro hi0 d1)
      cases hq : p (fl.getD i.toNat z58) with
      | true =>
        have HQ := Aside0.mk hq
        rw [hq] at hcall
        have HC := Aside0.mk hcall
        generalize hx : fl.getD i.toNat z58 = x at x0 x1 x2 HC HQ ⊢
        clear hcall hq d1 hi0
        obtain ⟨f0, f1, f2⟩ := x
        unfold pk at HC
        dsimp only at x0 x1 x2 HC
        go_wp2_with (go_at_call 40; (with_reducible refine (HC.out _ HD.out).mono ?_); rintro e w3 ⟨rfl, h3, -⟩; have H3 := Aside0.mk h3; clear h3)
        go_ret
        exact ⟨i, rfl, .inr ⟨HI2.out.1, HI2.out.2, by rw [hx]; exact HQ.out, HI.out.2.2, by rw [hx]; exact H3.out⟩⟩
      | false =>
        have HQ := Aside0.mk hq
        rw [hq] at hcall
        have HC := Aside0.mk hcall
        have HJ := Aside0.mk (show ∀ j, j < (i + 1).toNat → p (fl.getD j z58) = false from fun j hj => by
          by_cases hji : j = i.toNat
          · rw [hji]; exact hq
          · exact HI.out.2.2 j (by omega))
        generalize hx : fl.getD i.toNat z58 = x at x0 x1 x2 HC HQ ⊢
        clear hcall hq d1 hi0
        obtain ⟨f0, f1, f2⟩ := x
        unfold pk at HC
        dsimp only at x0 x1 x2 HC
        go_wp2_with (go_at_call 40; (with_reducible refine (HC.out _ HD.out).mono ?_); rintro e w3 ⟨rfl, h3, -⟩; have H3 := Aside0.mk h3; clear h3)
        go_roundw
        case rel => exact ⟨i + 1, rfl, ⟨by have := HI2.out; omega, by have := HI2.out; omega, HJ.out⟩, H3⟩
        case measure => have := HI2.out; simp [intOf]; omega
    · have M1 : decide (i < (n : Int)) = false := decide_eq_false d1
      have HE := Aside0.mk (show ∀ j, j < n → p (fl.getD j z58) = false from fun j hj => HI.out.2.2 j (by have := HI.out; omega))
      clear d1 hi0
      go_wp2_with (fail)
      go_ret
      exact ⟨-1, rfl, .inl ⟨rfl, HE.out, HD.out⟩⟩
end Go.Proofs.Ytgdgegkokghedaa.Led
