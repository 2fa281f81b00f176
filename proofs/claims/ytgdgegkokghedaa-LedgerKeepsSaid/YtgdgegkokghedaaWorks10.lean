/- vizardlaw10.works. -/
import Derived.Test.YtgdgegkokghedaaSteps10
namespace Go.Proofs.Ytgdgegkokghedaa.Led
open Go.RowKit Go.Deep Go.Proofs.YtgdgegkokghedaaW.PrintWords Go.Proofs.YtgdgegkokghedaaW.PrintLast Go.Proofs.YtgdgegkokghedaaW.PrintMore Go.Proofs.Ytgdgegkokghedaa.PLedgerKeeps Go.Proofs.Ytgdgegkokghedaa
set_option linter.unusedVariables false
set_option linter.unusedSimpArgs false
def sentN (i : Nat) : LS := ⟨(List.range i).map (fun (j : Nat) => ⟨(j : Int), 0, 1000⟩), (i : Int) - 1, 12000, 1073741824, -1, 0⟩
theorem sentN_step (i : Nat) : ({ sentN i with fl := (sentN i).fl ++ [⟨(i : Int), 0, 1000⟩], top := (i : Int) } : LS) = sentN (i + 1) := by
  unfold sentN
  rw [List.range_succ, List.map_append]
  simp only [List.map_cons, List.map_nil, LS.mk.injEq, and_true, true_and]
  omega
theorem works_ack : ackR (sentN 5) [⟨4, 4⟩] = ⟨⟨[⟨2, 0, 1000⟩, ⟨3, 0, 1000⟩], 4, 6500, 6500, 4, 0⟩, [4], [0, 1], 0⟩ := by kernel_rfl
theorem works_exp : expR 8 ⟨[⟨2, 0, 1000⟩, ⟨3, 0, 1000⟩], 4, 6500, 6500, 4, 0⟩ = (⟨[], 4, 6500, 6500, 4, 1⟩, [2, 3]) := by rfl
/-- A told row is none of the ledger's. -/
theorem ints_later {B base : Nat} {w w2 : World} {g : Nat} {s : LS} {v va : Value} {l : List Int} {ok : Nat → Prop} (hl : LG B w g s v) (hr : Kd.R (Kd.int .i64) 2 w base ok va l) (hk : KeepBut w w2 g v.ownBlock) : Kd.R (Kd.int .i64) 2 w2 base ok va l := by
  have ht := Kd.R_tight2 rfl hr
  refine Kd.R_mono (Kd.R_step ht (fun k hok hlt => hk.2 k hlt (fun he => ?_) (fun he => ?_))) (fun k hk => hk.2)
  · obtain ⟨_, inner, ho, -⟩ := hr
    obtain ⟨cells, hc⟩ := own_typed ho k hok.1.symm
    rw [he, hl.blk] at hc
    injection hc with hc
    injection hc with _ hc _
    exact absurd hc (by decide)
  · obtain ⟨_, inner, ho, -⟩ := hr
    obtain ⟨cells, hc⟩ := own_typed ho k hok.1.symm
    obtain ⟨_, inner2, ho2, -⟩ := hl.row
    obtain ⟨cells2, hc2⟩ := own_typed ho2 k he.symm
    rw [hc] at hc2
    injection hc2 with hc2
    injection hc2 with _ hc2 _
    exact absurd hc2 (by decide)
theorem same_l (a b : List Int) (h : a.length = b.length) (hn : a.length ≤ 100000) : ∀ (n i : Nat), i + n = a.length → (∀ j, j < i → a[j]? = b[j]?) → vizardlaw10_same.l0 (n + 1) a b (i : Int) = some (decide (a = b))
  | 0, i, hi, hp => by
    unfold vizardlaw10_same.l0
    rw [if_neg (by omega), show decide (a = b) = true from decide_eq_true (List.ext_getElem? (fun j => by
      by_cases hj : j < i
      · exact hp j hj
      · rw [List.getElem?_eq_none (by omega), List.getElem?_eq_none (by omega)]))]
  | n + 1, i, hi, hp => by
    unfold vizardlaw10_same.l0
    have ha : a[i]? = some (a.getD i 0) := by rw [List.getD_eq_getElem?_getD, List.getElem?_eq_getElem (by omega)]; rfl
    have hb : b[i]? = some (b.getD i 0) := by rw [List.getD_eq_getElem?_getD, List.getElem?_eq_getElem (by omega)]; rfl
    rw [if_pos (by omega), if_pos (by omega), if_pos (by omega), show wrap64 ((i : Int) + 1) = ((i + 1 : Nat) : Int) by unfold wrap64; omega]
    rw [show rd a (i : Int) = a.getD i 0 by unfold rd; rw [Int.toNat_natCast], show rd b (i : Int) = b.getD i 0 by unfold rd; rw [Int.toNat_natCast]]
    by_cases he : a.getD i 0 = b.getD i 0
    · rw [if_pos he]
      refine same_l a b h hn n (i + 1) (by omega) (fun j hj => ?_)
      by_cases hji : j = i
      · rw [hji, ha, hb, he]
      · exact hp j (by omega)
    · rw [if_neg he, show decide (a = b) = false from decide_eq_false (fun hab => he (by rw [hab]))]
theorem same_f (a b : List Int) (hn : a.length ≤ 100000) : vizardlaw10_same.f (a.length + 1) a b = some (decide (a = b)) := by
  unfold vizardlaw10_same.f
  by_cases h : (a.length : Int) = b.length
  · rw [if_pos h]; exact same_l a b (by omega) hn a.length 0 (by omega) (fun j hj => by omega)
  · rw [if_neg h, show decide (a = b) = false from decide_eq_false (fun hab => h (by rw [hab]))]
/-- A row of whole numbers that was built. -/
theorem nums_C {w : World} {b t : Nat} {l : List Int} (h : w.heap[b]? = some (.cells (l.map (Value.int .i64)).toArray t (0, 0))) (hn : l.length ≤ 100000) : Kd.C (Kd.int .i64) w (some ⟨b, 0, none⟩) l.length l := by
  refine ⟨rfl, by omega, fun _ => ⟨_, rfl, fun j p hj => ⟨[.int .i64 p], rfl, rfl, fun i u hi => ?_⟩⟩⟩
  rw [show j * (Kd.int .i64).sz + i = j by have : i = 0 := (by rcases i with _ | i; rfl; simp at hi); subst this; show j * 1 + 0 = j; omega, add0]
  have : i = 0 := by rcases i with _ | i; rfl; simp at hi
  subst this
  refine (blk_cell h j).trans ?_
  rw [show u = .int .i64 p by simpa using hi.symm]
  simp [hj]
theorem nums_C1 {w : World} {b t n : Nat} {l : List Int} (h : w.heap[b]? = some (.cells (l.map (Value.int .i64)).toArray t (0, 0))) (hn : l.length = n) (hl : n ≤ 100000) : Kd.C (Kd.int .i64) w (some ⟨b, 0, none⟩) n l := by
  subst hn
  exact nums_C h hl
theorem n4_C (w : World) : Kd.C (Kd.int .i64) (w.alloc (.cells #[.int .i64 4] 2)) (some ⟨w.heap.size, 0, none⟩) 1 [4] := nums_C1 (l := [4]) (blk_new w _) rfl (by decide)
theorem n01_C (w : World) : Kd.C (Kd.int .i64) (w.alloc (.cells #[.int .i64 0, .int .i64 1] 2)) (some ⟨w.heap.size, 0, none⟩) 2 [0, 1] := nums_C1 (l := [0, 1]) (blk_new w _) rfl (by decide)
theorem n23_C (w : World) : Kd.C (Kd.int .i64) (w.alloc (.cells #[.int .i64 2, .int .i64 3] 2)) (some ⟨w.heap.size, 0, none⟩) 2 [2, 3] := nums_C1 (l := [2, 3]) (blk_new w _) rfl (by decide)
theorem same_c {A0 A1 : Option Addr} {n0 c0 n1 c1 : Nat} {l0 l1 : List Int} {r : Bool} {w : World} (h0 : Kd.C (Kd.int .i64) w A0 n0 l0) (hc0 : n0 ≤ c0) (h1 : Kd.C (Kd.int .i64) w A1 n1 l1) (hc1 : n1 ≤ c1) (hl : n0 ≤ 100000) (hr : decide (l0 = l1) = r) : Calls Try.prog 17 #[.slice A0 n0 c0, .slice A1 n1 c1] w fun e w' => e = .returned (.bool r) ∧ Drawn0 w w' := by
  obtain rfl := Kd.C_len h0
  obtain rfl := Kd.C_len h1
  exact vizardlaw10_same.calls (l0.length + 1) A0 c0 l0 A1 c1 l1 r w h0 hc0 h1 hc1 (by rw [same_f l0 l1 hl, hr])
theorem below_drawn0 {w w1 w2 : World} (h : Below w.heap.size w w1) (hd : Drawn0 w1 w2) : Below w.heap.size w w2 := by
  obtain ⟨n, rfl⟩ := hd
  exact pw_below_drewN h n
theorem sentN_inv : ∀ i : Nat, i ≤ 5 → Inv (sentN i)
  | 0, _ => inv_init
  | i + 1, h => by
    rw [← sentN_step]
    exact inv_sent (sentN_inv i (by omega)) ⟨by show (i : Int) - 1 < i; omega, by omega, by decide, by decide⟩
theorem ackR_inv (s : LS) (r : List S34) (x : AckR) (h : ackR s r = x) (hI : Inv s) : Inv x.st := by rw [← h]; exact inv_ack hI r
set_option maxHeartbeats 8000000 in
set_option maxRecDepth 100000 in
theorem works_c (W : World) : Calls Try.prog 8 #[] W fun e w' => e = .returned (.bool true) ∧ Below W.heap.size W w' := by
  go_enter Try.func8, Try.ntmps8
  go_wp2_with (go_at_call 9; (with_reducible refine (new_c _).mono ?_); rintro e_ w1 ⟨g, rfl, hg, hblk, hb⟩; have HL1 := Aside0.mk (LP.start (lg_new (w0 := W) hblk) hb); have HG := Aside0.mk hg; have HB1 := Aside0.mk hb; clear hg hblk hb)
  go_loopw [2] (fun v2_ wr => ∃ i : Nat, v2_ = .int .i64 (i : Int) ∧ Aside0 (i ≤ 5) ∧ ∃ v, Aside0 (LP W w1 wr g (.slice none 0 0) v (sentN i))) (fun v2_ _ => (5 - intOf v2_).toNat)
  case atStart => exact ⟨0, rfl, ⟨by omega⟩, _, HL1⟩
  case round =>
    obtain ⟨i, rfl, HI, v, HD⟩ := hrel
    by_cases d1 : i < 5
    · have M1 : decide ((i : Int) < 5) = true := decide_eq_true (by omega)
      have hsn := sent_c g (sentN i) _ v (i : Int) 0 1000 W w1 wr HD.out HG.out ⟨by show (i : Int) - 1 < i; omega, by omega, by decide, by decide⟩ (by simp [sentN]; omega)
      rw [sentN_step] at hsn
      have HSN := Aside0.mk hsn
      have HJ := Aside0.mk d1
      have hw1 : wrap64 ((i : Int) + 1) = ((i + 1 : Nat) : Int) := by unfold wrap64; omega
      have hw2 : IntKind.i64.wrap ((i : Int) + 1) = ((i + 1 : Nat) : Int) := (i64_w _).trans hw1
      clear d1 hsn
      go_wp2_with (go_at_call 11; (with_reducible refine (HSN.out).mono ?_); rintro e_ w2 ⟨rfl, v2, h2⟩; have H2 := Aside0.mk h2; clear h2)
      go_roundw
      case rel => exact ⟨i + 1, by first | rfl | simp [hw1] | simp [hw2], ⟨by have := HJ.out; omega⟩, v2, H2⟩
      case measure => have := HJ.out; simp [intOf]; omega
    · have M1 : decide ((i : Int) < 5) = false := decide_eq_false (by omega)
      obtain rfl : i = 5 := by have := HI.out; omega
      clear d1
      have hd2 := HD.out.below (below_alloc (Below.refl _ _) (.cells #[.int .i64 4, .int .i64 4] 34))
      have hne : some wr.heap.size ≠ v.ownBlock := fun he => by have := ((Kd.R_bound HD.out.lg.row).1 _ he.symm).2.2.1; omega
      have hng : wr.heap.size ≠ g := fun he => by have := blk_lt HD.out.lg.blk; omega
      have hinv := sentN_inv 5 (by omega)
      have hack := acked_c W w1 _ g 1 (some ⟨wr.heap.size, 0, none⟩) [⟨4, 4⟩] _ v (sentN 5) hd2 HG.out (one_keep (blk_new wr (.cells #[.int .i64 4, .int .i64 4] 34)) hng hne) (by decide) hinv (by decide)
      rw [works_ack] at hack
      dsimp only [List.length_cons, List.length_nil, Nat.zero_add] at hack
      have HACK := Aside0.mk hack
      have HIN := Aside0.mk (ackR_inv _ _ _ works_ack hinv)
      clear hd2 hne hng hinv hack
      go_wp2_with (first | (go_at_call 12; (with_reducible refine (HACK.out).mono ?_); rintro e_ w2 ⟨va, vb, v2, rfl, h2, hra, hrb⟩; obtain ⟨Aa, ca, rfl⟩ := Kd.R_slice hra; obtain ⟨Ab, cb, rfl⟩ := Kd.R_slice hrb; have H2 := Aside0.mk h2; have HRA := Aside0.mk hra; have HRB := Aside0.mk hrb; clear h2 hra hrb) | (go_at_call 10; (with_reducible refine (window_c g _ _ _ w2 H2.out.lg).mono ?_); rintro e_ w3 ⟨rfl, hd3⟩; have H3 := Aside0.mk (H2.out.drawn hd3); have HD3 := Aside0.mk hd3; clear hd3))
      have hexp := expire_c W w3 w3 g 8 v2 v2 _ (LP.start H3.out.lg H3.out.bel) HG.out HIN.out (by decide)
      rw [works_exp] at hexp
      dsimp only at hexp
      have HEXP := Aside0.mk hexp
      clear hexp
      go_wp2_with (first | (go_at_call 13; (with_reducible refine (HEXP.out).mono ?_); rintro e_ w4 ⟨vc, v4, rfl, h4, hrc⟩; obtain ⟨Ac, cc, rfl⟩ := Kd.R_slice hrc; have hk3 := (KeepBut.of_below (below_drawn0 (Below.refl _ _) HD3.out) g v2.ownBlock); have hra3 := ints_later H2.out.lg HRA.out hk3; have hrb3 := ints_later H2.out.lg HRB.out hk3; have hra4 := ints_later H3.out.lg hra3 h4.keep; have hrb4 := ints_later H3.out.lg hrb3 h4.keep; have H4 := Aside0.mk h4; have HRA4 := Aside0.mk (show Kd.C (Kd.int .i64) w4 Aa 1 [4] ∧ 1 ≤ ca from ⟨(Kd.R_reads' hra4).2.2, (Kd.R_reads' hra4).2.1⟩); have HRB4 := Aside0.mk (show Kd.C (Kd.int .i64) w4 Ab 2 [0, 1] ∧ 2 ≤ cb from ⟨(Kd.R_reads' hrb4).2.2, (Kd.R_reads' hrb4).2.1⟩); have HRC4 := Aside0.mk (show Kd.C (Kd.int .i64) w4 Ac 2 [2, 3] ∧ 2 ≤ cc from ⟨(Kd.R_reads' hrc).2.2, (Kd.R_reads' hrc).2.1⟩); clear h4 hk3 hra3 hrb3 hra4 hrb4 hrc) | (go_at_call 17; (with_reducible refine (same_c (r := true) (Kd.C_below HRA4.out.1 (below_alloc (Below.refl _ _) _)) HRA4.out.2 (n4_C w4) (by decide) (by decide) (by decide)).mono ?_); rintro e_ w5 ⟨rfl, hd5⟩; have HB5 := Aside0.mk (below_drawn0 (below_alloc (Below.refl w4.heap.size w4) (.cells #[.int .i64 4] 2)) hd5); clear hd5) | (go_at_call 17; (with_reducible refine (same_c (r := true) (Kd.C_below HRB4.out.1 (below_alloc HB5.out _)) HRB4.out.2 (n01_C w5) (by decide) (by decide) (by decide)).mono ?_); rintro e_ w6 ⟨rfl, hd6⟩; have HB6 := Aside0.mk (below_drawn0 (below_alloc HB5.out (.cells #[.int .i64 0, .int .i64 1] 2)) hd6); clear hd6) | (go_at_call 17; (with_reducible refine (same_c (r := true) (Kd.C_below HRC4.out.1 (below_alloc HB6.out _)) HRC4.out.2 (n23_C w6) (by decide) (by decide) (by decide)).mono ?_); rintro e_ w7 ⟨rfl, hd7⟩; have HB7 := Aside0.mk (below_drawn0 (below_alloc HB6.out (.cells #[.int .i64 2, .int .i64 3] 2)) hd7); have H7 := Aside0.mk (H4.out.below HB7.out); clear hd7) | (go_at_call 21; (with_reducible refine (wait_c g _ _ _ w7 H7.out.lg (by decide) (by decide)).mono ?_); rintro e_ w8 ⟨rfl, hd8⟩; have H8 := Aside0.mk (H7.out.drawn hd8); clear hd8) | (go_at_call 10; (with_reducible refine (window_c g _ _ _ w8 H8.out.lg).mono ?_); rintro e_ w9 ⟨rfl, hd9⟩; have H9 := Aside0.mk (H8.out.drawn hd9); clear hd9))
      go_ret
      exact ⟨rfl, H9.out.bel⟩
end Go.Proofs.Ytgdgegkokghedaa.Led
