/- The walk of AcksRight. gen/mk_right.py writes this text. -/
import Derived.Test.YtanebifiafghnaaCanon08
import Derived.Test.YtanebifiafghnaaWorks08
import Derived.Deep.Cut
import Derived.Deep.CutRange
import Derived.Deep.CutBlock
import Derived.BigRegion
import Derived.BigQuiet
import Derived.Deep.QuietTactic
namespace Go.Proofs.Ytanebifiafghnaa.Walk
open Go.RowKit Go.Deep Go.Proofs.YtanebifiafghnaaW.PrintWords Go.Proofs.YtanebifiafghnaaW.PrintLast Go.Proofs.YtanebifiafghnaaW.PrintMore Go.Proofs.Ytanebifiafghnaa.PAcksRight Go.Proofs.Ytanebifiafghnaa Go.Proofs.Ytanebifiafghnaa.Ack
set_option linter.unusedVariables false
set_option linter.unusedSimpArgs false
theorem el_int {w : World} {A : Option Addr} {xs : List Int} (h : (Kd.int .i64).C w A xs.length xs) (i : Int) (h0 : 0 ≤ i) (h1 : i < xs.length) : ∃ ad, A = some ad ∧ ∀ W, Below w.heap.size w W → W.cell? (ad.add i.toNat) = some (.int .i64 (xs.getD i.toNat 0)) := by
  obtain ⟨ad, c, e, _, hK, hc0⟩ := Kd.C_get h 0 i h0 h1
  refine ⟨ad, e, fun W hb => ?_⟩
  obtain ⟨ad2, c2, e2, _, hK2, hc2⟩ := Kd.C_get (Kd.C_below h hb) 0 i h0 h1
  obtain rfl : ad = ad2 := Option.some.inj (e.symm.trans e2)
  obtain rfl : c2 = [.int .i64 (xs.getD i.toNat 0)] := hK2
  have := hc2 0 _ rfl
  rwa [show i.toNat * (Kd.int .i64).sz + 0 = i.toNat from by show i.toNat * 1 + 0 = _; omega] at this
theorem info2_ : (Try.prog.info? 2).map (fun i => (i.zero, i.size, i.bytes)) = some (some (.int .i64 0), 1, 8) := by kernel_rfl
theorem R_empty (w : World) {base : Nat} (hb : base ≤ w.heap.size) : Kd.R (Kd.int .i64) 2 (w.alloc (.cells #[] 2)) base (fun _ => True) (.slice (some ⟨w.heap.size, 0, none⟩) 0 0) [] :=
  ⟨fun _ _ => trivial, [], World.ownsRow_lit w #[] 0 hb (by decide) rfl, rfl, fun j p hj => by simp at hj⟩
theorem row_int {W : World} {base n c : Nat} {ok : Nat → Prop} {ad : Addr} {ms : List Int} (h : Kd.R (Kd.int .i64) 2 W base ok (.slice (some ad) n c) ms) (i : Nat) (hi : i < ms.length) : W.cell? (ad.add i) = some (.int .i64 (ms.getD i 0)) := by
  obtain ⟨hn, _, hC⟩ := Kd.R_reads' h
  subst hn
  obtain ⟨ad2, e, r⟩ := el_int hC (i : Int) (by omega) (by omega)
  injection e with e
  subst e
  have := r W (Below.refl _ _)
  rwa [Int.toNat_natCast] at this
structure ModF (y : Int) (n k : Nat) : Prop where
  u : IntKind.u64.wrap (n : Int) = (n : Int)
  m : Int.tmod (IntKind.u64.wrap y) (n : Int) = (k : Int)
  w1 : wrap64 (k : Int) = (k : Int)
  w2 : IntKind.i64.wrap (k : Int) = (k : Int)
  z : ((n : Int) == 0) = false
  q1 : ((0 : Int) ≤ (k : Int)) = True
  q2 : ((k : Int) < (n : Int)) = True
  q3 : (k < n) = True
theorem mod_ex (y : Int) (n : Nat) (h : 0 < n) (hn : n ≤ 16) : ∃ k, k < n ∧ ModF y n k := by
  have h0 : 0 ≤ IntKind.u64.wrap y := by
    show 0 ≤ y % 18446744073709551616
    omega
  have h1 : 0 ≤ Int.tmod (IntKind.u64.wrap y) (n : Int) := Int.tmod_nonneg _ h0
  have h2 : Int.tmod (IntKind.u64.wrap y) (n : Int) < (n : Int) := Int.tmod_lt_of_pos _ (by omega)
  have hk : Int.tmod (IntKind.u64.wrap y) (n : Int) = ((Int.tmod (IntKind.u64.wrap y) (n : Int)).toNat : Int) := (Int.toNat_of_nonneg h1).symm
  generalize (Int.tmod (IntKind.u64.wrap y) (n : Int)).toNat = k at hk
  rw [hk] at h2
  have hkn : k < n := by omega
  have hw : wrap64 (k : Int) = (k : Int) := by clear hk; unfold wrap64; omega
  exact ⟨k, hkn, ⟨by clear hk h0 h1; show (n : Int) % 18446744073709551616 = (n : Int); omega, hk, hw, (i64_w _).trans hw, beq_eq_false_iff_ne.2 (by omega), eq_true (by omega), eq_true (by omega), eq_true hkn⟩⟩

structure Shuf (pl ms : List Int) : Prop where
  len : pl.length = ms.length
  mem : ∀ q, q ∈ pl ↔ q ∈ ms
theorem Shuf.swap {pl ms : List Int} (h : Shuf pl ms) {x y : Nat} (hx : x < ms.length) (hy : y < ms.length) : Shuf (swapL pl x y) ms :=
  ⟨(swap_len pl x y).trans h.len, fun q => (swap_mem (by rw [h.len]; exact hx) (by rw [h.len]; exact hy) q).trans (h.mem q)⟩
theorem R_at {W : World} {base n c : Nat} {ok : Nat → Prop} {A : Option Addr} {pl : List Int} (h : Kd.R (Kd.int .i64) 2 W base ok (.slice A n c) pl) (h0 : 0 < n) : ∃ g, A = some ⟨g, 0, none⟩ := by
  obtain ⟨hok, inner, ⟨hl, ho⟩, hr⟩ := h
  rcases ho with ⟨hv, hn⟩ | ⟨g', cap, cur, hv, _⟩
  · injection hv with _ hv; omega
  · injection hv with h1 _ _; exact ⟨g', h1⟩
structure CellF (W : World) (base g k : Nat) (y : Int) : Prop where
  cell : W.cell? ⟨g, k, none⟩ = some (.int .i64 y)
  fro : W.frozen? ⟨g, k, none⟩ = false
  base : base ≤ g
theorem cell_at {W : World} {base n c g : Nat} {ok : Nat → Prop} {pl : List Int} (h : Kd.R (Kd.int .i64) 2 W base ok (.slice (some ⟨g, 0, none⟩) n c) pl) {k : Nat} (hk : k < pl.length) : CellF W base g k (pl.getD k 0) := by
  have hc := row_int h k hk
  obtain ⟨hok, inner, ⟨hl, ho⟩, hr⟩ := h
  rcases ho with ⟨hv, hn⟩ | ⟨g', cap, cur, hv, hb, hh, _⟩
  · cases hv
  · injection hv with h1 _ _
    injection h1 with h1
    injection h1 with h1 _ _
    subst h1
    refine ⟨?_, blk_frozen hh k, hb⟩
    have : (⟨g, 0, none⟩ : Addr).add k = ⟨g, k, none⟩ := by unfold Addr.add; split <;> simp_all
    rwa [this] at hc
theorem int_put {W : World} {base n c g : Nat} {ok : Nat → Prop} {pl : List Int} (h : Kd.R (Kd.int .i64) 2 W base ok (.slice (some ⟨g, 0, none⟩) n c) pl) (k : Nat) (x : Int) : Kd.R (Kd.int .i64) 2 (W.setCell ⟨g, k, none⟩ (.int .i64 x)) base ok (.slice (some ⟨g, 0, none⟩) n c) (pl.set k x) := by
  have := (Kd.R_putg h (k : Int) x).1
  rwa [Int.toNat_natCast] at this
theorem set_at (pl : List Int) {x y : Nat} (hy : y < pl.length) : (pl.set x (pl.getD y 0)).getD y 0 = pl.getD y 0 := by
  rw [getD_int (by rw [List.length_set]; exact hy), List.getElem_set, getD_int hy]
  split <;> rfl
structure IF1 (i n : Nat) : Prop where
  w1 : wrap64 ((i : Int) + 1) = ((i + 1 : Nat) : Int)
  w2 : IntKind.i64.wrap ((i : Int) + 1) = ((i + 1 : Nat) : Int)
  v1 : wrap64 ((i : Int) + 2) = ((i + 2 : Nat) : Int)
  v2 : IntKind.i64.wrap ((i : Int) + 2) = ((i + 2 : Nat) : Int)
theorem if1 (i n : Nat) (h : i ≤ 100) : IF1 i n := by
  have h1 : wrap64 ((i : Int) + 1) = ((i + 1 : Nat) : Int) := by unfold wrap64; omega
  have h2 : wrap64 ((i : Int) + 2) = ((i + 2 : Nat) : Int) := by unfold wrap64; omega
  exact ⟨h1, (i64_w _).trans h1, h2, (i64_w _).trans h2⟩
structure IN1 (i n : Nat) : Prop where
  a : ((i : Int) < (n : Int)) = True
  b : (i < n) = True
  c : ((0 : Int) ≤ (i : Int)) = True
  d : (((i + 1 : Nat) : Int) < (n : Int)) = True
  e : (i + 1 < n) = True
  f : ((0 : Int) ≤ ((i + 1 : Nat) : Int)) = True
  g : ((i : Int) + 1 < (n : Int)) = True
  h : ((0 : Int) ≤ (i : Int) + 1) = True
theorem in1 (i n : Nat) (h : i + 1 < n) : IN1 i n := ⟨eq_true (by omega), eq_true (by omega), eq_true (by omega), eq_true (by omega), eq_true h, eq_true (by omega), eq_true (by omega), eq_true (by omega)⟩
theorem if2 {i n : Nat} (h : i < n) (hn : n ≤ 16) : wrap64 ((i : Int) + 1) = ((i + 1 : Nat) : Int) ∧ IntKind.i64.wrap ((i : Int) + 1) = ((i + 1 : Nat) : Int) ∧ decide ((i : Int) < (n : Int)) = true ∧ decide (i < n) = true ∧ ((i : Int) < (n : Int)) = True ∧ (i < n) = True ∧ ((0 : Int) ≤ (i : Int)) = True := by
  have hw : wrap64 ((i : Int) + 1) = ((i + 1 : Nat) : Int) := by unfold wrap64; omega
  exact ⟨hw, (i64_w _).trans hw, decide_eq_true (by omega), decide_eq_true h, eq_true (by omega), eq_true h, eq_true (by omega)⟩
theorem addE_bad (y : Int) (h : ¬(0 ≤ y ∧ y ≤ 4611686018427387903)) : addE y y = 2 := by
  unfold addE
  rw [if_neg]
  intro hf
  have := (fineB_iff ⟨y, y⟩).1 hf
  exact h ⟨this.1, this.2.2⟩
theorem add_succ (ad : Addr) (i : Nat) : ad.add (i + 1) = ⟨ad.block, ad.off + (i + 1), none⟩ := by unfold Addr.add; rfl
set_option maxHeartbeats 8000000 in
set_option maxRecDepth 100000 in
theorem acksRight_walk {P Q : Prop} (A : Option Addr) (cap : Nat) (xs : List Int) (A2 : Option Addr) (cap2 : Nat) (ts : List Int) (w : World) (hr : (Kd.int .i64).C w A xs.length xs) (hc : xs.length ≤ cap) (hr2 : (Kd.int .i64).C w A2 ts.length ts) (hc2 : ts.length ≤ cap2) (G0 : xs.length * 8 ≤ 140737488351232 ∧ P) (G1 : ts.length * 8 ≤ 140737488351232 ∧ Q) :
    Calls Try.prog 5 #[.slice A xs.length cap, .slice A2 ts.length cap2] w fun e w' => e = .returned (.bool true) ∧ Below w.heap.size w w' := by
  have HR := Aside0.mk hr
  have HT := Aside0.mk hr2
  have HN := Aside0.mk (And.intro G0.1 G1.1)
  clear hr hc hr2 hc2 G0 G1
  go_enter Try.func5, Try.ntmps5
  go_upto_if 23 with (first | (go_at_call 11; (with_reducible refine (works_c _).mono ?_); rintro e_ w0 ⟨rfl, hb⟩; have HB0 := Aside0.mk hb; clear hb) | (go_at_call 12; (with_reducible refine (new_c w0).mono ?_); rintro e_ w1 ⟨ga, rfl, hg, hblk, hb⟩; have HGA := Aside0.mk (show w.heap.size ≤ ga from Nat.le_trans HB0.out.size hg); have HS1 := Aside0.mk (show SG w.heap.size w1 ga [] (.slice none 0 0) from ⟨hblk, Kd.R_nil _ _ _ _ _⟩); have HB1 := Aside0.mk (below_step HB0.out hb); clear hg hblk hb) | (go_at_call 12; (with_reducible refine (new_c w1).mono ?_); (rintro e_ w2 ⟨gb, rfl, hg, hblk, hb⟩; have HT2 := Aside0.mk (show Two w w2 ga gb (.slice none 0 0) (.slice none 0 0) [] [] from ⟨HS1.out.below hb, ⟨hblk, Kd.R_nil _ _ _ _ _⟩, fun he => by have := blk_lt HS1.out.blk; omega, fun k hk => (by cases hk), below_step HB1.out hb⟩); have HGB := Aside0.mk (show w.heap.size ≤ gb from Nat.le_trans HB1.out.size hg); have HC2 := Aside0.mk (Kd.C_below HR.out HT2.out.bel); clear hg hblk hb)) | ((with_reducible refine gate_builtin (b := .append) (xs := #[.tmp 18, .tmp 19]) rfl ?_); at_builtin; refine Kd.R_append_rows (Kd.int .i64) (w0 := w2) w2.heap.size rfl (.tmp 18) (.tmp 19) 27 2 (.int .i64 0) 8 rfl Try.underlying27 info2_ rfl (by decide) (by omega) (.slice (some ⟨w2.heap.size, 0, none⟩) 0 0) [] xs _ _ _ (fun _ => True) (fun _ => False) rfl rfl (R_empty w2 (Nat.le_refl _)) (Kd.C_below HC2.out (below_alloc (Below.refl _ _) _)) (fun _ _ h => h) (fun _ h => h.elim) (fun _ _ => trivial) (below_alloc (Below.refl _ _) _) ?aS5 ?aL5 ?_; (case aS5 => exact (below_alloc (Below.refl w2.heap.size w2) (.cells #[] 2)).size); (case aL5 => have := HN.out.1; simp only [List.length_nil]; omega); intro v5 w5 hR hB hg_ hat; rw [List.nil_append] at hR; obtain ⟨A5, c5, rfl⟩ := Kd.R_slice hR; have HR5 := Aside0.mk hR; have HB5 := Aside0.mk hB; clear hR hB hg_ hat))
  obtain ⟨ms, hms⟩ : ∃ m, xs.take 16 = m := ⟨_, rfl⟩
  have HMS := Aside0.mk hms
  have HML := Aside0.mk (show ms.length ≤ 16 by rw [← hms, List.length_take]; omega)
  have HT5 := Aside0.mk (HT2.out.below HB5.out)
  clear hms
  go_cut [7] from 23 to 25 (fun s7 wc => ∃ Am cm, s7 = .slice Am ms.length cm ∧ Aside0 (Kd.R (Kd.int .i64) 2 wc w2.heap.size (fun _ => True) (.slice Am ms.length cm) ms) ∧ Aside0 (Two w wc ga gb (.slice none 0 0) (.slice none 0 0) [] []))
  case first =>
    by_cases hl : 16 < xs.length
    · have e1 : ms.length = 16 := by rw [← HMS.out, List.length_take]; omega
      have r5 := (Kd.R_reads' HR5.out).2.1
      have k1 : decide (16 < xs.length) = true := decide_eq_true hl
      have k2 : decide ((xs.length : Int) > 16) = true := decide_eq_true (by omega)
      have k3 : decide ((16 : Int) < (xs.length : Int)) = true := k2
      have k4 : ((16 : Int) ≤ (c5 : Int)) = True := eq_true (by omega)
      have k5 : (16 ≤ c5) = True := eq_true (by omega)
      have HM7 := Aside0.mk (show Kd.R (Kd.int .i64) 2 w5 w2.heap.size (fun _ => True) (.slice A5 ms.length c5) ms by rw [e1, ← HMS.out]; exact Kd.R_take HR5.out (by omega))
      rw [e1] at HM7
      clear r5 hl
      rw [k3]
      go_wp2_with (fail)
      go_meet
      case rel => exact ⟨A5, c5, by rw [e1], ⟨by rw [e1]; exact HM7.out⟩, HT5⟩
    · have e1 : ms = xs := by rw [← HMS.out, List.take_of_length_le (by omega)]
      have k1 : decide (16 < xs.length) = false := decide_eq_false hl
      have k2 : decide ((xs.length : Int) > 16) = false := decide_eq_false (by omega)
      have k3 : decide ((16 : Int) < (xs.length : Int)) = false := k2
      clear hl
      rw [k3]
      go_wp2_with (fail)
      go_meet
      case rel => exact ⟨A5, c5, by rw [e1], ⟨by rw [e1]; exact HR5.out⟩, HT5⟩
  case rest =>
    obtain ⟨Am, cm, rfl, HM, HT7⟩ := hcut
    obtain ⟨wm, hwm⟩ : ∃ x, x = wc := ⟨_, rfl⟩
    subst hwm
    have HC7 := Aside0.mk (Kd.R_reads' HM.out).2.2
    clear HR HC2 HB5 HR5 HMS HS1 HT5 HT2
    go_upto_block 0 with (first | ((with_reducible refine gate_builtin (b := .append) (xs := #[.tmp 26, .tmp 27]) rfl ?_); at_builtin; refine Kd.R_append_rows (Kd.int .i64) (w0 := wm) wm.heap.size rfl (.tmp 26) (.tmp 27) 27 2 (.int .i64 0) 8 rfl Try.underlying27 info2_ rfl (by decide) (by omega) (.slice (some ⟨wm.heap.size, 0, none⟩) 0 0) [] ms _ _ _ (fun _ => True) (fun _ => False) rfl rfl (R_empty wm (Nat.le_refl _)) (Kd.C_below HC7.out (below_alloc (Below.refl _ _) _)) (fun _ _ h => h) (fun _ h => h.elim) (fun _ _ => trivial) (below_alloc (Below.refl _ _) _) ?aS6 ?aL6 ?_; (case aS6 => exact (below_alloc (Below.refl wm.heap.size wm) (.cells #[] 2)).size); (case aL6 => have := HML.out; simp only [List.length_nil]; omega); intro v6 w6 hR hB hg_ hat; rw [List.nil_append] at hR; obtain ⟨A6, c6, rfl⟩ := Kd.R_slice hR; have HR6 := Aside0.mk hR; have HB6 := Aside0.mk hB; clear hR hB hg_ hat))
    go_cut [9, 10, 11] from 29 to 79 (fun s9 s10 s11 wx => ∃ pl, Aside0 (Kd.R (Kd.int .i64) 2 wx wm.heap.size (fun _ => True) (.slice A6 ms.length c6) pl) ∧ Aside0 (Shuf pl ms) ∧ Aside0 (Below wm.heap.size wm wx))
    case first =>
      go_wp2_with (fail)
      go_loopw [9, 10, 11] (fun v9 v10 v11 wr => ∃ i : Nat, v9 = .int .i64 (i : Int) ∧ Aside0 (i ≤ 61) ∧ ∃ pl, Aside0 (Kd.R (Kd.int .i64) 2 wr wm.heap.size (fun _ => True) (.slice A6 ms.length c6) pl) ∧ Aside0 (Shuf pl ms) ∧ Aside0 (Below wm.heap.size wm wr)) (fun v9 _ _ _ => (62 - intOf v9).toNat)
      case atStart => exact ⟨0, rfl, ⟨by omega⟩, ms, HR6, ⟨rfl, fun _ => Iff.rfl⟩, HB6⟩
      case round =>
        obtain ⟨i, rfl, HI, pl, HP, HSH, HB⟩ := hrel
        have hif := if1 i 0 (by have := HI.out; omega)
        by_cases d1 : i + 1 < ts.length
        · have M1 : decide (((i + 1 : Nat) : Int) < (ts.length : Int)) = true := decide_eq_true (by omega)
          have M1' : decide (i + 1 < ts.length) = true := decide_eq_true d1
          have M1'' : decide ((i : Int) + 1 < (ts.length : Int)) = true := decide_eq_true (by omega)
          by_cases d2 : i < 60
          · have M2 : decide ((i : Int) < 60) = true := decide_eq_true (by omega)
            have M2' : decide (i < 60) = true := decide_eq_true d2
            by_cases d3 : 0 < ms.length
            · have M3 : decide (0 < ms.length) = true := decide_eq_true d3
              have M3' : decide ((ms.length : Int) > 0) = true := decide_eq_true (by omega)
              have M3'' : decide ((0 : Int) < (ms.length : Int)) = true := M3'
              obtain ⟨gp, hA⟩ := R_at HP.out d3
              subst hA
              obtain ⟨ad, hA, rows⟩ := el_int HT.out (i : Int) (by omega) (by omega)
              obtain ⟨ad2, hA2, rows2⟩ := el_int HT.out ((i + 1 : Nat) : Int) (by omega) (by omega)
              obtain rfl : ad = ad2 := Option.some.inj (hA.symm.trans hA2)
              clear hA2
              subst hA
              have hbw : Below w.heap.size w wr := below_weaken HT7.out.bel HT7.out.bel.size HB.out
              have x0 := rows wr hbw
              have x1 := rows2 wr hbw
              rw [Int.toNat_natCast] at x0 x1
              rw [add_succ] at x1
              generalize ts.getD i 0 = y at x0
              generalize ts.getD (i + 1) 0 = z at x1
              obtain ⟨kx, hkx, mfx⟩ := mod_ex y ms.length d3 HML.out
              obtain ⟨ky, hky, mfy⟩ := mod_ex z ms.length d3 HML.out
              have cx := cell_at HP.out (show kx < pl.length by rw [HSH.out.len]; exact hkx)
              have cy := cell_at HP.out (show ky < pl.length by rw [HSH.out.len]; exact hky)
              have hp1 := int_put HP.out kx (pl.getD ky 0)
              have cz := cell_at hp1 (show ky < (pl.set kx (pl.getD ky 0)).length by rw [List.length_set, HSH.out.len]; exact hky)
              rw [set_at pl (show ky < pl.length by rw [HSH.out.len]; exact hky)] at cz
              have HP2 := Aside0.mk (int_put hp1 ky (pl.getD kx 0))
              have HSW := Aside0.mk (HSH.out.swap hkx hky)
              clear hp1
              have hin := in1 i ts.length d1
              have HK := Aside0.mk (And.intro hkx hky)
              have HJ := Aside0.mk d2
              obtain ⟨px, hpx⟩ : ∃ q, pl.getD kx 0 = q := ⟨_, rfl⟩
              obtain ⟨py, hpy⟩ : ∃ q, pl.getD ky 0 = q := ⟨_, rfl⟩
              have HPX := Aside0.mk (And.intro hpx hpy)
              rw [hpx] at cx
              rw [hpy] at cy cz HP2
              rw [hpx] at HP2
              have HCB := Aside0.mk cx.base
              have hne : (ms = []) = False := eq_false (fun he => by rw [he] at d3; exact absurd d3 (by decide))
              clear rows rows2 hbw hpx hpy hkx hky d1 d2 d3
              obtain ⟨i1, i2, i3, i4⟩ := hif
              obtain ⟨j1, j2, j3, j4, j5, j6, j7, j8⟩ := hin
              obtain ⟨c0, f0, -⟩ := cx
              obtain ⟨c1, f1, -⟩ := cy
              obtain ⟨c2, f2, -⟩ := cz
              obtain ⟨u1, m1, a1, a2, z1, q1, q2, q3⟩ := mfx
              obtain ⟨u2, m2, b1, b2, z2, r1, r2, r3⟩ := mfy
              go_wp2_with (fail)
              refine Calm.wp_region_phC [(3, fun w_ => w_.cell? (ad.add i) = some (.int .i64 y)), (14, fun w_ => w_.cell? ⟨ad.block, ad.off + (i + 1), none⟩ = some (.int .i64 z))] [([0, 1, 2, 3, 4, 5, 6, 7, 8, 9, 10, 11, 12, 13, 14, 15, 16, 17, 18, 19, 20, 21, 22], [])] (by kernel_rfl) (by kernel_rfl) ?_
              refine Calm.ph_next ?_ ?_
              · repeat (first | exact Calm.okI_nil | (refine Calm.okI_cons (Or.inl (by decide)) ?_) | (refine Calm.okI_cons (Or.inr (by first | exact x0 | exact x1)) ?_))
              repeat (first
                | (refine Calm.g_value (v := ?_) (a' := ?_) rfl rfl (by rfl) ?_ ?_ ?_; rotate_left; (· rintro w' hS'; (try simp only [Calm.SC_cons, Calm.SC_nil, Nat.reduceEqDiff, forall_const, false_implies, and_true, true_and] at hS'); (try obtain ⟨hS1, hS2⟩ := hS'); go_simp; with_reducible rfl); rotate_left; (· simp only [Act.put, List.setIfInBounds_toArray, List.set_cons_zero, List.set_cons_succ, i64_w, i32_w]; rfl)))
              refine Calm.g_nil ?_
              refine Calm.h_nil ?_
              refine Calm.ph_end ?_
              simp only [Exit.inBlock, Exit.then]
              go_wp2_with (fail)
              go_region
              go_wp2_with (fail)
              go_roundw
              clear i1 i2 i3 i4 u1 m1 a1 a2 u2 m2 b1 b2 x0 x1 c0 c1 c2 f0 f1 f2
              case rel =>
                have e : swapL pl kx ky = (pl.set kx py).set ky px := by unfold swapL; rw [HPX.out.1, HPX.out.2]
                exact ⟨i + 2, by first | rfl | simp, ⟨by have := HJ.out; omega⟩, swapL pl kx ky, ⟨by rw [e]; exact Kd.R_below HP2.out (below_drew1 (below_drew1 (Below.refl _ _)))⟩, HSW, ⟨below_drew1 (below_drew1 (below_set (below_set HB.out HCB.out) HCB.out))⟩⟩
              case measure => have := HJ.out; simp [intOf]; omega
            · have M3 : decide (0 < ms.length) = false := decide_eq_false d3
              have M3' : decide ((ms.length : Int) > 0) = false := decide_eq_false (by omega)
              have M3'' : decide ((0 : Int) < (ms.length : Int)) = false := M3'
              obtain ⟨i1, i2, i3, i4⟩ := hif
              clear d1 d2 d3
              go_wp2_with (fail)
              go_meet
              case rel => exact ⟨pl, HP, HSH, HB⟩
          · have M2 : decide ((i : Int) < 60) = false := decide_eq_false (by omega)
            have M2' : decide (i < 60) = false := decide_eq_false d2
            obtain ⟨i1, i2, i3, i4⟩ := hif
            clear d1 d2
            go_wp2_with (fail)
            go_meet
            case rel => exact ⟨pl, HP, HSH, HB⟩
        · have M1 : decide (((i + 1 : Nat) : Int) < (ts.length : Int)) = false := decide_eq_false (by omega)
          have M1' : decide (i + 1 < ts.length) = false := decide_eq_false d1
          have M1'' : decide ((i : Int) + 1 < (ts.length : Int)) = false := decide_eq_false (by omega)
          obtain ⟨i1, i2, i3, i4⟩ := hif
          clear d1
          go_wp2_with (fail)
          go_meet
          case rel => exact ⟨pl, HP, HSH, HB⟩
    case rest =>
      obtain ⟨pl, HP, HSH, HB⟩ := hcut
      have HT8 := Aside0.mk (HT7.out.below HB.out)
      have HM8 := Aside0.mk (Kd.R_below HM.out HB.out)
      clear HC7 HR6 HB6 HT HT7 HM HB
      go_wp2_with (fail)
      go_loopw [12] (fun v12 wr => ∃ i : Nat, v12 = .int .i64 (i : Int) ∧ Aside0 (i ≤ ms.length) ∧ ∃ va vb la lb, Aside0 (Two w wr ga gb va vb la lb) ∧ Aside0 (Holds la (ms.take i)) ∧ Aside0 (Holds lb (pl.take i)) ∧ Aside0 (Kd.R (Kd.int .i64) 2 wr w2.heap.size (fun _ => True) (.slice Am ms.length cm) ms) ∧ Aside0 (Kd.R (Kd.int .i64) 2 wr wm.heap.size (fun _ => True) (.slice A6 ms.length c6) pl)) (fun v12 _ => (ms.length - intOf v12).toNat)
      case atStart => exact ⟨0, rfl, ⟨Nat.zero_le _⟩, _, _, [], [], HT8, ⟨Holds.nil⟩, ⟨Holds.nil⟩, HM8, HP⟩
      case round =>
        clear HT8 HM8 HP
        obtain ⟨i, rfl, HI, va, vb, la, lb, HD, HHA, HHB, HM, HP⟩ := hrel
        by_cases d1 : i < ms.length
        · obtain ⟨gm, hA⟩ := R_at HM.out (by omega)
          subst hA
          obtain ⟨gp, hA⟩ := R_at HP.out (by omega)
          subst hA
          have y0 := (cell_at HM.out d1).cell
          have HI2 := Aside0.mk d1
          have HI3 := Aside0.mk (show i < pl.length by rw [HSH.out.len]; exact d1)
          obtain ⟨y, hy⟩ : ∃ q, ms.getD i 0 = q := ⟨_, rfl⟩
          obtain ⟨z, hz⟩ : ∃ q, pl.getD i 0 = q := ⟨_, rfl⟩
          have HY := Aside0.mk hy
          have HZ := Aside0.mk hz
          rw [hy] at y0
          clear hy hz
          have HDD := Aside0.mk (HD.out.below (below_drew1 (Below.refl _ _)))
          have HMD := Aside0.mk (Kd.R_below HM.out (below_drew1 (Below.refl _ _)))
          have HPD := Aside0.mk (Kd.R_below HP.out (below_drew1 (Below.refl _ _)))
          have HLA := Aside0.mk (show la.length ≤ 16 by have h1 := HHA.out.len; rw [List.length_take] at h1; have := HML.out; omega)
          have HLB := Aside0.mk (show lb.length ≤ 16 by have h1 := HHB.out.len; rw [List.length_take] at h1; have := HML.out; have := HSH.out.len; omega)
          have hif := if2 d1 HML.out
          have HAD := Aside0.mk (add_any w wr.drew wr.drew ga _ va la y y (SP.start HDD.out.a HDD.out.bel) HGA.out HHA.out.nf HLA.out)
          clear d1
          obtain ⟨i1, i2, i3, i4, i5, i6, i7⟩ := hif
          by_cases e0 : 0 ≤ y
          · have E0 : decide (0 ≤ y) = true := decide_eq_true e0
            have E0' : decide (y ≥ 0) = true := E0
            by_cases e1 : y ≤ 4611686018427387903
            · rw [show addE y y = 0 from by unfold addE; rw [(fineB_iff ⟨y, y⟩).2 ⟨e0, Int.le_refl _, e1⟩]; rfl] at HAD
              clear e0 e1
              go_wp2_with (fail)
              refine Calm.wp_region_phC [(4, fun w_ => w_.cell? ⟨gm, i, none⟩ = some (.int .i64 y)), (8, fun w_ => w_.cell? ⟨gm, i, none⟩ = some (.int .i64 y)), (15, fun w_ => w_.cell? ⟨gm, i, none⟩ = some (.int .i64 y)), (22, fun w_ => w_.cell? ⟨gm, i, none⟩ = some (.int .i64 y))] [([0, 1, 2, 3, 4, 5, 6, 7, 8], [9]), ([10, 11, 12, 13, 14, 15, 16, 17, 18, 19, 20, 21, 22, 23, 24], [])] (by kernel_rfl) (by kernel_rfl) ?_
              refine Calm.ph_next ?_ ?_
              · repeat (first | exact Calm.okI_nil | (refine Calm.okI_cons (Or.inl (by decide)) ?_) | (refine Calm.okI_cons (Or.inr (by exact y0)) ?_))
              repeat (first
                | (refine Calm.g_value (v := ?_) (a' := ?_) rfl rfl (by rfl) ?_ ?_ ?_; rotate_left; (· rintro w' hS'; (try simp only [Calm.SC_cons, Calm.SC_nil, Nat.reduceEqDiff, forall_const, false_implies, and_true, true_and] at hS'); (try obtain ⟨hS1, hS2⟩ := hS'); go_simp; with_reducible rfl); rotate_left; (· simp only [Act.put, List.setIfInBounds_toArray, List.set_cons_zero, List.set_cons_succ, i64_w, i32_w]; rfl)))
              refine Calm.g_nil ?_
              refine Calm.c_call rfl rfl Try.func13 (by kernel_rfl) rfl #[.pointer (some ⟨ga, 0, none⟩), .int .i64 y, .int .i64 y] (by rfl) rfl (by (try simp only [List.map_toArray, List.map_cons, List.map_nil]); rfl) ?_
              (with_reducible refine (HAD.out).mono ?_)
              rintro e_ w3 ⟨va2, la2, rfl, h3, ha3⟩; have H3 := Aside0.mk (HDD.out.act h3); have HA3 := Aside0.mk ha3; have HM3 := Aside0.mk (ints_keep HMD.out HDD.out.a h3.keep); have HP3 := Aside0.mk (ints_keep HPD.out HDD.out.a h3.keep); have y3 := (cell_at HM3.out HI2.out).cell; rw [HY.out] at y3; clear h3 ha3
              refine ⟨_, rfl, ?_, ?_⟩
              · repeat (first | exact Calm.okC_nil | (refine Calm.okC_cons (Or.inl (by decide +kernel)) ?_) | (refine Calm.okC_cons (Or.inr (by exact y3)) ?_))
              refine Calm.put_to (a' := ?_) ?_ ?_
              rotate_left
              · simp only [Act.put, List.setIfInBounds_toArray, List.set_cons_zero, List.set_cons_succ, i64_w, i32_w]; rfl
              refine Calm.h_nil ?_
              refine Calm.ph_next ?_ ?_
              · repeat (first | exact Calm.okI_nil | (refine Calm.okI_cons (Or.inl (by decide)) ?_) | (refine Calm.okI_cons (Or.inr (by exact y3)) ?_))
              repeat (first
                | (refine Calm.g_value (v := ?_) (a' := ?_) rfl rfl (by rfl) ?_ ?_ ?_; rotate_left; (· rintro w' hS'; (try simp only [Calm.SC_cons, Calm.SC_nil, Nat.reduceEqDiff, forall_const, false_implies, and_true, true_and] at hS'); (try obtain ⟨hS1, hS2⟩ := hS'); go_simp; with_reducible rfl); rotate_left; (· simp only [Act.put, List.setIfInBounds_toArray, List.set_cons_zero, List.set_cons_succ, i64_w, i32_w]; rfl))
                | (refine Calm.g_off (a' := ?_) rfl rfl (by rfl) ?_ ?_; rotate_left; (· simp only [Act.put, List.setIfInBounds_toArray, List.set_cons_zero, List.set_cons_succ, i64_w, i32_w]; rfl)))
              refine Calm.g_nil ?_
              refine Calm.h_nil ?_
              refine Calm.ph_end ?_
              simp only [Exit.inBlock, Exit.then]
              go_wp2_with (fail)
              have H4 := Aside0.mk (H3.out.below (below_drew1 (Below.refl _ _)))
              have HM4 := Aside0.mk (Kd.R_below HM3.out (below_drew1 (Below.refl _ _)))
              have HP4 := Aside0.mk (Kd.R_below HP3.out (below_drew1 (Below.refl _ _)))
              have z3 := (cell_at HP3.out HI3.out).cell
              rw [HZ.out] at z3
              have HBD := Aside0.mk (add_any w w3.drew w3.drew gb _ vb lb z z (SP.start H4.out.b H4.out.bel) HGB.out HHB.out.nf HLB.out)
              refine Calm.wp_region_phC [(4, fun w_ => w_.cell? ⟨gp, i, none⟩ = some (.int .i64 z)), (8, fun w_ => w_.cell? ⟨gp, i, none⟩ = some (.int .i64 z))] [([0, 1, 2, 3, 4, 5, 6, 7, 8], [9])] (by kernel_rfl) (by kernel_rfl) ?_
              refine Calm.ph_next ?_ ?_
              · repeat (first | exact Calm.okI_nil | (refine Calm.okI_cons (Or.inl (by decide)) ?_) | (refine Calm.okI_cons (Or.inr (by exact z3)) ?_))
              repeat (first
                | (refine Calm.g_value (v := ?_) (a' := ?_) rfl rfl (by rfl) ?_ ?_ ?_; rotate_left; (· rintro w' hS'; (try simp only [Calm.SC_cons, Calm.SC_nil, Nat.reduceEqDiff, forall_const, false_implies, and_true, true_and] at hS'); (try obtain ⟨hS1, hS2⟩ := hS'); go_simp; with_reducible rfl); rotate_left; (· simp only [Act.put, List.setIfInBounds_toArray, List.set_cons_zero, List.set_cons_succ, i64_w, i32_w]; rfl)))
              refine Calm.g_nil ?_
              refine Calm.c_call rfl rfl Try.func13 (by kernel_rfl) rfl #[.pointer (some ⟨gb, 0, none⟩), .int .i64 z, .int .i64 z] (by rfl) rfl (by (try simp only [List.map_toArray, List.map_cons, List.map_nil]); rfl) ?_
              (with_reducible refine (HBD.out).mono ?_)
              rintro e_ w5 ⟨vb2, lb2, rfl, h5, hb5⟩; have H5 := Aside0.mk (H4.out.swap.act h5).swap; have HB5 := Aside0.mk hb5; have HM5 := Aside0.mk (ints_keep HM4.out H4.out.b h5.keep); have HP5 := Aside0.mk (ints_keep HP4.out H4.out.b h5.keep); clear h5 hb5
              refine ⟨_, rfl, ?_, ?_⟩
              · repeat (first | exact Calm.okC_nil | (refine Calm.okC_cons (Or.inl (by decide +kernel)) ?_) | (refine Calm.okC_cons (Or.inr (by fail)) ?_))
              refine Calm.put_to (a' := ?_) ?_ ?_
              rotate_left
              · simp only [Act.put, List.setIfInBounds_toArray, List.set_cons_zero, List.set_cons_succ, i64_w, i32_w]; rfl
              refine Calm.h_nil ?_
              refine Calm.ph_end ?_
              simp only [Exit.inBlock, Exit.then]
              have HHA2 := Aside0.mk (show Holds la2 (ms.take (i + 1)) from HHA.out.next (by rw [HY.out]; exact HA3.out) HI2.out HML.out)
              have HHB2 := Aside0.mk (show Holds lb2 (pl.take (i + 1)) from HHB.out.next (by rw [HZ.out]; exact HB5.out) HI3.out (by rw [HSH.out.len]; exact HML.out))
              have HL5 := Aside0.mk (show la2.length ≤ 100000 by have := HA3.out.len; omega)
              obtain ⟨kc, hkc⟩ := check_nf HHA2.out.nf HA3.out.len
              have HKC := Aside0.mk hkc
              clear hkc
              go_wp2_with (first | (go_at_call 14; (with_reducible refine (ranges_c ga w.heap.size _ _ w.heap.size w5 H5.out.a HL5.out H5.out.bel.size).mono ?_); rintro e_ w7 ⟨v7, rfl, hr, hb⟩; obtain ⟨A7, c7, rfl⟩ := Kd.R_slice hr; have HR7 := Aside0.mk (Kd.R_reads' hr); have H7 := Aside0.mk (H5.out.below hb); have HZ7 := Aside0.mk hb; clear hr hb) | (go_at_call 8; (with_reducible refine (acks_Check.calls kc A7 c7 la2 0 w7 HR7.out.2.2 HR7.out.2.1 HKC.out).mono ?_); rintro e_ w8 ⟨rfl, hb⟩; have H8 := Aside0.mk (H7.out.below hb); have HM8 := Aside0.mk (Kd.R_below (Kd.R_below HM5.out HZ7.out) hb); have HP8 := Aside0.mk (Kd.R_below (Kd.R_below HP5.out HZ7.out) hb); clear hb))
              go_roundw
              case rel => exact ⟨i + 1, by first | rfl | simp, ⟨by have := HI2.out; omega⟩, va2, vb2, la2, lb2, H8, HHA2, HHB2, HM8, HP8⟩
              case measure => clear i1 i2; have := HI2.out; simp [intOf]; omega
            · rw [show addE y y = 2 from addE_bad y (by omega)] at HAD
              have E1 : decide (y ≤ 4611686018427387903) = false := decide_eq_false e1
              clear e0 e1
              go_wp2_with (fail)
              refine Calm.wp_region_phC [(4, fun w_ => w_.cell? ⟨gm, i, none⟩ = some (.int .i64 y)), (8, fun w_ => w_.cell? ⟨gm, i, none⟩ = some (.int .i64 y)), (15, fun w_ => w_.cell? ⟨gm, i, none⟩ = some (.int .i64 y)), (22, fun w_ => w_.cell? ⟨gm, i, none⟩ = some (.int .i64 y))] [([0, 1, 2, 3, 4, 5, 6, 7, 8], [9]), ([10, 11, 12, 13, 14, 15, 16, 17, 18, 19, 20, 21, 22, 23, 24], [])] (by kernel_rfl) (by kernel_rfl) ?_
              refine Calm.ph_next ?_ ?_
              · repeat (first | exact Calm.okI_nil | (refine Calm.okI_cons (Or.inl (by decide)) ?_) | (refine Calm.okI_cons (Or.inr (by exact y0)) ?_))
              repeat (first
                | (refine Calm.g_value (v := ?_) (a' := ?_) rfl rfl (by rfl) ?_ ?_ ?_; rotate_left; (· rintro w' hS'; (try simp only [Calm.SC_cons, Calm.SC_nil, Nat.reduceEqDiff, forall_const, false_implies, and_true, true_and] at hS'); (try obtain ⟨hS1, hS2⟩ := hS'); go_simp; with_reducible rfl); rotate_left; (· simp only [Act.put, List.setIfInBounds_toArray, List.set_cons_zero, List.set_cons_succ, i64_w, i32_w]; rfl)))
              refine Calm.g_nil ?_
              refine Calm.c_call rfl rfl Try.func13 (by kernel_rfl) rfl #[.pointer (some ⟨ga, 0, none⟩), .int .i64 y, .int .i64 y] (by rfl) rfl (by (try simp only [List.map_toArray, List.map_cons, List.map_nil]); rfl) ?_
              (with_reducible refine (HAD.out).mono ?_)
              rintro e_ w3 ⟨va2, la2, rfl, h3, ha3⟩; have H3 := Aside0.mk (HDD.out.act h3); have HA3 := Aside0.mk ha3; have HM3 := Aside0.mk (ints_keep HMD.out HDD.out.a h3.keep); have HP3 := Aside0.mk (ints_keep HPD.out HDD.out.a h3.keep); have y3 := (cell_at HM3.out HI2.out).cell; rw [HY.out] at y3; clear h3 ha3
              refine ⟨_, rfl, ?_, ?_⟩
              · repeat (first | exact Calm.okC_nil | (refine Calm.okC_cons (Or.inl (by decide +kernel)) ?_) | (refine Calm.okC_cons (Or.inr (by exact y3)) ?_))
              refine Calm.put_to (a' := ?_) ?_ ?_
              rotate_left
              · simp only [Act.put, List.setIfInBounds_toArray, List.set_cons_zero, List.set_cons_succ, i64_w, i32_w]; rfl
              refine Calm.h_nil ?_
              refine Calm.ph_next ?_ ?_
              · repeat (first | exact Calm.okI_nil | (refine Calm.okI_cons (Or.inl (by decide)) ?_) | (refine Calm.okI_cons (Or.inr (by exact y3)) ?_))
              repeat (first
                | (refine Calm.g_value (v := ?_) (a' := ?_) rfl rfl (by rfl) ?_ ?_ ?_; rotate_left; (· rintro w' hS'; (try simp only [Calm.SC_cons, Calm.SC_nil, Nat.reduceEqDiff, forall_const, false_implies, and_true, true_and] at hS'); (try obtain ⟨hS1, hS2⟩ := hS'); go_simp; with_reducible rfl); rotate_left; (· simp only [Act.put, List.setIfInBounds_toArray, List.set_cons_zero, List.set_cons_succ, i64_w, i32_w]; rfl))
                | (refine Calm.g_off (a' := ?_) rfl rfl (by rfl) ?_ ?_; rotate_left; (· simp only [Act.put, List.setIfInBounds_toArray, List.set_cons_zero, List.set_cons_succ, i64_w, i32_w]; rfl)))
              refine Calm.g_nil ?_
              refine Calm.h_nil ?_
              refine Calm.ph_end ?_
              simp only [Exit.inBlock, Exit.then]
              go_wp2_with (fail)
              have H4 := Aside0.mk (H3.out.below (below_drew1 (Below.refl _ _)))
              have HM4 := Aside0.mk (Kd.R_below HM3.out (below_drew1 (Below.refl _ _)))
              have HP4 := Aside0.mk (Kd.R_below HP3.out (below_drew1 (Below.refl _ _)))
              have z3 := (cell_at HP3.out HI3.out).cell
              rw [HZ.out] at z3
              have HBD := Aside0.mk (add_any w w3.drew w3.drew gb _ vb lb z z (SP.start H4.out.b H4.out.bel) HGB.out HHB.out.nf HLB.out)
              refine Calm.wp_region_phC [(4, fun w_ => w_.cell? ⟨gp, i, none⟩ = some (.int .i64 z)), (8, fun w_ => w_.cell? ⟨gp, i, none⟩ = some (.int .i64 z))] [([0, 1, 2, 3, 4, 5, 6, 7, 8], [9])] (by kernel_rfl) (by kernel_rfl) ?_
              refine Calm.ph_next ?_ ?_
              · repeat (first | exact Calm.okI_nil | (refine Calm.okI_cons (Or.inl (by decide)) ?_) | (refine Calm.okI_cons (Or.inr (by exact z3)) ?_))
              repeat (first
                | (refine Calm.g_value (v := ?_) (a' := ?_) rfl rfl (by rfl) ?_ ?_ ?_; rotate_left; (· rintro w' hS'; (try simp only [Calm.SC_cons, Calm.SC_nil, Nat.reduceEqDiff, forall_const, false_implies, and_true, true_and] at hS'); (try obtain ⟨hS1, hS2⟩ := hS'); go_simp; with_reducible rfl); rotate_left; (· simp only [Act.put, List.setIfInBounds_toArray, List.set_cons_zero, List.set_cons_succ, i64_w, i32_w]; rfl)))
              refine Calm.g_nil ?_
              refine Calm.c_call rfl rfl Try.func13 (by kernel_rfl) rfl #[.pointer (some ⟨gb, 0, none⟩), .int .i64 z, .int .i64 z] (by rfl) rfl (by (try simp only [List.map_toArray, List.map_cons, List.map_nil]); rfl) ?_
              (with_reducible refine (HBD.out).mono ?_)
              rintro e_ w5 ⟨vb2, lb2, rfl, h5, hb5⟩; have H5 := Aside0.mk (H4.out.swap.act h5).swap; have HB5 := Aside0.mk hb5; have HM5 := Aside0.mk (ints_keep HM4.out H4.out.b h5.keep); have HP5 := Aside0.mk (ints_keep HP4.out H4.out.b h5.keep); clear h5 hb5
              refine ⟨_, rfl, ?_, ?_⟩
              · repeat (first | exact Calm.okC_nil | (refine Calm.okC_cons (Or.inl (by decide +kernel)) ?_) | (refine Calm.okC_cons (Or.inr (by fail)) ?_))
              refine Calm.put_to (a' := ?_) ?_ ?_
              rotate_left
              · simp only [Act.put, List.setIfInBounds_toArray, List.set_cons_zero, List.set_cons_succ, i64_w, i32_w]; rfl
              refine Calm.h_nil ?_
              refine Calm.ph_end ?_
              simp only [Exit.inBlock, Exit.then]
              have HHA2 := Aside0.mk (show Holds la2 (ms.take (i + 1)) from HHA.out.next (by rw [HY.out]; exact HA3.out) HI2.out HML.out)
              have HHB2 := Aside0.mk (show Holds lb2 (pl.take (i + 1)) from HHB.out.next (by rw [HZ.out]; exact HB5.out) HI3.out (by rw [HSH.out.len]; exact HML.out))
              have HL5 := Aside0.mk (show la2.length ≤ 100000 by have := HA3.out.len; omega)
              obtain ⟨kc, hkc⟩ := check_nf HHA2.out.nf HA3.out.len
              have HKC := Aside0.mk hkc
              clear hkc
              go_wp2_with (first | (go_at_call 14; (with_reducible refine (ranges_c ga w.heap.size _ _ w.heap.size w5 H5.out.a HL5.out H5.out.bel.size).mono ?_); rintro e_ w7 ⟨v7, rfl, hr, hb⟩; obtain ⟨A7, c7, rfl⟩ := Kd.R_slice hr; have HR7 := Aside0.mk (Kd.R_reads' hr); have H7 := Aside0.mk (H5.out.below hb); have HZ7 := Aside0.mk hb; clear hr hb) | (go_at_call 8; (with_reducible refine (acks_Check.calls kc A7 c7 la2 0 w7 HR7.out.2.2 HR7.out.2.1 HKC.out).mono ?_); rintro e_ w8 ⟨rfl, hb⟩; have H8 := Aside0.mk (H7.out.below hb); have HM8 := Aside0.mk (Kd.R_below (Kd.R_below HM5.out HZ7.out) hb); have HP8 := Aside0.mk (Kd.R_below (Kd.R_below HP5.out HZ7.out) hb); clear hb))
              go_roundw
              case rel => exact ⟨i + 1, by first | rfl | simp, ⟨by have := HI2.out; omega⟩, va2, vb2, la2, lb2, H8, HHA2, HHB2, HM8, HP8⟩
              case measure => clear i1 i2; have := HI2.out; simp [intOf]; omega
          · have E0 : decide (0 ≤ y) = false := decide_eq_false e0
            have E0' : decide (y ≥ 0) = false := E0
            rw [show addE y y = 2 from addE_bad y (by omega)] at HAD
            clear e0
            go_wp2_with (fail)
            refine Calm.wp_region_phC [(4, fun w_ => w_.cell? ⟨gm, i, none⟩ = some (.int .i64 y)), (8, fun w_ => w_.cell? ⟨gm, i, none⟩ = some (.int .i64 y)), (15, fun w_ => w_.cell? ⟨gm, i, none⟩ = some (.int .i64 y)), (22, fun w_ => w_.cell? ⟨gm, i, none⟩ = some (.int .i64 y))] [([0, 1, 2, 3, 4, 5, 6, 7, 8], [9]), ([10, 11, 12, 13, 14, 15, 16, 17, 18, 19, 20, 21, 22, 23, 24], [])] (by kernel_rfl) (by kernel_rfl) ?_
            refine Calm.ph_next ?_ ?_
            · repeat (first | exact Calm.okI_nil | (refine Calm.okI_cons (Or.inl (by decide)) ?_) | (refine Calm.okI_cons (Or.inr (by exact y0)) ?_))
            repeat (first
              | (refine Calm.g_value (v := ?_) (a' := ?_) rfl rfl (by rfl) ?_ ?_ ?_; rotate_left; (· rintro w' hS'; (try simp only [Calm.SC_cons, Calm.SC_nil, Nat.reduceEqDiff, forall_const, false_implies, and_true, true_and] at hS'); (try obtain ⟨hS1, hS2⟩ := hS'); go_simp; with_reducible rfl); rotate_left; (· simp only [Act.put, List.setIfInBounds_toArray, List.set_cons_zero, List.set_cons_succ, i64_w, i32_w]; rfl)))
            refine Calm.g_nil ?_
            refine Calm.c_call rfl rfl Try.func13 (by kernel_rfl) rfl #[.pointer (some ⟨ga, 0, none⟩), .int .i64 y, .int .i64 y] (by rfl) rfl (by (try simp only [List.map_toArray, List.map_cons, List.map_nil]); rfl) ?_
            (with_reducible refine (HAD.out).mono ?_)
            rintro e_ w3 ⟨va2, la2, rfl, h3, ha3⟩; have H3 := Aside0.mk (HDD.out.act h3); have HA3 := Aside0.mk ha3; have HM3 := Aside0.mk (ints_keep HMD.out HDD.out.a h3.keep); have HP3 := Aside0.mk (ints_keep HPD.out HDD.out.a h3.keep); have y3 := (cell_at HM3.out HI2.out).cell; rw [HY.out] at y3; clear h3 ha3
            refine ⟨_, rfl, ?_, ?_⟩
            · repeat (first | exact Calm.okC_nil | (refine Calm.okC_cons (Or.inl (by decide +kernel)) ?_) | (refine Calm.okC_cons (Or.inr (by exact y3)) ?_))
            refine Calm.put_to (a' := ?_) ?_ ?_
            rotate_left
            · simp only [Act.put, List.setIfInBounds_toArray, List.set_cons_zero, List.set_cons_succ, i64_w, i32_w]; rfl
            refine Calm.h_nil ?_
            refine Calm.ph_next ?_ ?_
            · repeat (first | exact Calm.okI_nil | (refine Calm.okI_cons (Or.inl (by decide)) ?_) | (refine Calm.okI_cons (Or.inr (by exact y3)) ?_))
            repeat (first
              | (refine Calm.g_value (v := ?_) (a' := ?_) rfl rfl (by rfl) ?_ ?_ ?_; rotate_left; (· rintro w' hS'; (try simp only [Calm.SC_cons, Calm.SC_nil, Nat.reduceEqDiff, forall_const, false_implies, and_true, true_and] at hS'); (try obtain ⟨hS1, hS2⟩ := hS'); go_simp; with_reducible rfl); rotate_left; (· simp only [Act.put, List.setIfInBounds_toArray, List.set_cons_zero, List.set_cons_succ, i64_w, i32_w]; rfl))
              | (refine Calm.g_off (a' := ?_) rfl rfl (by rfl) ?_ ?_; rotate_left; (· simp only [Act.put, List.setIfInBounds_toArray, List.set_cons_zero, List.set_cons_succ, i64_w, i32_w]; rfl)))
            refine Calm.g_nil ?_
            refine Calm.h_nil ?_
            refine Calm.ph_end ?_
            simp only [Exit.inBlock, Exit.then]
            go_wp2_with (fail)
            have H4 := Aside0.mk (H3.out.below (below_drew1 (Below.refl _ _)))
            have HM4 := Aside0.mk (Kd.R_below HM3.out (below_drew1 (Below.refl _ _)))
            have HP4 := Aside0.mk (Kd.R_below HP3.out (below_drew1 (Below.refl _ _)))
            have z3 := (cell_at HP3.out HI3.out).cell
            rw [HZ.out] at z3
            have HBD := Aside0.mk (add_any w w3.drew w3.drew gb _ vb lb z z (SP.start H4.out.b H4.out.bel) HGB.out HHB.out.nf HLB.out)
            refine Calm.wp_region_phC [(4, fun w_ => w_.cell? ⟨gp, i, none⟩ = some (.int .i64 z)), (8, fun w_ => w_.cell? ⟨gp, i, none⟩ = some (.int .i64 z))] [([0, 1, 2, 3, 4, 5, 6, 7, 8], [9])] (by kernel_rfl) (by kernel_rfl) ?_
            refine Calm.ph_next ?_ ?_
            · repeat (first | exact Calm.okI_nil | (refine Calm.okI_cons (Or.inl (by decide)) ?_) | (refine Calm.okI_cons (Or.inr (by exact z3)) ?_))
            repeat (first
              | (refine Calm.g_value (v := ?_) (a' := ?_) rfl rfl (by rfl) ?_ ?_ ?_; rotate_left; (· rintro w' hS'; (try simp only [Calm.SC_cons, Calm.SC_nil, Nat.reduceEqDiff, forall_const, false_implies, and_true, true_and] at hS'); (try obtain ⟨hS1, hS2⟩ := hS'); go_simp; with_reducible rfl); rotate_left; (· simp only [Act.put, List.setIfInBounds_toArray, List.set_cons_zero, List.set_cons_succ, i64_w, i32_w]; rfl)))
            refine Calm.g_nil ?_
            refine Calm.c_call rfl rfl Try.func13 (by kernel_rfl) rfl #[.pointer (some ⟨gb, 0, none⟩), .int .i64 z, .int .i64 z] (by rfl) rfl (by (try simp only [List.map_toArray, List.map_cons, List.map_nil]); rfl) ?_
            (with_reducible refine (HBD.out).mono ?_)
            rintro e_ w5 ⟨vb2, lb2, rfl, h5, hb5⟩; have H5 := Aside0.mk (H4.out.swap.act h5).swap; have HB5 := Aside0.mk hb5; have HM5 := Aside0.mk (ints_keep HM4.out H4.out.b h5.keep); have HP5 := Aside0.mk (ints_keep HP4.out H4.out.b h5.keep); clear h5 hb5
            refine ⟨_, rfl, ?_, ?_⟩
            · repeat (first | exact Calm.okC_nil | (refine Calm.okC_cons (Or.inl (by decide +kernel)) ?_) | (refine Calm.okC_cons (Or.inr (by fail)) ?_))
            refine Calm.put_to (a' := ?_) ?_ ?_
            rotate_left
            · simp only [Act.put, List.setIfInBounds_toArray, List.set_cons_zero, List.set_cons_succ, i64_w, i32_w]; rfl
            refine Calm.h_nil ?_
            refine Calm.ph_end ?_
            simp only [Exit.inBlock, Exit.then]
            have HHA2 := Aside0.mk (show Holds la2 (ms.take (i + 1)) from HHA.out.next (by rw [HY.out]; exact HA3.out) HI2.out HML.out)
            have HHB2 := Aside0.mk (show Holds lb2 (pl.take (i + 1)) from HHB.out.next (by rw [HZ.out]; exact HB5.out) HI3.out (by rw [HSH.out.len]; exact HML.out))
            have HL5 := Aside0.mk (show la2.length ≤ 100000 by have := HA3.out.len; omega)
            obtain ⟨kc, hkc⟩ := check_nf HHA2.out.nf HA3.out.len
            have HKC := Aside0.mk hkc
            clear hkc
            go_wp2_with (first | (go_at_call 14; (with_reducible refine (ranges_c ga w.heap.size _ _ w.heap.size w5 H5.out.a HL5.out H5.out.bel.size).mono ?_); rintro e_ w7 ⟨v7, rfl, hr, hb⟩; obtain ⟨A7, c7, rfl⟩ := Kd.R_slice hr; have HR7 := Aside0.mk (Kd.R_reads' hr); have H7 := Aside0.mk (H5.out.below hb); have HZ7 := Aside0.mk hb; clear hr hb) | (go_at_call 8; (with_reducible refine (acks_Check.calls kc A7 c7 la2 0 w7 HR7.out.2.2 HR7.out.2.1 HKC.out).mono ?_); rintro e_ w8 ⟨rfl, hb⟩; have H8 := Aside0.mk (H7.out.below hb); have HM8 := Aside0.mk (Kd.R_below (Kd.R_below HM5.out HZ7.out) hb); have HP8 := Aside0.mk (Kd.R_below (Kd.R_below HP5.out HZ7.out) hb); clear hb))
            go_roundw
            case rel => exact ⟨i + 1, by first | rfl | simp, ⟨by have := HI2.out; omega⟩, va2, vb2, la2, lb2, H8, HHA2, HHB2, HM8, HP8⟩
            case measure => clear i1 i2; have := HI2.out; simp [intOf]; omega
        · skip
          have hi : i = ms.length := by have := HI.out; omega
          clear d1 HI
          subst hi
          have HHA' := Aside0.mk (show Holds la ms by have h := HHA.out; rwa [List.take_length] at h)
          have HHB' := Aside0.mk (show Holds lb pl by have h := HHB.out; rwa [← HSH.out.len, List.take_length] at h)
          have hab : lb = la := (HHA'.out.same HHB'.out HSH.out.mem).symm
          subst hab
          clear HHA HHB HHB' HP HSH
          obtain ⟨wo, hwo⟩ : ∃ x, x = wr := ⟨_, rfl⟩
          subst hwo
          have HL5 := Aside0.mk (show lb.length ≤ 100000 by have := HHA'.out.len; have := HML.out; omega)
          go_wp2_with (fail)
          go_loopw [13] (fun v13 wr => ∃ i : Nat, v13 = .int .i64 (i : Int) ∧ Aside0 (i ≤ ms.length) ∧ Aside0 (Two w wr ga gb va vb lb lb) ∧ Aside0 (Kd.R (Kd.int .i64) 2 wr w2.heap.size (fun _ => True) (.slice Am ms.length cm) ms)) (fun v13 _ => (ms.length - intOf v13).toNat)
          case atStart => exact ⟨0, rfl, ⟨Nat.zero_le _⟩, HD, HM⟩
          case round =>
            clear HD HM
            obtain ⟨i, rfl, HI, HD, HM⟩ := hrel
            by_cases d1 : i < ms.length
            · obtain ⟨gm, hA⟩ := R_at HM.out (by omega)
              subst hA
              have y0 := (cell_at HM.out d1).cell
              have HI2 := Aside0.mk d1
              have hfi := has_fine HHA'.out d1
              obtain ⟨y, hy⟩ : ∃ q, ms.getD i 0 = q := ⟨_, rfl⟩
              have HY := Aside0.mk hy
              rw [hy] at y0 hfi
              clear hy
              have HDD := Aside0.mk (HD.out.below (below_drew1 (Below.refl _ _)))
              have HMD := Aside0.mk (Kd.R_below HM.out (below_drew1 (Below.refl _ _)))
              have HAS := Aside0.mk (has_c ga y va lb w.heap.size wr.drew HDD.out.a)
              rw [hfi] at HAS
              have hif := if2 d1 HML.out
              clear d1 hfi
              obtain ⟨i1, i2, i3, i4, i5, i6, i7⟩ := hif
              by_cases e0 : 0 ≤ y
              · have E0 : decide (0 ≤ y) = true := decide_eq_true e0
                have E0' : decide (y ≥ 0) = true := E0
                by_cases e1 : y ≤ 4611686018427387903
                · have E1 : decide (y ≤ 4611686018427387903) = true := decide_eq_true e1
                  rw [E0, E1, Bool.and_true] at HAS
                  clear e0 e1
                  go_wp2_with (fail)
                  refine Calm.wp_region_phC [(4, fun w_ => w_.cell? ⟨gm, i, none⟩ = some (.int .i64 y)), (9, fun w_ => w_.cell? ⟨gm, i, none⟩ = some (.int .i64 y)), (15, fun w_ => w_.cell? ⟨gm, i, none⟩ = some (.int .i64 y))] [([0, 1, 2, 3, 4, 6, 7, 8, 9, 10], [5]), ([11, 12, 13, 14, 15, 16, 17, 18], [])] (by kernel_rfl) (by kernel_rfl) ?_
                  refine Calm.ph_next ?_ ?_
                  · repeat (first | exact Calm.okI_nil | (refine Calm.okI_cons (Or.inl (by decide)) ?_) | (refine Calm.okI_cons (Or.inr (by exact y0)) ?_))
                  repeat (first
                    | (refine Calm.g_value (v := ?_) (a' := ?_) rfl rfl (by rfl) ?_ ?_ ?_; rotate_left; (· rintro w' hS'; (try simp only [Calm.SC_cons, Calm.SC_nil, Nat.reduceEqDiff, forall_const, false_implies, and_true, true_and] at hS'); (try obtain ⟨hS1, hS2⟩ := hS'); go_simp; with_reducible rfl); rotate_left; (· simp only [Act.put, List.setIfInBounds_toArray, List.set_cons_zero, List.set_cons_succ, i64_w, i32_w]; rfl)))
                  refine Calm.g_nil ?_
                  refine Calm.c_call rfl rfl Try.func15 (by kernel_rfl) rfl #[.pointer (some ⟨ga, 0, none⟩), .int .i64 y] (by rfl) rfl (by (try simp only [List.map_toArray, List.map_cons, List.map_nil]); rfl) ?_
                  (with_reducible refine (HAS.out).mono ?_)
                  rintro e_ w3 ⟨rfl, hb⟩; have H3 := Aside0.mk (HDD.out.below hb); have HM3 := Aside0.mk (Kd.R_below HMD.out hb); have y3 := (cell_at HM3.out HI2.out).cell; rw [HY.out] at y3; clear hb
                  refine ⟨_, rfl, ?_, ?_⟩
                  · repeat (first | exact Calm.okC_nil | (refine Calm.okC_cons (Or.inl (by decide +kernel)) ?_) | (refine Calm.okC_cons (Or.inr (by exact y3)) ?_))
                  refine Calm.put_to (a' := ?_) ?_ ?_
                  rotate_left
                  · simp only [Act.put, List.setIfInBounds_toArray, List.set_cons_zero, List.set_cons_succ, i64_w, i32_w]; rfl
                  refine Calm.h_nil ?_
                  refine Calm.ph_next ?_ ?_
                  · repeat (first | exact Calm.okI_nil | (refine Calm.okI_cons (Or.inl (by decide)) ?_) | (refine Calm.okI_cons (Or.inr (by exact y3)) ?_))
                  repeat (first
                    | (refine Calm.g_value (v := ?_) (a' := ?_) rfl rfl (by rfl) ?_ ?_ ?_; rotate_left; (· rintro w' hS'; (try simp only [Calm.SC_cons, Calm.SC_nil, Nat.reduceEqDiff, forall_const, false_implies, and_true, true_and] at hS'); (try obtain ⟨hS1, hS2⟩ := hS'); go_simp; with_reducible rfl); rotate_left; (· simp only [Act.put, List.setIfInBounds_toArray, List.set_cons_zero, List.set_cons_succ, i64_w, i32_w]; rfl))
                    | (refine Calm.g_off (a' := ?_) rfl rfl (by rfl) ?_ ?_; rotate_left; (· simp only [Act.put, List.setIfInBounds_toArray, List.set_cons_zero, List.set_cons_succ, i64_w, i32_w]; rfl)))
                  refine Calm.g_nil ?_
                  refine Calm.h_nil ?_
                  refine Calm.ph_end ?_
                  simp only [Exit.inBlock, Exit.then]
                  go_wp2_with (fail)
                  go_roundw
                  case rel => exact ⟨i + 1, by first | rfl | simp, ⟨by have := HI2.out; omega⟩, H3, HM3⟩
                  case measure => clear i1 i2; have := HI2.out; simp [intOf]; omega
                · have E1 : decide (y ≤ 4611686018427387903) = false := decide_eq_false e1
                  rw [E0, E1, Bool.and_false] at HAS
                  clear e0 e1
                  go_wp2_with (fail)
                  refine Calm.wp_region_phC [(4, fun w_ => w_.cell? ⟨gm, i, none⟩ = some (.int .i64 y)), (9, fun w_ => w_.cell? ⟨gm, i, none⟩ = some (.int .i64 y)), (15, fun w_ => w_.cell? ⟨gm, i, none⟩ = some (.int .i64 y))] [([0, 1, 2, 3, 4, 6, 7, 8, 9, 10], [5]), ([11, 12, 13, 14, 15, 16, 17, 18], [])] (by kernel_rfl) (by kernel_rfl) ?_
                  refine Calm.ph_next ?_ ?_
                  · repeat (first | exact Calm.okI_nil | (refine Calm.okI_cons (Or.inl (by decide)) ?_) | (refine Calm.okI_cons (Or.inr (by exact y0)) ?_))
                  repeat (first
                    | (refine Calm.g_value (v := ?_) (a' := ?_) rfl rfl (by rfl) ?_ ?_ ?_; rotate_left; (· rintro w' hS'; (try simp only [Calm.SC_cons, Calm.SC_nil, Nat.reduceEqDiff, forall_const, false_implies, and_true, true_and] at hS'); (try obtain ⟨hS1, hS2⟩ := hS'); go_simp; with_reducible rfl); rotate_left; (· simp only [Act.put, List.setIfInBounds_toArray, List.set_cons_zero, List.set_cons_succ, i64_w, i32_w]; rfl)))
                  refine Calm.g_nil ?_
                  refine Calm.c_call rfl rfl Try.func15 (by kernel_rfl) rfl #[.pointer (some ⟨ga, 0, none⟩), .int .i64 y] (by rfl) rfl (by (try simp only [List.map_toArray, List.map_cons, List.map_nil]); rfl) ?_
                  (with_reducible refine (HAS.out).mono ?_)
                  rintro e_ w3 ⟨rfl, hb⟩; have H3 := Aside0.mk (HDD.out.below hb); have HM3 := Aside0.mk (Kd.R_below HMD.out hb); have y3 := (cell_at HM3.out HI2.out).cell; rw [HY.out] at y3; clear hb
                  refine ⟨_, rfl, ?_, ?_⟩
                  · repeat (first | exact Calm.okC_nil | (refine Calm.okC_cons (Or.inl (by decide +kernel)) ?_) | (refine Calm.okC_cons (Or.inr (by exact y3)) ?_))
                  refine Calm.put_to (a' := ?_) ?_ ?_
                  rotate_left
                  · simp only [Act.put, List.setIfInBounds_toArray, List.set_cons_zero, List.set_cons_succ, i64_w, i32_w]; rfl
                  refine Calm.h_nil ?_
                  refine Calm.ph_next ?_ ?_
                  · repeat (first | exact Calm.okI_nil | (refine Calm.okI_cons (Or.inl (by decide)) ?_) | (refine Calm.okI_cons (Or.inr (by exact y3)) ?_))
                  repeat (first
                    | (refine Calm.g_value (v := ?_) (a' := ?_) rfl rfl (by rfl) ?_ ?_ ?_; rotate_left; (· rintro w' hS'; (try simp only [Calm.SC_cons, Calm.SC_nil, Nat.reduceEqDiff, forall_const, false_implies, and_true, true_and] at hS'); (try obtain ⟨hS1, hS2⟩ := hS'); go_simp; with_reducible rfl); rotate_left; (· simp only [Act.put, List.setIfInBounds_toArray, List.set_cons_zero, List.set_cons_succ, i64_w, i32_w]; rfl))
                    | (refine Calm.g_off (a' := ?_) rfl rfl (by rfl) ?_ ?_; rotate_left; (· simp only [Act.put, List.setIfInBounds_toArray, List.set_cons_zero, List.set_cons_succ, i64_w, i32_w]; rfl)))
                  refine Calm.g_nil ?_
                  refine Calm.h_nil ?_
                  refine Calm.ph_end ?_
                  simp only [Exit.inBlock, Exit.then]
                  go_wp2_with (fail)
                  go_roundw
                  case rel => exact ⟨i + 1, by first | rfl | simp, ⟨by have := HI2.out; omega⟩, H3, HM3⟩
                  case measure => clear i1 i2; have := HI2.out; simp [intOf]; omega
              · have E0 : decide (0 ≤ y) = false := decide_eq_false e0
                have E0' : decide (y ≥ 0) = false := E0
                rw [E0, Bool.false_and] at HAS
                clear e0
                go_wp2_with (fail)
                refine Calm.wp_region_phC [(4, fun w_ => w_.cell? ⟨gm, i, none⟩ = some (.int .i64 y)), (9, fun w_ => w_.cell? ⟨gm, i, none⟩ = some (.int .i64 y)), (15, fun w_ => w_.cell? ⟨gm, i, none⟩ = some (.int .i64 y))] [([0, 1, 2, 3, 4, 6, 7, 8, 9, 10], [5]), ([11, 12, 13, 14, 15, 16, 17, 18], [])] (by kernel_rfl) (by kernel_rfl) ?_
                refine Calm.ph_next ?_ ?_
                · repeat (first | exact Calm.okI_nil | (refine Calm.okI_cons (Or.inl (by decide)) ?_) | (refine Calm.okI_cons (Or.inr (by exact y0)) ?_))
                repeat (first
                  | (refine Calm.g_value (v := ?_) (a' := ?_) rfl rfl (by rfl) ?_ ?_ ?_; rotate_left; (· rintro w' hS'; (try simp only [Calm.SC_cons, Calm.SC_nil, Nat.reduceEqDiff, forall_const, false_implies, and_true, true_and] at hS'); (try obtain ⟨hS1, hS2⟩ := hS'); go_simp; with_reducible rfl); rotate_left; (· simp only [Act.put, List.setIfInBounds_toArray, List.set_cons_zero, List.set_cons_succ, i64_w, i32_w]; rfl)))
                refine Calm.g_nil ?_
                refine Calm.c_call rfl rfl Try.func15 (by kernel_rfl) rfl #[.pointer (some ⟨ga, 0, none⟩), .int .i64 y] (by rfl) rfl (by (try simp only [List.map_toArray, List.map_cons, List.map_nil]); rfl) ?_
                (with_reducible refine (HAS.out).mono ?_)
                rintro e_ w3 ⟨rfl, hb⟩; have H3 := Aside0.mk (HDD.out.below hb); have HM3 := Aside0.mk (Kd.R_below HMD.out hb); have y3 := (cell_at HM3.out HI2.out).cell; rw [HY.out] at y3; clear hb
                refine ⟨_, rfl, ?_, ?_⟩
                · repeat (first | exact Calm.okC_nil | (refine Calm.okC_cons (Or.inl (by decide +kernel)) ?_) | (refine Calm.okC_cons (Or.inr (by exact y3)) ?_))
                refine Calm.put_to (a' := ?_) ?_ ?_
                rotate_left
                · simp only [Act.put, List.setIfInBounds_toArray, List.set_cons_zero, List.set_cons_succ, i64_w, i32_w]; rfl
                refine Calm.h_nil ?_
                refine Calm.ph_next ?_ ?_
                · repeat (first | exact Calm.okI_nil | (refine Calm.okI_cons (Or.inl (by decide)) ?_) | (refine Calm.okI_cons (Or.inr (by exact y3)) ?_))
                repeat (first
                  | (refine Calm.g_value (v := ?_) (a' := ?_) rfl rfl (by rfl) ?_ ?_ ?_; rotate_left; (· rintro w' hS'; (try simp only [Calm.SC_cons, Calm.SC_nil, Nat.reduceEqDiff, forall_const, false_implies, and_true, true_and] at hS'); (try obtain ⟨hS1, hS2⟩ := hS'); go_simp; with_reducible rfl); rotate_left; (· simp only [Act.put, List.setIfInBounds_toArray, List.set_cons_zero, List.set_cons_succ, i64_w, i32_w]; rfl))
                  | (refine Calm.g_off (a' := ?_) rfl rfl (by rfl) ?_ ?_; rotate_left; (· simp only [Act.put, List.setIfInBounds_toArray, List.set_cons_zero, List.set_cons_succ, i64_w, i32_w]; rfl)))
                refine Calm.g_nil ?_
                refine Calm.h_nil ?_
                refine Calm.ph_end ?_
                simp only [Exit.inBlock, Exit.then]
                go_wp2_with (fail)
                go_roundw
                case rel => exact ⟨i + 1, by first | rfl | simp, ⟨by have := HI2.out; omega⟩, H3, HM3⟩
                case measure => clear i1 i2; have := HI2.out; simp [intOf]; omega
            · have hi : i = ms.length := by have := HI.out; omega
              clear d1 HI
              subst hi
              obtain ⟨ks, hks⟩ := same_self lb (by have := HHA'.out.len; have := HML.out; omega)
              have HKS := Aside0.mk hks
              clear hks
              go_wp2_with (first | (go_at_call 14; (with_reducible refine (ranges_c ga w.heap.size _ _ w.heap.size wr HD.out.a HL5.out HD.out.bel.size).mono ?_); rintro e_ w7 ⟨v7, rfl, hr, hb⟩; obtain ⟨A7, c7, rfl⟩ := Kd.R_slice hr; have HR7 := Aside0.mk (Kd.R_reads' hr); have H7 := Aside0.mk (HD.out.below hb); have HZ7 := Aside0.mk hb; clear hr hb) | (go_at_call 14; (with_reducible refine (ranges_c gb w.heap.size _ _ w.heap.size w7 H7.out.b HL5.out H7.out.bel.size).mono ?_); rintro e_ w9 ⟨v9, rfl, hr, hb⟩; obtain ⟨A9, c9, rfl⟩ := Kd.R_slice hr; have HR9 := Aside0.mk (Kd.R_reads' hr); have H9 := Aside0.mk (H7.out.below hb); have HZ9 := Aside0.mk hb; clear hr hb) | (go_at_call 10; (with_reducible refine (vizardref08_Same.calls ks A7 c7 lb A9 c9 lb true w9 (Kd.C_below HR7.out.2.2 HZ9.out) HR7.out.2.1 HR9.out.2.2 HR9.out.2.1 HKS.out).mono ?_); rintro e_ w10 ⟨rfl, hd⟩; have HBB := Aside0.mk (below_drawn0 H9.out.bel hd); clear hd))
              go_ret
              exact ⟨rfl, HBB.out⟩
end Go.Proofs.Ytanebifiafghnaa.Walk
