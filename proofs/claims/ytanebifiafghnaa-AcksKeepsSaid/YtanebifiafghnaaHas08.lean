/- Layer 8: acks.Set's Has and Ranges. gen/mk_has08.py writes this text. -/
import Derived.Test.YtanebifiafghnaaSet08
namespace Go.Proofs.Ytanebifiafghnaa.Ack
open Go.RowKit Go.Deep Go.Proofs.YtanebifiafghnaaW.PrintWords Go.Proofs.YtanebifiafghnaaW.PrintLast Go.Proofs.YtanebifiafghnaaW.PrintMore Go.Proofs.Ytanebifiafghnaa.PAcksRight Go.Proofs.Ytanebifiafghnaa
set_option linter.unusedVariables false
set_option linter.unusedSimpArgs false
def inR (n : Int) (y : S35) : Bool := decide (n ≥ y.f0) && decide (n ≤ y.f1)
theorem in_c (lo hi n : Int) (gp : Nat) (W : World) (h0 : W.heap[gp]? = some (.cells #[.int .i64 n] 2 (0, 0))) :
    Calls Try.prog 28 #[.agg #[.int .i64 lo, .int .i64 hi], .pointer (some ⟨gp, 0, none⟩)] W fun e w' => e = .returned (.bool (inR n ⟨lo, hi⟩)) ∧ Below W.heap.size W w' := by
  have HL := Aside0.mk (blk_lt h0)
  have c0 := (blk_cell h0 0).trans (rfl : _ = some (Value.int .i64 n))
  have H0 := Aside0.mk h0
  clear h0
  unfold inR
  dsimp only
  by_cases h1 : n ≥ lo
  · have E1 : decide (n ≥ lo) = true := decide_eq_true h1
    have E1' : decide (lo ≤ n) = true := decide_eq_true h1
    obtain ⟨b, hb⟩ : ∃ b, decide (n ≤ hi) = b := ⟨_, rfl⟩
    rw [E1, hb]
    clear h1
    cases b <;>
    · go_enter Try.func28, Try.ntmps28
      go_wp2_with ((with_reducible refine gate_dst (N := 2) rfl ?_); refine box_event ?hg (N := 2) ?hd (cs := [.int .i64 lo, .int .i64 hi].toArray) (t := 35) ?hr ?_; (case hd => rfl); (case hg => rfl); (case hr => first | (go_simp; done) | (go_simp; rfl)); intro gb hgb w1 hbox hb; have hc0 := (show _ = some (Value.int .i64 lo) from (blk_cell hbox 0).trans rfl); have hc1 := (show _ = some (Value.int .i64 hi) from (blk_cell hbox 1).trans rfl); have hp0 : w1.cell? ⟨gp, 0, none⟩ = some (.int .i64 n) := (hb.cell HL.out).trans c0; have HB1 := Aside0.mk hb; clear hgb hbox hb)
      go_ret
      exact ⟨rfl, HB1.out⟩
  · have E1 : decide (n ≥ lo) = false := decide_eq_false h1
    have E1' : decide (lo ≤ n) = false := decide_eq_false h1
    rw [E1]
    clear h1
    go_enter Try.func28, Try.ntmps28
    go_wp2_with ((with_reducible refine gate_dst (N := 2) rfl ?_); refine box_event ?hg (N := 2) ?hd (cs := [.int .i64 lo, .int .i64 hi].toArray) (t := 35) ?hr ?_; (case hd => rfl); (case hg => rfl); (case hr => first | (go_simp; done) | (go_simp; rfl)); intro gb hgb w1 hbox hb; have hc0 := (show _ = some (Value.int .i64 lo) from (blk_cell hbox 0).trans rfl); have hc1 := (show _ = some (Value.int .i64 hi) from (blk_cell hbox 1).trans rfl); have hp0 : w1.cell? ⟨gp, 0, none⟩ = some (.int .i64 n) := (hb.cell HL.out).trans c0; have HB1 := Aside0.mk hb; clear hgb hbox hb)
    go_ret
    exact ⟨rfl, HB1.out⟩
def anyR (n : Int) (xs : List S35) : Bool := xs.any (inR n)
theorem any_step (n : Int) (xs : List S35) (i : Nat) (h : i < xs.length) : (xs.take (i + 1)).any (inR n) = ((xs.take i).any (inR n) || inR n (xs.getD i z35)) := by
  rw [List.take_add_one, List.getElem?_eq_getElem h, List.any_append, List.getD_eq_getElem?_getD, List.getElem?_eq_getElem h]
  simp
theorem any_up (n : Int) (xs : List S35) (i : Nat) (h : (xs.take i).any (inR n) = true) : xs.any (inR n) = true := by
  rw [List.any_eq_true] at h ⊢
  obtain ⟨x, hx, hq⟩ := h
  exact ⟨x, List.mem_of_mem_take hx, hq⟩
theorem crow35 {w : World} {A : Option Addr} {xs : List S35} (h : Kd.C k35 w A xs.length xs) (i : Int) (h0 : 0 ≤ i) (h1 : i < xs.length) : ∃ ad, A = some ad ∧ ∀ W, Below w.heap.size w W → W.cell? (ad.add (i.toNat * 2)) = some (.int .i64 (xs.getD i.toNat z35).f0) ∧ W.cell? ⟨(ad.add (i.toNat * 2)).block, (ad.add (i.toNat * 2)).off + 1, none⟩ = some (.int .i64 (xs.getD i.toNat z35).f1) := by
  obtain ⟨ad, e, _⟩ := at_T35 h i h0 h1
  refine ⟨ad, e, fun W hb => ?_⟩
  obtain ⟨ad2, e2, hc⟩ := at_T35 (Kd.C_below h hb) i h0 h1
  obtain rfl : ad = ad2 := Option.some.inj (e.symm.trans e2)
  exact hc
set_option maxHeartbeats 8000000 in
set_option maxRecDepth 100000 in
theorem idxR_c (n : Int) (gp c : Nat) (A : Option Addr) (xs : List S35) (W : World) (h0 : W.heap[gp]? = some (.cells #[.int .i64 n] 2 (0, 0))) (hC : Kd.C k35 W A xs.length xs) :
    Calls Try.prog 35 #[.slice A xs.length c, .func (.func 28) #[] #[.pointer (some ⟨gp, 0, none⟩)]] W fun e w' => ∃ i : Int, e = .returned (.int .i64 i) ∧ decide (i ≥ 0) = anyR n xs ∧ Below W.heap.size W w' := by
  have HB := Aside0.mk (Below.refl W.heap.size W)
  have H0 := Aside0.mk h0
  have HC := Aside0.mk hC
  have HM := Aside0.mk (Kd.C_max hC)
  clear h0 hC
  unfold anyR
  go_enter Try.func35, Try.ntmps35
  go_wp2_with (fail)
  go_loopw [8] (fun v8 wr => ∃ i : Int, v8 = .int .i64 i ∧ Aside0 (0 ≤ i ∧ i ≤ xs.length ∧ (xs.take i.toNat).any (inR n) = false) ∧ Aside0 (Below W.heap.size W wr)) (fun v8 _ => ((xs.length : Int) - intOf v8).toNat)
  case atStart => exact ⟨0, rfl, ⟨by omega, by omega, rfl⟩, HB⟩
  case round =>
    clear HB
    obtain ⟨i, rfl, hi, HB⟩ := hrel
    have hi0 := hi.out.1
    by_cases c1 : i < (xs.length : Int)
    · have C1 : decide (i < (xs.length : Int)) = true := decide_eq_true c1
      obtain ⟨ad, hA, rows⟩ := crow35 HC.out i hi0 c1
      subst hA
      obtain ⟨e0, e1⟩ := rows wr HB.out
      have p0_ := eq_true hi0
      have p1_ := eq_true c1
      have hmx := HM.out
      have hw1 : wrap64 (i + 1) = i + 1 := by unfold wrap64; omega
      have hw2 : IntKind.i64.wrap (i + 1) = i + 1 := (i64_w _).trans hw1
      have HI := Aside0.mk (And.intro hi0 c1)
      have HLO := Aside0.mk hi.out.2.2
      have HST := Aside0.mk (any_step n xs i.toNat (by omega))
      generalize xs.getD i.toNat z35 = x at e0 e1 HST
      obtain ⟨lo, hi_⟩ := x
      dsimp only at e0 e1
      clear c1 hi0 hi hmx rows
      have HP := Aside0.mk (blk_below H0.out HB.out)
      cases hq : inR n ⟨lo, hi_⟩ with
      | true =>
        have hcall := in_c lo hi_ n gp wr HP.out
        rw [hq] at hcall
        have HX := Aside0.mk hcall
        have hres : xs.any (inR n) = true := any_up n xs (i.toNat + 1) (by rw [HST.out, hq]; simp)
        have HRS := Aside0.mk hres
        clear hq hres hcall
        go_wp2_with (go_at_call 28; (with_reducible refine (HX.out).mono ?_); rintro e w2 ⟨rfl, hb⟩; have HB2 := Aside0.mk (below_step HB.out hb); clear hb)
        go_ret
        exact ⟨i, rfl, by rw [HRS.out]; exact decide_eq_true HI.out.1, HB2.out⟩
      | false =>
        have hcall := in_c lo hi_ n gp wr HP.out
        rw [hq] at hcall
        have HX := Aside0.mk hcall
        have HRES := Aside0.mk (show (xs.take (i + 1).toNat).any (inR n) = false by rw [show (i + 1).toNat = i.toNat + 1 by have := HI.out; omega, HST.out, hq, HLO.out]; rfl)
        clear hq hcall
        go_wp2_with (go_at_call 28; (with_reducible refine (HX.out).mono ?_); rintro e w2 ⟨rfl, hb⟩; have HB2 := Aside0.mk (below_step HB.out hb); clear hb)
        go_roundw
        case rel => exact ⟨i + 1, rfl, ⟨by have := HI.out; omega, by have := HI.out; omega, HRES.out⟩, HB2⟩
        case measure => have := HI.out; simp [intOf]; omega
    · have C1 : decide (i < (xs.length : Int)) = false := decide_eq_false c1
      have hend : xs.any (inR n) = false := by
        have h := hi.out
        rw [← h.2.2, show i.toNat = xs.length by omega, List.take_length]
      have HEN := Aside0.mk hend
      clear c1 hi0 hi hend
      go_wp2_with (fail)
      go_ret
      exact ⟨-1, rfl, by rw [HEN.out]; rfl, HB.out⟩
set_option maxHeartbeats 8000000 in
set_option maxRecDepth 100000 in
theorem conR_c (n : Int) (gp c : Nat) (A : Option Addr) (xs : List S35) (W : World) (h0 : W.heap[gp]? = some (.cells #[.int .i64 n] 2 (0, 0))) (hC : Kd.C k35 W A xs.length xs) :
    Calls Try.prog 27 #[.slice A xs.length c, .func (.func 28) #[] #[.pointer (some ⟨gp, 0, none⟩)]] W fun e w' => e = .returned (.bool (anyR n xs)) ∧ Below W.heap.size W w' := by
  have HI := Aside0.mk (idxR_c n gp c A xs W h0 hC)
  clear h0 hC
  go_enter Try.func27, Try.ntmps27
  go_wp2_with (go_at_call 35; (with_reducible refine (HI.out).mono ?_); rintro e w1 ⟨i, rfl, hd, hb⟩; have HD := Aside0.mk hd; have HB := Aside0.mk hb; clear hd hb)
  go_ret
  exact ⟨by rw [← HD.out]; first | rfl | simp, HB.out⟩
set_option maxHeartbeats 8000000 in
set_option maxRecDepth 100000 in
theorem has_c (g : Nat) (n : Int) (v : Value) (l : List S35) (B : Nat) (W : World) (h : SG B W g l v) : Calls Try.prog 15 #[.pointer (some ⟨g, 0, none⟩), .int .i64 n] W fun e w' => e = .returned (.bool (anyR n l)) ∧ Below W.heap.size W w' := by
  obtain ⟨A, c, rfl⟩ := Kd.R_slice h.row
  have HS := Aside0.mk h
  clear h
  go_enter Try.func15, Try.ntmps15
  go_wp2_with (first | ((with_reducible refine gate_dst (N := 3) rfl ?_); refine box_event ?hg (N := 3) ?hd (cs := [.int .i64 n].toArray) (t := 2) ?hr ?_; (case hd => rfl); (case hg => rfl); (case hr => first | (go_simp; done) | (go_simp; rfl)); intro bN hbN w2 hx hb; have HX := Aside0.mk hx; have HB2 := Aside0.mk hb; have HS2 := Aside0.mk (HS.out.below hb); have cG := (show _ = some (Value.slice A l.length c) from (blk_cell HS2.out.blk 0).trans rfl); clear hbN hx hb) | (go_at_call 27; (with_reducible refine (conR_c n bN c A l w2 HX.out (Kd.R_reads' HS2.out.row).2.2).mono ?_); rintro e_ w3 ⟨rfl, hb⟩; have HB3 := Aside0.mk (below_step HB2.out hb); clear hb))
  go_ret
  exact ⟨rfl, HB3.out⟩
theorem R_empty35 (w : World) {base : Nat} (hb : base ≤ w.heap.size) : Kd.R k35 35 (w.alloc (.cells #[] 35)) base (fun _ => True) (.slice (some ⟨w.heap.size, 0, none⟩) 0 0) [] :=
  ⟨fun _ _ => trivial, [], World.ownsRow_lit w #[] 0 hb (by decide) rfl, rfl, fun j p hj => by simp at hj⟩
set_option maxHeartbeats 8000000 in
set_option maxRecDepth 100000 in
theorem clone_c (W : World) (base : Nat) (A : Option Addr) (c : Nat) (l : List S35) (hC : Kd.C k35 W A l.length l) (hl : l.length ≤ 100000) (hb : base ≤ W.heap.size) (hnil : A = none → l = []) :
    Calls Try.prog 26 #[.slice A l.length c] W fun e w' => ∃ v', e = .returned v' ∧ Kd.R k35 35 w' base (fun _ => True) v' l ∧ Below W.heap.size W w' := by
  cases A with
  | none =>
    obtain rfl := hnil rfl
    clear hnil
    have he : ∀ w : World, (binOp .eql 22 (.slice none 0 c) (.slice none 0 0)).run Try.prog w = .ok (.bool true) w := fun _ => rfl
    go_enter Try.func26, Try.ntmps26
    go_wp2_with (fail)
    go_ret
    exact ⟨_, rfl, Kd.R_nil _ _ _ _ _, Below.refl _ _⟩
  | some ad =>
    have HC := Aside0.mk hC
    have HL := Aside0.mk hl
    have HB := Aside0.mk hb
    clear hC hl hb hnil
    have he : ∀ w : World, (binOp .eql 22 (.slice (some ad) l.length c) (.slice none 0 0)).run Try.prog w = .ok (.bool false) w := fun _ => rfl
    go_enter Try.func26, Try.ntmps26
    go_wp2_with ((with_reducible refine gate_builtin (b := .append) (xs := #[.tmp 5, .tmp 6]) rfl ?_); at_builtin; refine Kd.R_append_rows k35 (w0 := W.alloc (.cells #[] 35)) base rfl (.tmp 5) (.tmp 6) 22 35 (.agg #[.int .i64 0, .int .i64 0]) 16 rfl Try.underlying22 info35_ rfl (by decide) (by omega) (.slice (some ⟨W.heap.size, 0, none⟩) 0 0) [] l _ _ _ (fun _ => True) (fun _ => False) rfl rfl (R_empty35 W HB.out) (Kd.C_below HC.out (below_alloc (Below.refl _ _) _)) (fun p cs hK => by rw [k35_open hK]; exact k35_mkM _ _ _ _) (fun _ h => h.elim) (fun _ _ => trivial) (Below.refl _ _) ?aS ?aL ?_; (case aS => exact Nat.le_trans HB.out (below_alloc (Below.refl W.heap.size W) (.cells #[] 35)).size); (case aL => have := HL.out; simp only [List.length_nil]; omega); intro v5 w5 hR5 hB5 hg5 hat5; rw [List.nil_append] at hR5; have HB5 := Aside0.mk ((below_alloc (Below.refl W.heap.size W) (.cells #[] 35)).grown hg5 (below_alloc (Below.refl W.heap.size W) (.cells #[] 35)).size (fun j hj => by cases hj; exact Nat.le_refl _)); have HR5 := Aside0.mk hR5; clear hR5 hB5 hg5 hat5)
    go_ret
    exact ⟨_, rfl, HR5.out, HB5.out⟩
theorem R_none {W : World} {base n c : Nat} {ok : Nat → Prop} {l : List S35} (h : Kd.R k35 35 W base ok (.slice none n c) l) : l = [] := by
  rcases Nat.eq_zero_or_pos l.length with h0 | h0
  · exact List.eq_nil_of_length_eq_zero h0
  · obtain ⟨g, cc, he, -⟩ := Kd.R_form h h0
    cases he
set_option maxHeartbeats 8000000 in
set_option maxRecDepth 100000 in
theorem ranges_c (g base : Nat) (v : Value) (l : List S35) (B : Nat) (W : World) (h : SG B W g l v) (hl : l.length ≤ 100000) (hb : base ≤ W.heap.size) : Calls Try.prog 14 #[.pointer (some ⟨g, 0, none⟩)] W fun e w' => ∃ v', e = .returned v' ∧ Kd.R k35 35 w' base (fun _ => True) v' l ∧ Below W.heap.size W w' := by
  obtain ⟨A, c, rfl⟩ := Kd.R_slice h.row
  have cG := (show _ = some (Value.slice A l.length c) from (blk_cell h.blk 0).trans rfl)
  have HCL := Aside0.mk (clone_c W base A c l (Kd.R_reads' h.row).2.2 hl hb (fun he => by subst he; exact R_none h.row))
  clear h hl hb
  go_enter Try.func14, Try.ntmps14
  go_wp2_with (go_at_call 26; (with_reducible refine (HCL.out).mono ?_); rintro e_ w3 ⟨v3, rfl, hr, hb⟩; have HR := Aside0.mk hr; have HB := Aside0.mk hb; clear hr hb)
  go_ret
  exact ⟨_, rfl, HR.out, HB.out⟩
end Go.Proofs.Ytanebifiafghnaa.Ack
