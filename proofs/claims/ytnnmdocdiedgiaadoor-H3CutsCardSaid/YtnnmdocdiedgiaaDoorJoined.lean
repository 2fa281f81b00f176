/- vizardref15.Joined: its contract. -/
import Derived.Test.YtnnmdocdiedgiaaDoorCutsPure
import Derived.Test.YtnnmdocdiedgiaaDoorCalmG
import Derived.Test.YtnnmdocdiedgiaaDoorRField
namespace Go.Proofs.YtnnmdocdiedgiaaDoor.Reader
open Go.RowKit Go.Proofs.YtnnmdocdiedgiaaDoorW.PrintWords Go.Proofs.YtnnmdocdiedgiaaDoorW.PrintLast Go.Proofs.YtnnmdocdiedgiaaDoorW.PrintMore Go.Proofs.YtnnmdocdiedgiaaDoor.PH3Writes Go.Proofs.YtnnmdocdiedgiaaDoor Go.Proofs.YtnnmdocdiedgiaaDoor.Pure Go.Proofs.YtnnmdocdiedgiaaDoor.Pairs
set_option linter.unusedVariables false
set_option linter.unusedSimpArgs false
theorem info40_ : (Tryd.prog.info? 40).map (fun i => (i.zero, i.size, i.bytes)) = some (some (.agg #[.int .i64 0, .string (⟨#[]⟩ : ByteArray)]), 2, 24) := by kernel_rfl
theorem k39_openM {w : World} {base : Nat} {ok : Nat → Prop} {x : S39} {cs : List Value} (h : k39.M w base ok x cs) : cs = [.int .i64 x.f0, .string x.f1] := by
  obtain ⟨_, _, rfl, rfl, rfl⟩ := h
  rfl
theorem row_at {W : World} {e base n c : Nat} {A : Option Addr} {ok : Nat → Prop} {xs : List S39} (h : Kd.R k39 e W base ok (.slice A n c) xs) (i : Int) (h0 : 0 ≤ i) (h1 : i < xs.length) : ∃ ad, A = some ad ∧ W.cell? (ad.add (i.toNat * 2)) = some (.int .i64 (xs.getD i.toNat z39).f0) ∧ W.cell? ⟨(ad.add (i.toNat * 2)).block, (ad.add (i.toNat * 2)).off + 1, none⟩ = some (.string (xs.getD i.toNat z39).f1) := by
  obtain ⟨_, _, hC⟩ := Kd.R_reads' h
  obtain ⟨ad, c2, e2, _, hK2, hc2⟩ := Kd.C_get hC z39 i h0 h1
  have hc : ∀ j u, c2[j]? = some u → W.cell? (ad.add (i.toNat * 2 + j)) = some u := hc2
  obtain rfl := k39_open hK2
  exact ⟨ad, e2, hc 0 _ rfl, by rw [← add_field _ _ 1 (by omega)]; exact hc 1 _ rfl⟩
theorem crow_at {w : World} {A : Option Addr} {xs : List S39} (h : Kd.C k39 w A xs.length xs) (i : Int) (h0 : 0 ≤ i) (h1 : i < xs.length) : ∃ ad, A = some ad ∧ ∀ W, Below w.heap.size w W → W.cell? (ad.add (i.toNat * 2)) = some (.int .i64 (xs.getD i.toNat z39).f0) ∧ W.cell? ⟨(ad.add (i.toNat * 2)).block, (ad.add (i.toNat * 2)).off + 1, none⟩ = some (.string (xs.getD i.toNat z39).f1) := by
  obtain ⟨ad, c, e, _, hK, hc0⟩ := Kd.C_get h z39 i h0 h1
  refine ⟨ad, e, fun W hb => ?_⟩
  obtain ⟨ad2, c2, e2, _, hK2, hc2⟩ := Kd.C_get (Kd.C_below h hb) z39 i h0 h1
  obtain rfl : ad = ad2 := Option.some.inj (e.symm.trans e2)
  have hc : ∀ j u, c2[j]? = some u → W.cell? (ad.add (i.toNat * 2 + j)) = some u := hc2
  obtain rfl := k39_open hK2
  exact ⟨hc 0 _ rfl, by rw [← add_field _ _ 1 (by omega)]; exact hc 1 _ rfl⟩
theorem catEv_mem {l : List S39} {x : S39} (h : x ∈ l) : x.f1.size ≤ (catEv l).size := by
  induction l with
  | nil => cases h
  | cons y l ih =>
    show _ ≤ (y.f1 ++ catEv l).size
    rw [ByteArray.size_append]
    rcases List.mem_cons.1 h with rfl | h
    · omega
    · have := ih h; omega
theorem add_gb (g n : Nat) : (⟨g, 0, none⟩ : Addr).add n = ⟨g, n, none⟩ := by
  simp [Addr.add]
  exact fun h => h.symm
theorem catEv_take (l : List S39) (n : Nat) : (catEv (l.take n)).size ≤ (catEv l).size := by
  have h := catEv_app (l.take n) (l.drop n)
  rw [List.take_append_drop] at h
  rw [h, ByteArray.size_append]
  omega
theorem catEv_jn (o : List S39) (x : S39) : catEv (jn o x) = catEv o ++ x.f1 := by
  unfold jn
  split
  · rename_i h
    rcases snoc_cases o with rfl | ⟨p, y, rfl⟩
    · simp [lastD] at h
    · rw [addLast_snoc, catEv_app, catEv_app]
      show catEv p ++ ((y.f1 ++ x.f1) ++ ⟨#[]⟩) = (catEv p ++ (y.f1 ++ ⟨#[]⟩)) ++ x.f1
      rw [app_nil, app_nil, ByteArray.append_assoc]
  · rw [catEv_app]
    show catEv o ++ (x.f1 ++ ⟨#[]⟩) = _
    rw [app_nil]
theorem catEv_Jn (l : List S39) : ∀ o, catEv (Jn o l) = catEv o ++ catEv l := by
  induction l with
  | nil => intro o; exact (app_nil _).symm
  | cons x l ih =>
    intro o
    show catEv (Jn (jn o x) l) = catEv o ++ (x.f1 ++ catEv l)
    rw [ih, catEv_jn, ByteArray.append_assoc]
theorem Jn_snoc (o l : List S39) (x : S39) : Jn o (l ++ [x]) = jn (Jn o l) x := by
  unfold Jn
  rw [List.foldl_append]
  rfl
theorem take_snoc (l : List S39) (i : Nat) (h : i < l.length) : l.take (i + 1) = l.take i ++ [l.getD i z39] := by
  rw [List.take_add_one, List.getD_eq_getElem?_getD, List.getElem?_eq_getElem h]
  rfl
theorem jn_new {o : List S39} {x : S39} (h : x.f0 ≠ 0 ∨ lastD o = false) : jn o x = o ++ [x] := by
  unfold jn
  rw [if_neg]
  rcases h with h | h
  · simp [h]
  · simp [h]
theorem jn_old {p : List S39} {x y : S39} (hx : x.f0 = 0) (hy : y.f0 = 0) : jn (p ++ [y]) x = p ++ [⟨y.f0, y.f1 ++ x.f1⟩] := by
  unfold jn
  rw [lastD_snoc, addLast_snoc, if_pos (by simp [hx, hy])]
set_option maxHeartbeats 16000000 in
set_option maxRecDepth 100000 in
theorem joined_c (A : Option Addr) (c : Nat) (l : List S39) (W : World) (hC : Kd.C k39 W A l.length l) (hl : l.length ≤ 100000) (hz : (catEv l).size ≤ 100000) :
    Calls Tryd.prog 16 #[.slice A l.length c] W fun e w' => ∃ v, e = .returned v ∧ Kd.R k39 40 w' W.heap.size (fun k => W.heap.size ≤ k) v (Jn [] l) ∧ Below W.heap.size W w' := by
  have HC := Aside0.mk hC
  have HL := Aside0.mk hl
  have HZ := Aside0.mk hz
  clear hC hl hz
  go_enter Tryd.func16, Tryd.ntmps16
  go_wp2_with (fail)
  go_loopw [3, 4] (fun v3 v4 wr => ∃ (Ao : Option Addr) (co : Nat) (o : List S39) (i : Int), v3 = .slice Ao o.length co ∧ v4 = .int .i64 i ∧ Aside0 (0 ≤ i ∧ i ≤ l.length ∧ o = Jn [] (l.take i.toNat)) ∧ Aside0 (Kd.R k39 40 wr W.heap.size (fun k => W.heap.size ≤ k) (.slice Ao o.length co) o) ∧ Aside0 (Below W.heap.size W wr)) (fun _ v4 _ => ((l.length : Int) - intOf v4).toNat)
  case atStart => exact ⟨none, 0, [], 0, rfl, rfl, ⟨by omega, by omega, rfl⟩, ⟨Kd.R_nil _ _ _ _ _⟩, ⟨Below.refl _ _⟩⟩
  case round =>
    obtain ⟨Ao, co, o, i, rfl, rfl, HI, HR, HW⟩ := hrel
    have hi0 := HI.out.1
    by_cases c1 : i < (l.length : Int)
    rotate_left
    · have D1 : decide (i < (l.length : Int)) = false := decide_eq_false c1
      have ho : o = Jn [] l := by rw [HI.out.2.2, List.take_of_length_le (by have := HI.out; omega)]
      clear c1 hi0
      go_wp2_with (fail)
      go_ret
      exact ⟨_, rfl, by rw [← ho]; exact HR.out, HW.out⟩
    have D1 : decide (i < (l.length : Int)) = true := decide_eq_true c1
    obtain ⟨ad, hA, rows⟩ := crow_at HC.out i hi0 c1
    subst hA
    have htk := take_snoc l i.toNat (by omega)
    have hmem : l.getD i.toNat z39 ∈ l := by rw [List.getD_eq_getElem?_getD, List.getElem?_eq_getElem (by omega)]; exact List.getElem_mem _
    have hxz := catEv_mem hmem
    have hst : Jn [] (l.take (i + 1).toNat) = jn o (l.getD i.toNat z39) := by rw [show (i + 1).toNat = i.toNat + 1 by omega, htk, Jn_snoc, ← HI.out.2.2]
    have hol : o.length ≤ 100000 := by have h1 := Jn_len (l.take i.toNat) []; rw [← HI.out.2.2, List.length_take] at h1; have h2 := HL.out; simp at h1; omega
    have hoz : (catEv o).size ≤ 100000 := by
      have h1 := catEv_Jn (l.take i.toNat) []
      rw [← HI.out.2.2] at h1
      have h2 := catEv_take l i.toNat
      have h3 := HZ.out
      rw [h1]
      show ((⟨#[]⟩ : ByteArray) ++ _).size ≤ _
      rw [nil_app]
      omega
    obtain ⟨x0, x1⟩ := rows wr HW.out
    generalize l.getD i.toNat z39 = x at x0 x1 hst hxz hmem rows
    obtain ⟨k, d⟩ := x
    dsimp only at x0 x1 hxz rows
    have r0 := eq_true hi0
    have r1 := eq_true c1
    have hv1 : wrap64 (i + 1) = i + 1 := by have := HL.out; unfold wrap64; omega
    have hv2 : IntKind.i64.wrap (i + 1) = i + 1 := (i64_w _).trans hv1
    have HIX := Aside0.mk (And.intro hi0 (And.intro c1 (And.intro hol (And.intro hxz hoz))))
    have HST := Aside0.mk hst
    have HROWS := Aside0.mk rows
    clear c1 hi0 htk hmem hxz hst hol hoz rows
    by_cases hk : k = 0
    rotate_left
    · have K1 : (k == 0) = false := beq_eq_false_iff_ne.mpr hk
      have HK := Aside0.mk hk
      clear hk
      have hj : jn o (⟨k, d⟩ : S39) = o ++ [⟨k, d⟩] := jn_new (.inl HK.out)
      have HJ := Aside0.mk hj
      clear hj
      go_wp2_with (first | ((with_reducible refine gate_builtin (b := .append) (xs := #[.tmp 50, .tmp 55]) rfl ?_); at_builtin; refine Kd.R_append k39 (w0 := W) W.heap.size rfl (.tmp 50) (.tmp 55) 37 40 (.agg #[.int .i64 0, .string (⟨#[]⟩ : ByteArray)]) 24 rfl Tryd.underlying37 info40_ rfl (by decide) (by omega) (.slice Ao o.length co) o ⟨k, d⟩ [.int .i64 k, .string d] (fun k => W.heap.size ≤ k) (fun _ => False) rfl rfl ?aP (fun _ hk => hk.elim) ?aF HR.out HW.out ?aS ?aL ?_; (case aP => exact k39_mkM _ _ _ _); (case aF => exact fun k hk => Nat.le_trans HW.out.size hk); (case aS => exact HW.out.size); (case aL => have := HIX.out; omega); intro v6 w6 hR6 hB6 hg6 hat; obtain ⟨A6, c6, rfl⟩ := Kd.R_slice hR6; have HR6 := Aside0.mk hR6; have HB6 := Aside0.mk hB6; clear hR6 hB6 hg6 hat))
      go_roundw
      case rel => exact ⟨A6, c6, o ++ [⟨k, d⟩], i + 1, by rw [List.length_append]; rfl, rfl, ⟨by have := HIX.out; omega, by have := HIX.out; omega, by rw [HST.out, HJ.out]⟩, ⟨by have h_ := HR6.out; exact h_⟩, HB6⟩
      case measure => have := HIX.out; simp [intOf]; omega
    subst hk
    rcases snoc_cases o with ho | ⟨p, y, ho⟩
    · have hol0 : o.length = 0 := by rw [ho]; rfl
      have K2 : decide ((o.length : Int) > 0) = false := decide_eq_false (by omega)
      have K3 : decide (0 < (o.length : Int)) = false := decide_eq_false (by omega)
      have K4 : decide (0 < o.length) = false := decide_eq_false (by omega)
      have HO := Aside0.mk (show lastD o = false by rw [ho]; rfl)
      clear ho hol0
      have hj : jn o (⟨0, d⟩ : S39) = o ++ [⟨0, d⟩] := jn_new (.inr HO.out)
      have HJ := Aside0.mk hj
      clear hj
      go_wp2_with (first | ((with_reducible refine gate_builtin (b := .append) (xs := #[.tmp 50, .tmp 55]) rfl ?_); at_builtin; refine Kd.R_append k39 (w0 := W) W.heap.size rfl (.tmp 50) (.tmp 55) 37 40 (.agg #[.int .i64 0, .string (⟨#[]⟩ : ByteArray)]) 24 rfl Tryd.underlying37 info40_ rfl (by decide) (by omega) (.slice Ao o.length co) o ⟨0, d⟩ [.int .i64 0, .string d] (fun k => W.heap.size ≤ k) (fun _ => False) rfl rfl ?aP (fun _ hk => hk.elim) ?aF HR.out HW.out ?aS ?aL ?_; (case aP => exact k39_mkM _ _ _ _); (case aF => exact fun k hk => Nat.le_trans HW.out.size hk); (case aS => exact HW.out.size); (case aL => have := HIX.out; omega); intro v6 w6 hR6 hB6 hg6 hat; obtain ⟨A6, c6, rfl⟩ := Kd.R_slice hR6; have HR6 := Aside0.mk hR6; have HB6 := Aside0.mk hB6; clear hR6 hB6 hg6 hat))
      go_roundw
      case rel => exact ⟨A6, c6, o ++ [⟨0, d⟩], i + 1, by rw [List.length_append]; rfl, rfl, ⟨by have := HIX.out; omega, by have := HIX.out; omega, by rw [HST.out, HJ.out]⟩, ⟨by have h_ := HR6.out; exact h_⟩, HB6⟩
      case measure => have := HIX.out; simp [intOf]; omega
    have hlen : o.length = p.length + 1 := by rw [ho, List.length_append]; rfl
    have K2 : decide ((o.length : Int) > 0) = true := decide_eq_true (by omega)
    have K3 : decide (0 < (o.length : Int)) = true := decide_eq_true (by omega)
    have K4 : decide (0 < o.length) = true := decide_eq_true (by omega)
    obtain ⟨m, hm⟩ : ∃ m : Int, (o.length : Int) - 1 = m := ⟨_, rfl⟩
    have hm3 : wrap64 m = m := by have := HIX.out; exact wrap_in _ (by omega) (by omega)
    have hm4 : IntKind.i64.wrap m = m := (i64_w _).trans hm3
    have hm1 : wrap64 ((o.length : Int) - 1) = m := by have := HIX.out; rw [hm]; exact wrap_in _ (by omega) (by omega)
    have hm2 : IntKind.i64.wrap ((o.length : Int) - 1) = m := (i64_w _).trans hm1
    obtain ⟨gb, cap3, hv, hgb, _⟩ := Kd.R_form HR.out (by omega)
    obtain ⟨ad2, hA2, y0, y1⟩ := row_at HR.out m (by omega) (by omega)
    have hgy : o.getD m.toNat z39 = y := by rw [ho, show m.toNat = p.length by omega, List.getD_eq_getElem?_getD, List.getElem?_append_right (Nat.le_refl _), Nat.sub_self]; rfl
    rw [hgy] at y0 y1
    subst hA2
    have had : ad2 = ⟨gb, 0, none⟩ := by injection hv with h1; exact Option.some.inj h1
    have s0 := eq_true (show 0 ≤ m by omega)
    have s1 := eq_true (show m < (o.length : Int) by omega)
    have hmp : m.toNat = p.length := by omega
    have HMP := Aside0.mk (And.intro hmp (And.intro ho (And.intro had (And.intro hgb hlen))))
    clear ho hlen hv hgb hgy had hmp
    by_cases hy : y.f0 = 0
    rotate_left
    · have Y1 : (y.f0 == 0) = false := beq_eq_false_iff_ne.mpr hy
      have HO := Aside0.mk (show lastD o = false by rw [HMP.out.2.1, lastD_snoc]; exact Y1)
      clear hy
      have hj : jn o (⟨0, d⟩ : S39) = o ++ [⟨0, d⟩] := jn_new (.inr HO.out)
      have HJ := Aside0.mk hj
      clear hj
      go_wp2_with (first | ((with_reducible refine gate_builtin (b := .append) (xs := #[.tmp 50, .tmp 55]) rfl ?_); at_builtin; refine Kd.R_append k39 (w0 := W) W.heap.size rfl (.tmp 50) (.tmp 55) 37 40 (.agg #[.int .i64 0, .string (⟨#[]⟩ : ByteArray)]) 24 rfl Tryd.underlying37 info40_ rfl (by decide) (by omega) (.slice (some ad2) o.length co) o ⟨0, d⟩ [.int .i64 0, .string d] (fun k => W.heap.size ≤ k) (fun _ => False) rfl rfl ?aP (fun _ hk => hk.elim) ?aF HR.out HW.out ?aS ?aL ?_; (case aP => exact k39_mkM _ _ _ _); (case aF => exact fun k hk => Nat.le_trans HW.out.size hk); (case aS => exact HW.out.size); (case aL => have := HIX.out; omega); intro v6 w6 hR6 hB6 hg6 hat; obtain ⟨A6, c6, rfl⟩ := Kd.R_slice hR6; have HR6 := Aside0.mk hR6; have HB6 := Aside0.mk hB6; clear hR6 hB6 hg6 hat))
      go_roundw
      case rel => exact ⟨A6, c6, o ++ [⟨0, d⟩], i + 1, by rw [List.length_append]; rfl, rfl, ⟨by have := HIX.out; omega, by have := HIX.out; omega, by rw [HST.out, HJ.out]⟩, ⟨by have h_ := HR6.out; exact h_⟩, HB6⟩
      case measure => have := HIX.out; simp [intOf]; omega
    have Y1 : (y.f0 == 0) = true := beq_iff_eq.mpr hy
    have HY := Aside0.mk hy
    clear hy
    have hsz : y.f1.size + d.size ≤ 9223372036854775807 := by
      have h1 : y ∈ o := by rw [HMP.out.2.1]; simp
      have h2 := catEv_mem h1
      have h3 := HIX.out
      have h4 := HZ.out
      omega
    have z1 := eq_true hsz
    have z2 : decide (y.f1.size + d.size ≤ 9223372036854775807) = true := decide_eq_true hsz
    have z3 : (9223372036854775807 < y.f1.size + d.size) = False := eq_false (by omega)
    clear hsz
    have hfr : wr.frozen? ⟨(ad2.add (m.toNat * 2)).block, (ad2.add (m.toNat * 2)).off + 1, none⟩ = false := by
      rw [HMP.out.2.2.1]
      obtain ⟨gb', cap', hv', _, _, cells, hcl⟩ := Kd.R_form HR.out (by have := HMP.out; omega)
      have hg' : gb = gb' := by have h1 := HMP.out.2.2.1; injection hv' with h2; have h3 := Option.some.inj h2; rw [h1] at h3; exact congrArg Addr.block h3
      subst hg'
      rw [add_gb]
      exact blk_frozen hcl _
    go_wp2_with (fail)
    refine Calm.wp_region_calmC [(8, fun w_ => w_.cell? ⟨(ad2.add (m.toNat * 2)).block, (ad2.add (m.toNat * 2)).off + 1, none⟩ = some (.string y.f1)), (13, fun w_ => w_.cell? ⟨(ad.add (i.toNat * 2)).block, (ad.add (i.toNat * 2)).off + 1, none⟩ = some (.string d))] [0, 1, 2, 3, 4, 5, 6, 7, 8, 9, 10, 11, 12, 13, 14, 15, 16] [17] (by kernel_rfl) (by kernel_rfl) (Calm.allC_cons (by exact y1) (Calm.allC_cons (by exact x1) Calm.allC_nil)) ?_
    repeat (first
      | (refine Calm.g_value (v := ?_) (a' := ?_) rfl rfl (by rfl) ?_ ?_ ?_; rotate_left; (· rintro w' hS'; (try simp only [Calm.SC_cons, Calm.SC_nil, Nat.reduceEqDiff, forall_const, false_implies, and_true, true_and] at hS'); (try obtain ⟨hS1, hS2⟩ := hS'); go_simp; with_reducible rfl); rotate_left; (· simp only [Act.put, List.setIfInBounds_toArray, List.set_cons_zero, List.set_cons_succ, i64_w, i32_w]; rfl)))
    refine Calm.g_nil ?_
    refine Calm.c_store (w1 := ?_) rfl (by rfl) rfl ?_ ?_ ?_
    rotate_left
    · go_simp; rfl
    · repeat (first | exact Calm.okC_nil | (refine Calm.okC_cons (Or.inl (by decide +kernel)) ?_) | (refine Calm.okC_cons (Or.inr (by (first | assumption | (go_simp; done)))) ?_))
    refine Calm.h_nil ?_
    simp only [Exit.inBlock, Exit.then]
    go_wp2_with (fail)
    go_roundw
    case rel =>
      have hrf := RF.R_field (by have h := HR.out; rw [HMP.out.2.2.1] at h; exact h) p.length (by have := HMP.out; omega) 1 (by decide) (.string (y.f1 ++ d)) (⟨y.f0, y.f1 ++ d⟩ : S39) (fun w1 w2 okk z cs hz => by rw [k39_openM hz]; exact k39_mkM _ _ _ _) (fun okk cs hz => by rw [k39_openM hz]; rw [show o[p.length]'(by have := HMP.out; omega) = y by simp [HMP.out.2.1]]; exact k39_mkM _ _ _ _)
      have hset : o.set p.length (⟨y.f0, y.f1 ++ d⟩ : S39) = p ++ [⟨y.f0, y.f1 ++ d⟩] := by rw [HMP.out.2.1]; simp
      have hll : (p ++ [(⟨y.f0, y.f1 ++ d⟩ : S39)]).length = o.length := by rw [HMP.out.2.2.2.2, List.length_append]; rfl
      have hjj : jn o (⟨0, d⟩ : S39) = p ++ [⟨y.f0, y.f1 ++ d⟩] := by rw [HMP.out.2.1]; exact jn_old rfl HY.out
      have hadd : (⟨(ad2.add (m.toNat * 2)).block, (ad2.add (m.toNat * 2)).off + 1, none⟩ : Addr) = ⟨gb, p.length * k39.sz + 1, none⟩ := by rw [HMP.out.2.2.1, add_gb, HMP.out.1]; rfl
      refine ⟨some ad2, co, p ++ [⟨y.f0, y.f1 ++ d⟩], i + 1, by rw [hll], rfl, ⟨by have := HIX.out; omega, by have := HIX.out; omega, by rw [HST.out, hjj]⟩, ⟨?_⟩, ⟨?_⟩⟩
      · rw [hadd, hll, HMP.out.2.2.1, ← hset]
        exact Kd.R_drew hrf.1
      · rw [hadd]
        exact below_drew1 (below_set HW.out HMP.out.2.2.2.1)
    case measure => have := HIX.out; simp [intOf]; omega
end Go.Proofs.YtnnmdocdiedgiaaDoor.Reader
