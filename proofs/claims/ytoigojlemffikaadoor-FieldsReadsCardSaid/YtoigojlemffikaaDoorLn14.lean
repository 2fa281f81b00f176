/- Layer 14: fields.line, by its contract. gen/mk_ln14.py writes this text. -/
import Derived.Test.YtoigojlemffikaaDoorRd14
import Derived.Deep.RegionWith
namespace Go.Proofs.YtoigojlemffikaaDoor.Fld
open Go.RowKit Go.Deep Go.Proofs.YtoigojlemffikaaDoor.PFields Go.Proofs.YtoigojlemffikaaDoorW.PrintWords Go.Proofs.YtoigojlemffikaaDoorW.PrintLast Go.Proofs.YtoigojlemffikaaDoorW.PrintMore Go.Proofs.YtoigojlemffikaaDoor.Hand Go.Proofs.YtoigojlemffikaaDoor.Pure
set_option linter.unusedVariables false
set_option linter.unusedSimpArgs false
def tabArr : Array Value := (tbl.flatMap fun x => [.string x.f0, .string x.f1]).toArray
theorem tab_size : (Tryd.prog.info? 47).map (·.size) = some 40 := by kernel_rfl
theorem tab_cell {w : World} (h : TB w) (j : Nat) (v : Value) (hv : tabArr.toList[j]? = some v) : w.cell? ((⟨0, 0, none⟩ : Addr).add j) = some v := by
  rw [add0]
  have hl : j < 40 := by
    have := (List.getElem?_eq_some_iff.1 hv).1
    exact this
  obtain ⟨a, b⟩ := tb_at h (j / 2) (by omega)
  have hj : j = j / 2 * 2 ∨ j = j / 2 * 2 + 1 := by omega
  have hall : ∀ i, i < 20 → tabArr.toList[i * 2]? = some (.string (tbl.getD i z27).f0) ∧ tabArr.toList[i * 2 + 1]? = some (.string (tbl.getD i z27).f1) := by
    intro i hi
    have : i = 0 ∨ i = 1 ∨ i = 2 ∨ i = 3 ∨ i = 4 ∨ i = 5 ∨ i = 6 ∨ i = 7 ∨ i = 8 ∨ i = 9 ∨ i = 10 ∨ i = 11 ∨ i = 12 ∨ i = 13 ∨ i = 14 ∨ i = 15 ∨ i = 16 ∨ i = 17 ∨ i = 18 ∨ i = 19 := by omega
    rcases this with rfl | rfl | rfl | rfl | rfl | rfl | rfl | rfl | rfl | rfl | rfl | rfl | rfl | rfl | rfl | rfl | rfl | rfl | rfl | rfl <;> exact ⟨rfl, rfl⟩
  obtain ⟨c, d⟩ := hall (j / 2) (by omega)
  rcases hj with hj | hj
  · rw [← hj] at a c
    rw [hv] at c
    injection c with c
    rw [a, c]
  · rw [← hj] at b d
    rw [hv] at d
    injection d with d
    rw [b, d]
theorem load_tab {w : World} (h : TB w) : (loadVar 47 ⟨0, 0, none⟩).run Tryd.prog w = .ok (.agg tabArr) w := by
  have hl : (loadCells ⟨0, 0, none⟩ tabArr.toList.length).run Tryd.prog w = .ok tabArr.toList.toArray w := run_loadCells_list (P := Tryd.prog) w ⟨0, 0, none⟩ tabArr.toList (fun j v hv => tab_cell h j v hv)
  obtain ⟨i, hi, hs⟩ := Option.map_eq_some_iff.1 tab_size
  have hagg : (isAgg 47).run Tryd.prog w = .ok true w := Tryd.isAgg47 w
  have h40 : tabArr.toList.length = 40 := rfl
  rw [h40, Array.toArray_toList] at hl
  simp [loadVar, Sem.run_bind, hagg, sizeOf, typeInfo, hi, hs, hl]
section
variable {ops : Array Oper} {rest : List Oper} {o : Oper} {a : Act} {w : World} {Q : Exit → Act → World → Prop}
theorem load_arm (hgd : o.guard = none) (x : Operand) (ho : o.op = .load 47 x) (hx : a.eval x = .pointer (some ⟨0, 0, none⟩)) (hT : TB w) (h : wpList Tryd.prog ops Q rest (a.put o.dst (.agg tabArr)) w) : wpList Tryd.prog ops Q (o :: rest) a w := by
  refine wpList_plain hgd fun K hK => ?_
  unfold Oper.wp execOp
  simp only [ho, hx, Instr.loadAt, Instr.sureAddr, Sem.run_bind, Sem.run_pure, Result.andThen_ok, load_tab hT]
  exact hK _ _ h
end
theorem idx_tab (i : Nat) (hi : i < 20) : ∀ w, (Instr.index 47 (.agg tabArr) (.int .i64 (i : Int))).run Tryd.prog w = .ok (.agg #[.string (tbl.getD i z27).f0, .string (tbl.getD i z27).f1]) w := by
  have : i = 0 ∨ i = 1 ∨ i = 2 ∨ i = 3 ∨ i = 4 ∨ i = 5 ∨ i = 6 ∨ i = 7 ∨ i = 8 ∨ i = 9 ∨ i = 10 ∨ i = 11 ∨ i = 12 ∨ i = 13 ∨ i = 14 ∨ i = 15 ∨ i = 16 ∨ i = 17 ∨ i = 18 ∨ i = 19 := by omega
  rcases this with rfl | rfl | rfl | rfl | rfl | rfl | rfl | rfl | rfl | rfl | rfl | rfl | rfl | rfl | rfl | rfl | rfl | rfl | rfl | rfl <;> exact fun w => by kernel_rfl
def eqB (a b : ByteArray) : Bool := a.toList == b.toList
def sameB (x f : S27) : Bool := eqB x.f0 f.f0 && eqB x.f1 f.f1
def findTo (p : S27 → Bool) (n : Nat) : Option Nat := (List.range n).find? (fun i => p (tbl.getD i z27))
theorem find_hit {p : S27 → Bool} {i n : Nat} (hb : ∀ k, k < i → p (tbl.getD k z27) = false) (h : p (tbl.getD i z27) = true) (hi : i < n) : findTo p n = some i := by
  unfold findTo
  induction n with
  | zero => omega
  | succ n ih =>
    rw [List.range_succ, List.find?_append]
    rcases Nat.lt_or_ge i n with c | c
    · rw [ih c]; rfl
    · obtain rfl : i = n := by omega
      rw [show (List.range i).find? (fun k => p (tbl.getD k z27)) = none from List.find?_eq_none.2 (fun k hk => by rw [hb k (List.mem_range.1 hk)]; simp)]
      rw [List.find?_cons_of_pos (p := fun k => p (tbl.getD k z27)) h]
      rfl
theorem find_miss {p : S27 → Bool} {n : Nat} (hb : ∀ k, k < n → p (tbl.getD k z27) = false) : findTo p n = none := List.find?_eq_none.2 (fun k hk => by rw [hb k (List.mem_range.1 hk)]; simp)
def lineV (f : S27) : ByteArray := match findTo (fun x => sameB x f) 20 with
  | some i => strOfNums [128 + (i : Int)]
  | none => match findTo (fun x => eqB x.f0 f.f0) 20 with
    | some j => strOfNums [64 + (j : Int)] ++ vtext f.f1
    | none => (⟨#[0]⟩ : ByteArray) ++ vtext f.f0 ++ vtext f.f1
theorem vtext_small (f : ByteArray) (h : f.size ≤ 256) : (vtext f).size ≤ 264 := by
  have hf := form_ok (f.size : Int) (by omega) (by omega)
  rw [vtext, ByteArray.size_append, vput_size]
  omega
theorem one_size1 (x : Int) : (strOfNums [x]).size = 1 := rfl
theorem cat_fits {a b : ByteArray} (h : a.size + b.size ≤ 1000000) : (a.size + b.size ≤ 9223372036854775807) = True := eq_true (by omega)
theorem conv_blk {W : World} {b : Nat} {x : Int} (h : W.heap[b]? = some (.cells #[.int .u8 x] 5 (0, 0))) : (convert 40 9 (.slice (some ⟨b, 0, none⟩) 1 1)).run Tryd.prog W = .ok (.string (strOfNums [x])) W :=
  Conv.string_blk (P := Tryd.prog) [x] h rfl (by decide) Tryd.underlying40 Tryd.underlying5 Tryd.underlying9
theorem conv_one (W : World) {b : Nat} (x : Int) (hb : b = W.heap.size) : (convert 40 9 (.slice (some ⟨b, 0, none⟩) 1 1)).run Tryd.prog (W.alloc (.cells #[.int .u8 x] 5)) = .ok (.string (strOfNums [x])) (W.alloc (.cells #[.int .u8 x] 5)) :=
  conv_blk (by subst hb; exact blk_new W _)
theorem conv_after {W w9 : World} {x : Int} (hb : Below (W.alloc (.cells #[.int .u8 x] 5)).heap.size (W.alloc (.cells #[.int .u8 x] 5)) w9) : (convert 40 9 (.slice (some ⟨W.heap.size, 0, none⟩) 1 1)).run Tryd.prog w9 = .ok (.string (strOfNums [x])) w9 :=
  conv_blk (blk_below (blk_new W _) hb)
theorem step_lt {i : Nat} {P : Nat → Prop} (h : ∀ k, k < i → P k) (h0 : P i) : ∀ k, k < i + 1 → P k := fun k hk => by
  rcases Nat.lt_or_ge k i with c | c
  · exact h k c
  · obtain rfl : k = i := by omega
    exact h0
theorem or128 {i : Nat} (h : i < 20) : Go.bits .or .i64 128 (i : Int) = 128 + (i : Int) := by
  have : i = 0 ∨ i = 1 ∨ i = 2 ∨ i = 3 ∨ i = 4 ∨ i = 5 ∨ i = 6 ∨ i = 7 ∨ i = 8 ∨ i = 9 ∨ i = 10 ∨ i = 11 ∨ i = 12 ∨ i = 13 ∨ i = 14 ∨ i = 15 ∨ i = 16 ∨ i = 17 ∨ i = 18 ∨ i = 19 := by omega
  rcases this with rfl | rfl | rfl | rfl | rfl | rfl | rfl | rfl | rfl | rfl | rfl | rfl | rfl | rfl | rfl | rfl | rfl | rfl | rfl | rfl <;> decide
theorem or64 {i : Nat} (h : i < 20) : Go.bits .or .i64 64 (i : Int) = 64 + (i : Int) := by
  have : i = 0 ∨ i = 1 ∨ i = 2 ∨ i = 3 ∨ i = 4 ∨ i = 5 ∨ i = 6 ∨ i = 7 ∨ i = 8 ∨ i = 9 ∨ i = 10 ∨ i = 11 ∨ i = 12 ∨ i = 13 ∨ i = 14 ∨ i = 15 ∨ i = 16 ∨ i = 17 ∨ i = 18 ∨ i = 19 := by omega
  rcases this with rfl | rfl | rfl | rfl | rfl | rfl | rfl | rfl | rfl | rfl | rfl | rfl | rfl | rfl | rfl | rfl | rfl | rfl | rfl | rfl <;> decide
theorem u8_small {x : Int} (h : x < 256) (h0 : 0 ≤ x) : IntKind.u8.wrap x = x ∧ x % 256 = x := by
  have : x % 256 = x := by omega
  exact ⟨this, this⟩
set_option maxHeartbeats 8000000 in
set_option maxRecDepth 100000 in
theorem line_c (f0 f1 : ByteArray) (w : World) (h0 : f0.size ≤ 256) (h1 : f1.size ≤ 256) (hT : TB w) (hV : TV w) : Calls Tryd.prog 25 #[.agg #[.string f0, .string f1]] w fun e w' => e = .returned (.string (lineV ⟨f0, f1⟩)) ∧ Below w.heap.size w w' := by
  have HT := Aside0.mk hT
  have HV := Aside0.mk hV
  have HS := Aside0.mk (And.intro h0 h1)
  clear hT hV h0 h1
  go_enter Tryd.func25, Tryd.ntmps25
  go_wp2_with (first | ((with_reducible refine gate_dst (N := 1) rfl ?_); refine box_event ?hg (N := 1) ?hd (cs := #[.string f0, .string f1]) (t := 27) ?hr ?_; (case hd => rfl); (case hg => rfl); (case hr => first | (go_simp; done) | (go_simp; rfl)); intro gb hgb w1 hbox hb; have HBX := Aside0.mk hbox; have HB1 := Aside0.mk hb; have HGB := Aside0.mk hgb; clear hgb hbox hb) | ((with_reducible refine gate_dst (N := 6) rfl ?_); refine load_arm rfl (.global 0) rfl rfl (Kd.C_below HT.out HB1.out) ?_))
  go_loopw [3, 4, 5, 7] (fun v3 v4 v5 v7 wr => ∃ (i : Nat) (nm : Int), v7 = .int .i64 (i : Int) ∧ v3 = .int .i64 nm ∧ Aside0 (i ≤ 20) ∧ Aside0 (∀ k, k < i → sameB (tbl.getD k z27) ⟨f0, f1⟩ = false) ∧ Aside0 ((nm = -1 ∧ ∀ k, k < i → eqB (tbl.getD k z27).f0 f0 = false) ∨ (∃ j : Nat, nm = (j : Int) ∧ j < i ∧ eqB (tbl.getD j z27).f0 f0 = true ∧ ∀ k, k < j → eqB (tbl.getD k z27).f0 f0 = false)) ∧ Aside0 (Below w1.heap.size w1 wr)) (fun _ _ _ v7 _ => (20 - intOf v7).toNat)
  case atStart => exact ⟨0, -1, rfl, rfl, ⟨by omega⟩, ⟨fun k hk => by omega⟩, ⟨.inl ⟨rfl, fun k hk => by omega⟩⟩, ⟨Below.refl _ _⟩⟩
  case round =>
    obtain ⟨i, nm, rfl, rfl, HI, HE, HM, HB⟩ := hrel
    have hx2 := blk_below HBX.out HB.out
    by_cases d1 : i < 20
    · have M1 : decide ((i : Int) < 20) = true := decide_eq_true (by omega)
      have M1' : decide (i < 20) = true := decide_eq_true d1
      have ix := idx_tab i d1
      have hif := ifb d1 (by decide)
      obtain ⟨i1, i2, -, -, -, -, -⟩ := hif
      obtain ⟨x, hx⟩ : ∃ q, tbl.getD i z27 = q := ⟨_, rfl⟩
      rw [hx] at ix
      have HX := Aside0.mk hx
      obtain ⟨x0, x1⟩ := x
      dsimp only at ix
      have HJ := Aside0.mk d1
      have hb : Below wr.heap.size wr (wr.alloc (.cells #[.string x0, .string x1] 27)) := below_alloc (Below.refl _ _) _
      have hbx3 := blk_below hx2 hb
      have c0 := (show _ = some (Value.string f0) from (blk_cell hbx3 0).trans rfl)
      have c1 := (show _ = some (Value.string f1) from (blk_cell hbx3 1).trans rfl)
      clear hx d1 hx2 hb hbx3
      have HBR := Aside0.mk (below_step (below_step HB1.out HB.out) (below_alloc (Below.refl wr.heap.size wr) (.cells #[.string x0, .string x1] 27)))
      have HB2 := Aside0.mk (below_step HB.out (below_alloc (Below.refl wr.heap.size wr) (.cells #[.string x0, .string x1] 27)))
      by_cases p0 : x0.toList = f0.toList
      · have P0 : (x0.toList = f0.toList) = True := eq_true p0
        have B0 : (x0.toList == f0.toList) = true := by rw [beq_iff_eq]; exact p0
        by_cases p1 : x1.toList = f1.toList
        · have P1 : (x1.toList = f1.toList) = True := eq_true p1
          have B1 : (x1.toList == f1.toList) = true := by rw [beq_iff_eq]; exact p1
          have HQ := Aside0.mk (show lineV ⟨f0, f1⟩ = strOfNums [128 + (i : Int)] by unfold lineV; rw [find_hit HE.out (by rw [HX.out]; unfold sameB eqB; dsimp only; rw [B0, B1]; rfl) HJ.out])
          have o1 := or128 HJ.out
          have o2 := u8_small (show 128 + (i : Int) < 256 by have := HJ.out; omega) (by omega)
          have hcv := conv_one (wr.alloc (.cells #[.string x0, .string x1] 27)) (b := wr.heap.size + 1) (128 + (i : Int)) (Array.size_push _).symm
          clear p0 p1
          go_wp2_with (fail)
          go_ret
          exact ⟨by rw [HQ.out]; rfl, by repeat (first | exact HBR.out | apply below_alloc)⟩
        · have P1 : (x1.toList = f1.toList) = False := eq_false p1
          have B1 : (x1.toList == f1.toList) = false := by rw [beq_eq_false_iff_ne]; exact p1
          have HE2 := Aside0.mk (show ∀ k, k < i + 1 → sameB (tbl.getD k z27) ⟨f0, f1⟩ = false from step_lt HE.out (by rw [HX.out]; unfold sameB eqB; dsimp only; rw [B1, Bool.and_false]))
          have he0 := HX.out
          have HEQ := Aside0.mk (show eqB (tbl.getD i z27).f0 f0 = true by rw [he0]; exact B0)
          clear p0 p1 he0
          rcases HM.out with ⟨hm, hall⟩ | ⟨j, hm, hj, hja, hjb⟩
          · have HAL := Aside0.mk hall
            clear hall
            subst hm
            go_wp2_with (fail)
            go_roundw
            case rel => exact ⟨i + 1, (i : Int), by first | rfl | simp, rfl, ⟨by have := HJ.out; omega⟩, HE2, ⟨.inr ⟨i, rfl, Nat.lt_succ_self i, HEQ.out, HAL.out⟩⟩, HB2⟩
            case measure => clear i1 i2; have := HJ.out; simp [intOf]; omega
          · have HJJ := Aside0.mk (show j < i ∧ eqB (tbl.getD j z27).f0 f0 = true ∧ ∀ k, k < j → eqB (tbl.getD k z27).f0 f0 = false from ⟨hj, hja, hjb⟩)
            clear hj hja hjb
            subst hm
            have nn : decide ((j : Int) < 0) = false := decide_eq_false (by omega)
            go_wp2_with (fail)
            go_roundw
            case rel => exact ⟨i + 1, (j : Int), by first | rfl | simp, rfl, ⟨by have := HJ.out; omega⟩, HE2, ⟨.inr ⟨j, rfl, by have := HJJ.out.1; omega, HJJ.out.2.1, HJJ.out.2.2⟩⟩, HB2⟩
            case measure => clear i1 i2; have := HJ.out; simp [intOf]; omega
      · have P0 : (x0.toList = f0.toList) = False := eq_false p0
        have B0 : (x0.toList == f0.toList) = false := by rw [beq_eq_false_iff_ne]; exact p0
        have HE2 := Aside0.mk (show ∀ k, k < i + 1 → sameB (tbl.getD k z27) ⟨f0, f1⟩ = false from step_lt HE.out (by rw [HX.out]; unfold sameB eqB; dsimp only; rw [B0, Bool.false_and]))
        have he0 := HX.out
        have HEQ := Aside0.mk (show eqB (tbl.getD i z27).f0 f0 = false by rw [he0]; exact B0)
        clear p0 he0
        rcases HM.out with ⟨hm, hall⟩ | ⟨j, hm, hj, hja, hjb⟩
        · have HAL := Aside0.mk (show ∀ k, k < i + 1 → eqB (tbl.getD k z27).f0 f0 = false from step_lt hall HEQ.out)
          clear hall
          subst hm
          go_wp2_with (fail)
          go_roundw
          case rel => exact ⟨i + 1, -1, by first | rfl | simp, rfl, ⟨by have := HJ.out; omega⟩, HE2, ⟨.inl ⟨rfl, HAL.out⟩⟩, HB2⟩
          case measure => clear i1 i2; have := HJ.out; simp [intOf]; omega
        · have HJJ := Aside0.mk (show j < i ∧ eqB (tbl.getD j z27).f0 f0 = true ∧ ∀ k, k < j → eqB (tbl.getD k z27).f0 f0 = false from ⟨hj, hja, hjb⟩)
          clear hj hja hjb
          subst hm
          have nn : decide ((j : Int) < 0) = false := decide_eq_false (by omega)
          go_wp2_with (fail)
          go_roundw
          case rel => exact ⟨i + 1, (j : Int), by first | rfl | simp, rfl, ⟨by have := HJ.out; omega⟩, HE2, ⟨.inr ⟨j, rfl, by have := HJJ.out.1; omega, HJJ.out.2.1, HJJ.out.2.2⟩⟩, HB2⟩
          case measure => clear i1 i2; have := HJ.out; simp [intOf]; omega
    · have hi : i = 20 := by have := HI.out; omega
      clear d1 HI
      subst hi
      have HNO := Aside0.mk (find_miss (p := fun x => sameB x ⟨f0, f1⟩) HE.out)
      have c0 := (show _ = some (Value.string f0) from (blk_cell hx2 0).trans rfl)
      have c1 := (show _ = some (Value.string f1) from (blk_cell hx2 1).trans rfl)
      have HX2 := Aside0.mk hx2
      have HBW := Aside0.mk (below_step HB1.out HB.out)
      obtain ⟨k1, hk1⟩ := (text_ev f1 (by have := HS.out; omega)).rounds
      have HK1 := Aside0.mk hk1
      clear hx2 hk1
      rcases HM.out with ⟨hm, hall⟩ | ⟨j, hm, hj, hja, hjb⟩
      · subst hm
        have HQ := Aside0.mk (show lineV ⟨f0, f1⟩ = (⟨#[0]⟩ : ByteArray) ++ vtext f0 ++ vtext f1 by unfold lineV; rw [HNO.out]; dsimp only; rw [find_miss (p := fun x => eqB x.f0 f0) hall])
        obtain ⟨k0, hk0⟩ := (text_ev f0 (by have := HS.out; omega)).rounds
        have HK0 := Aside0.mk hk0
        have hz0 := vtext_small f0 HS.out.1
        have hz1 := vtext_small f1 HS.out.2
        obtain ⟨t0, ht0⟩ : ∃ q, vtext f0 = q := ⟨_, rfl⟩
        obtain ⟨t1, ht1⟩ : ∃ q, vtext f1 = q := ⟨_, rfl⟩
        rw [ht0] at HK0 hz0
        rw [ht1] at HK1 hz1
        rw [ht0, ht1] at HQ
        clear hall hk0 ht0 ht1
        have z0 : (9223372036854775807 < 1 + t0.size) = False := eq_false (by omega)
        have z1 : (9223372036854775807 < 1 + t0.size + t1.size) = False := eq_false (by omega)
        have z2 : (9223372036854775807 < ((⟨#[0]⟩ : ByteArray) ++ t0).size + t1.size) = False := eq_false (by rw [ByteArray.size_append]; show ¬ _ < 1 + t0.size + t1.size; omega)
        have z3 : (9223372036854775807 < 1 + (t0.size + t1.size)) = False := eq_false (by omega)
        go_wp2_with (fail)
        refine Calm.wp_region_phC [(1, fun w_ => w_.cell? ⟨gb, 0, none⟩ = some (.string f0)), (5, fun w_ => w_.cell? ⟨gb, 1, none⟩ = some (.string f1))] [([0, 1, 4, 5], [2]), ([3], [6]), ([7, 8], [])] (by kernel_rfl) (by kernel_rfl) ?_
        refine Calm.ph_next ?_ ?_
        · repeat (first | exact Calm.okI_nil | (refine Calm.okI_cons (Or.inl (by decide)) ?_) | (refine Calm.okI_cons (Or.inr (by first | exact c0 | exact c1)) ?_))
        repeat (first
          | (refine Calm.g_value (v := ?_) (a' := ?_) rfl rfl (by rfl) ?_ ?_ ?_; rotate_left; (· rintro w' hS'; (try simp only [Calm.SC_cons, Calm.SC_nil, Nat.reduceEqDiff, forall_const, false_implies, and_true, true_and] at hS'); (try obtain ⟨hS1, hS2⟩ := hS'); go_simp; with_reducible rfl); rotate_left; (· simp only [Act.put, List.setIfInBounds_toArray, List.set_cons_zero, List.set_cons_succ, i64_w, i32_w]; rfl)))
        refine Calm.g_nil ?_
        refine Calm.c_call rfl rfl Tryd.func32 (by kernel_rfl) rfl #[.string f0] (by rfl) rfl (by (try simp only [List.map_toArray, List.map_cons, List.map_nil]); rfl) ?_
        (with_reducible refine ((varint_Text.calls _ f0 t0 _ (Kd.C_below HV.out (below_drew1 HBW.out)) HK0.out)).mono ?_)
        rintro e_ w7 ⟨rfl, hb⟩; have HB7 := Aside0.mk (below_step (below_drew1 HBW.out) hb); have c17 := (show _ = some (Value.string f1) from (blk_cell (blk_below HX2.out (below_step (below_drew1 (Below.refl _ _)) hb)) 1).trans rfl); clear hb
        refine ⟨_, rfl, ?_, ?_⟩
        · repeat (first | exact Calm.okC_nil | (refine Calm.okC_cons (Or.inl (by decide +kernel)) ?_) | (refine Calm.okC_cons (Or.inr (by exact c17)) ?_))
        refine Calm.put_to (a' := ?_) ?_ ?_
        rotate_left
        · simp only [Act.put, List.setIfInBounds_toArray, List.set_cons_zero, List.set_cons_succ, i64_w, i32_w]; rfl
        refine Calm.h_nil ?_
        refine Calm.ph_next ?_ ?_
        · repeat (first | exact Calm.okI_nil | (refine Calm.okI_cons (Or.inl (by decide)) ?_) | (refine Calm.okI_cons (Or.inr (by exact c17)) ?_))
        repeat (first
          | (refine Calm.g_value (v := ?_) (a' := ?_) rfl rfl (by rfl) ?_ ?_ ?_; rotate_left; (· rintro w' hS'; (try simp only [Calm.SC_cons, Calm.SC_nil, Nat.reduceEqDiff, forall_const, false_implies, and_true, true_and] at hS'); (try obtain ⟨hS1, hS2⟩ := hS'); go_simp; with_reducible rfl); rotate_left; (· simp only [Act.put, List.setIfInBounds_toArray, List.set_cons_zero, List.set_cons_succ, i64_w, i32_w]; rfl)))
        refine Calm.g_nil ?_
        refine Calm.c_call rfl rfl Tryd.func32 (by kernel_rfl) rfl #[.string f1] (by rfl) rfl (by (try simp only [List.map_toArray, List.map_cons, List.map_nil]); rfl) ?_
        (with_reducible refine ((varint_Text.calls _ f1 t1 _ (Kd.C_below HV.out HB7.out) HK1.out)).mono ?_)
        rintro e_ w8 ⟨rfl, hb⟩; have HB8 := Aside0.mk (below_step HB7.out hb); clear hb
        refine ⟨_, rfl, ?_, ?_⟩
        · repeat (first | exact Calm.okC_nil | (refine Calm.okC_cons (Or.inl (by decide +kernel)) ?_) | (refine Calm.okC_cons (Or.inr (by fail)) ?_))
        refine Calm.put_to (a' := ?_) ?_ ?_
        rotate_left
        · simp only [Act.put, List.setIfInBounds_toArray, List.set_cons_zero, List.set_cons_succ, i64_w, i32_w]; rfl
        refine Calm.h_nil ?_
        refine Calm.ph_next ?_ ?_
        · repeat (first | exact Calm.okI_nil | (refine Calm.okI_cons (Or.inl (by decide)) ?_) | (refine Calm.okI_cons (Or.inr (by fail)) ?_))
        repeat (first
          | (refine Calm.g_value (v := ?_) (a' := ?_) rfl rfl (by rfl) ?_ ?_ ?_; rotate_left; (· rintro w' hS'; (try simp only [Calm.SC_cons, Calm.SC_nil, Nat.reduceEqDiff, forall_const, false_implies, and_true, true_and] at hS'); (try obtain ⟨hS1, hS2⟩ := hS'); go_simp; with_reducible rfl); rotate_left; (· simp only [Act.put, List.setIfInBounds_toArray, List.set_cons_zero, List.set_cons_succ, i64_w, i32_w]; rfl)))
        refine Calm.g_nil ?_
        refine Calm.h_nil ?_
        refine Calm.ph_end ?_
        simp only [Exit.inBlock, Exit.then]
        go_wp2_with (fail)
        go_ret
        exact ⟨by rw [HQ.out]; rfl, HB8.out⟩
      · subst hm
        have HQ := Aside0.mk (show lineV ⟨f0, f1⟩ = strOfNums [64 + (j : Int)] ++ vtext f1 by unfold lineV; rw [HNO.out]; dsimp only; rw [find_hit (p := fun x => eqB x.f0 f0) hjb hja hj])
        have hz1 := vtext_small f1 HS.out.2
        obtain ⟨t1, ht1⟩ : ∃ q, vtext f1 = q := ⟨_, rfl⟩
        rw [ht1] at HK1 hz1 HQ
        have o1 := or64 hj
        have o2 := u8_small (show 64 + (j : Int) < 256 by omega) (by omega)
        have nn : decide ((j : Int) < 0) = false := decide_eq_false (by omega)
        have z1 : (9223372036854775807 < 1 + t1.size) = False := eq_false (by omega)
        have z2 : (9223372036854775807 < (strOfNums [64 + (j : Int)]).size + t1.size) = False := eq_false (by rw [one_size1]; omega)
        have hcv := conv_blk (blk_drew (blk_new wr (.cells #[.int .u8 (64 + (j : Int))] 5)))
        have c1z := (show _ = some (Value.string f1) from (blk_cell (blk_alloc HX2.out (.cells #[.int .u8 (64 + (j : Int))] 5)) 1).trans rfl)
        clear hj hja hjb ht1
        go_wp2_with (fail)
        go_region_with (go_at_call 32; (with_reducible refine (varint_Text.calls k1 f1 t1 _ (Kd.C_below HV.out (below_step HBW.out (by repeat (first | exact Below.refl _ _ | apply below_drew1 | apply pw_below_drewN | apply below_alloc)))) HK1.out).mono ?_); rintro e_ w9 ⟨rfl, hb⟩; have HB9 := Aside0.mk (below_step (below_step HBW.out (by repeat (first | exact Below.refl _ _ | apply below_drew1 | apply pw_below_drewN | apply below_alloc))) hb); have hcvc := conv_one w9 (b := w9.heap.size) (64 + (j : Int)) rfl; (try have hcvb := conv_blk (blk_below (blk_drew (blk_new wr (.cells #[.int .u8 (64 + (j : Int))] 5))) hb)); clear hb)
        all_goals ((try simp only [Exit.then]); go_wp2_with (fail); go_ret; exact ⟨by rw [HQ.out]; rfl, by repeat (first | exact HB9.out | apply below_alloc)⟩)
end Go.Proofs.YtoigojlemffikaaDoor.Fld
