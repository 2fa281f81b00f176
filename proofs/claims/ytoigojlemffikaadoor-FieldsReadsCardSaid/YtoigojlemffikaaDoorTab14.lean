/- Layer 14: from a row's condition on the two tables to what the walks ask. -/
import Derived.Test.YtoigojlemffikaaDoorFld14
import Derived.Test.YtoigojlemffikaaDoorRows
import Derived.Lib.LaidTab
namespace Go.Proofs.YtoigojlemffikaaDoor.Fld
open Go.RowKit Go.Deep Go.Proofs.YtoigojlemffikaaDoor.PFields Go.Proofs.YtoigojlemffikaaDoorW.PrintWords Go.Proofs.YtoigojlemffikaaDoorW.PrintLast Go.Proofs.YtoigojlemffikaaDoorW.PrintMore Go.Proofs.YtoigojlemffikaaDoor.Hand Go.Proofs.YtoigojlemffikaaDoor.Pure
set_option linter.unusedVariables false
set_option linter.unusedSimpArgs false
abbrev laidL : List (String × DataW Unit) := [("vizard/varint.sizes", Rows.laid_vizard_varint_sizes), ("vizard/fields.table", Rows.laid_vizard_fields_table)]
theorem tv_of {W : World} (h : laidMetH Tryd.prog laidL W) : TV W := by
  have ht := Lib.tabIs_of_head (rest := [("vizard/fields.table", Rows.laid_vizard_fields_table)]) (zs := ([1, 2, 4, 8] : List Int)) (show Tryd.prog.globalNamed "vizard/varint.sizes" = some 1 by kernel_rfl) (show (Tryd.prog.globals[1]?).map (·.type) = some 69 by kernel_rfl) Tryd.underlying69 Tryd.underlying3 (by kernel_rfl) (by kernel_rfl) h
  refine ⟨rfl, by omega, fun _ => ⟨⟨1, 0, none⟩, rfl, fun j p hj => ⟨[.int .i64 p], rfl, rfl, fun i u hu => ?_⟩⟩⟩
  have hj2 := (List.getElem?_eq_some_iff.1 hj).1
  obtain rfl : i = 0 := by have := (List.getElem?_eq_some_iff.1 hu).1; simp at this; exact this
  have hc := ht.cell (show Tryd.prog.globalNamed "vizard/varint.sizes" = some 1 by kernel_rfl) j hj2
  have hp : ([1, 2, 4, 8] : List Int).getD j 0 = p := by rw [List.getD_eq_getElem?_getD, hj]; rfl
  rw [hp] at hc
  obtain rfl : Value.int .i64 p = u := by simpa using hu
  by_cases h0 : j = 0
  · subst h0; simpa [Addr.add, Kd.int, Kd.scalar] using hc
  · simpa [Addr.add, Kd.int, Kd.scalar, h0] using hc
def tblData : List (DataW Unit) := tbl.map fun x => .agg [.lit (.string x.f0.data.toList), .lit (.string x.f1.data.toList)]
theorem tbl_data : (Rows.laid_vizard_fields_table : DataW Unit) = .agg tblData := rfl
theorem two_strings {enc : TypeId × Value → Unit} {w : World} {base : Nat} {sp : Nat → Bool} {held : Bool} {fuel : Nat} {cs : List Value} {b : DataW Unit × List MemPlace} {u v : List UInt8}
    (h : DataW.trod enc Tryd.prog w base sp held fuel 27 cs = some b) (hb : b.1 = .agg [.lit (.string u), .lit (.string v)]) : cs[0]? = some (.string ⟨u.toArray⟩) ∧ cs[1]? = some (.string ⟨v.toArray⟩) := by
  obtain ⟨xs, n, rfl, rfl, hl, hx, hf⟩ := DataW.trod_struct Tryd.underlying27 h
  have h0 := hf 0 _ rfl
  have h1 := hf 1 _ rfl
  have hx2 : xs.length = 2 := hx
  match xs, hx2 with
  | [a, c], _ =>
    dsimp only [List.map_cons, List.map_nil] at hb
    injection hb with hb
    injection hb with hb0 hb1
    injection hb1 with hb1 _
    have e9 : Tryd.prog.cellsOf 9 = 1 := by kernel_rfl
    obtain ⟨s0, k0, rfl, _⟩ := DataW.trod_string Tryd.underlying9 (h0.trans rfl)
    obtain ⟨s1, k1, rfl, _⟩ := DataW.trod_string Tryd.underlying9 (h1.trans rfl)
    injection hb0 with hb0
    injection hb0 with hb0
    injection hb1 with hb1
    injection hb1 with hb1
    subst hb0 hb1
    change List.take (Tryd.prog.cellsOf 9) (List.drop 0 cs) = _ at k0
    change List.take (Tryd.prog.cellsOf 9) (List.drop 1 cs) = _ at k1
    rw [e9] at k0 k1
    have k0' := k0
    have k1' := k1
    constructor
    · have := congrArg (·[0]?) k0'
      simpa [List.getElem?_take, List.getElem?_drop] using this
    · have := congrArg (·[0]?) k1'
      simpa [List.getElem?_take, List.getElem?_drop] using this
theorem tb_of {W : World} (h : laidMetH Tryd.prog laidL W) : TB W := by
  have h : laidMet Tryd.prog laidL W := h
  obtain ⟨ps, ⟨g1, t1, cs1, fuel1, p1, q1, _, _, _, _, ⟨g, t, cs, fuel, p, q, hg, ht, hvar, hd, _, _⟩, _⟩, _⟩ := h
  obtain rfl : 0 = g := Option.some.inj ((show Tryd.prog.globalNamed "vizard/fields.table" = some 0 by kernel_rfl).symm.trans hg)
  obtain rfl : 47 = t := Option.some.inj ((show (Tryd.prog.globals[0]?).map (·.type) = some 47 by kernel_rfl).symm.trans ht)
  have hcell := World.var?_cell hg hvar
  have hct : Tryd.prog.cellsOf 47 = 40 := by kernel_rfl
  have hce : Tryd.prog.cellsOf 27 = 2 := by kernel_rfl
  have key : ∀ i, i < 20 → cs.toList[i * 2]? = some (.string (tbl.getD i z27).f0) ∧ cs.toList[i * 2 + 1]? = some (.string (tbl.getD i z27).f1) := by
    intro i hi
    cases fuel with
    | zero => simp [DataW.trod] at hd
    | succ fuel =>
      simp only [DataW.trod, Tryd.underlying47, hce, hct] at hd
      split at hd
      · rename_i hl
        obtain ⟨xs, hm, hx⟩ := Option.map_eq_some_iff.1 hd
        have hxs : xs.map (·.1) = tblData := by
          have := congrArg Prod.fst hx
          rw [tbl_data] at this
          injection this
        obtain ⟨b, hb, hf⟩ := Lib.mapM_at hm i i (by simp [hi])
        have hbi : tblData[i]? = some b.1 := by rw [← hxs, List.getElem?_map, hb]; rfl
        have hti : tblData[i]? = some (.agg [.lit (.string (tbl.getD i z27).f0.data.toList), .lit (.string (tbl.getD i z27).f1.data.toList)]) := by
          unfold tblData
          rw [List.getElem?_map, List.getD_eq_getElem?_getD]
          rw [List.getElem?_eq_getElem (show i < tbl.length by rw [tbl_len]; exact hi)]
          rfl
        have he : b.1 = .agg [.lit (.string (tbl.getD i z27).f0.data.toList), .lit (.string (tbl.getD i z27).f1.data.toList)] := Option.some.inj (hbi.symm.trans hti)
        obtain ⟨r0, r1⟩ := two_strings hf he
        constructor
        · simpa [List.getElem?_take, List.getElem?_drop] using r0
        · simpa [List.getElem?_take, List.getElem?_drop] using r1
      · cases hd
  refine ⟨rfl, by decide, fun _ => ⟨⟨0, 0, none⟩, rfl, fun j p hj => ⟨[.string p.f0, .string p.f1], rfl, k27_mk _ _, fun i u hu => ?_⟩⟩⟩
  have hj2 : j < 20 := (List.getElem?_eq_some_iff.1 hj).1
  have hp : tbl.getD j z27 = p := by rw [List.getD_eq_getElem?_getD, hj]; rfl
  obtain ⟨a, b⟩ := key j hj2
  rw [hp] at a b
  show W.cell? ((⟨0, 0, none⟩ : Addr).add (j * 2 + i)) = some u
  rw [add0, hcell]
  match i, hu with
  | 0, hu =>
    injection hu with hu
    rw [← hu]
    simpa using a
  | 1, hu =>
    have hu : some (Value.string p.f1) = some u := hu
    injection hu with hu
    rw [← hu]
    simpa using b
  | (i + 2), hu => simp at hu
end Go.Proofs.YtoigojlemffikaaDoor.Fld
