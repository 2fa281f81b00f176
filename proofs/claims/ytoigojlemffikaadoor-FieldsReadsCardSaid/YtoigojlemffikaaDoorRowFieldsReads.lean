/- The row of FieldsReads (a tied card): whatever the input, the law returns true and its input reads as before. The walk is the theorem fieldsReads_walk; what is opened of the arguments is told in YtoigojlemffikaaDoorGoodFieldsReads. -/
import Derived.Test.YtoigojlemffikaaDoorRows
import Derived.Test.YtoigojlemffikaaDoorGoodFieldsReads
import Derived.Test.YtoigojlemffikaaDoorWalkReads
import Derived.Test.YtoigojlemffikaaDoorCards
import Derived.Test.YtoigojlemffikaaDoorTie
import Derived.Test.YtoigojlemffikaaDoorTab14
import Derived.WalkKit
import Derived.ProofKit
import Derived.OpenShut
import Derived.ShutString
import Derived.ChangeOld
import Derived.Below
import Derived.SizedLaws
import Derived.Deep.DeepHandedRow
import Derived.Stop.Joined
import Derived.Lib.LaidTab
namespace Go.Proofs.YtoigojlemffikaaDoor.fieldsReads
open Go.ChangeShapes Go.WideShapes Go.ChangeAt Go.RowKit Go.Proofs.YtoigojlemffikaaDoorW.PrintWords Go.Proofs.YtoigojlemffikaaDoor.Opening Go.Proofs.YtoigojlemffikaaDoor.PFields
open Go.ChangeMaps (open_string shut_string)
open Go.Proofs.YtoigojlemffikaaDoor.Walk
set_option linter.unusedVariables false
set_option linter.unusedVariables false
set_option linter.unusedSimpArgs false
theorem own : ownKnob Tryd.prog.godebug = none := by kernel_rfl
theorem laidOut : laidOutB Tryd.prog = true := by kernel_rfl
set_option maxRecDepth 100000 in
theorem contract (H : Type) (enc : TypeId × Value → H) (W : World) (base : Nat) (args : Array Value) (ds gs : List (DataW H)) (before : List MemPlace)
    (hval0 : ∀ (j : Nat) t v, Tryd.f3.params[j]? = some t → args[j]? = some v → Value.okWide Tryd.prog W .any base t v)
    (hW : DataW.Whole enc Tryd.prog Tryd.f3.params.toList Rows.fieldsReadsSpec.vars false W args.toList ds gs before)
    (hsz0 : (DataW.weightsEach Tryd.prog (Tryd.f3.params.toList ++ Rows.fieldsReadsSpec.plain.varTypes Tryd.prog) (ds ++ gs)).all (· ≤ reachBytes) = true) (hL : laidMetH Tryd.prog Rows.fieldsReadsRow.laid W) :
    Calls Tryd.prog 3 args W fun e W' => ∃ v, e = .returned v ∧ Rows.fieldsReadsSpec.post enc Tryd.prog Tryd.f3 false true false false W args v W' := by
  have hsz := hsz0
  have hval := hval0
  have hW' := hW
  obtain ⟨p, q, hA0, hV, rfl, hfz, hnd⟩ := hW
  have hA : DataW.TrodAll enc Tryd.prog W 0 (fun _ => true) true Tryd.f3.params.toList args.toList ds p := hA0
  rw [Tryd.params3] at hA hval hsz
  obtain ⟨v0, vs0, d0, ds0, p0, q0, hargs, rfl, rfl, h0, r0⟩ := trodAll_cons hA
  obtain ⟨v1, vs1, d1, ds1, p1, q1, rfl, rfl, rfl, h1, r1⟩ := trodAll_cons r0
  obtain ⟨rfl, rfl, rfl⟩ := trodAll_nil r1
  obtain rfl : args = #[v0, v1] := by cases args; simp_all
  obtain ⟨rfl, rfl⟩ := trodVars_none hV
  have k0 := h0
  have lt0 : ∀ x ∈ p0, x.block < W.heap.size := by obtain ⟨m, hm⟩ := k0; exact DataW.trod_lt m _ _ _ hm
  obtain ⟨x0, K0, G0, B0⟩ := (opens_string Tryd.underlying9).arg hsz (j := 0) (t := 9) rfl rfl h0
  obtain ⟨a0, rfl, _, _, _⟩ := open_string Tryd.underlying9 (hval 0 9 v0 rfl rfl) h0
  obtain rfl : a0 = x0 := by have K_ : [Value.string a0] = [Value.string x0] := K0; simpa using K_
  have k1 := h1
  have lt1 : ∀ x ∈ p1, x.block < W.heap.size := by obtain ⟨m, hm⟩ := k1; exact DataW.trod_lt m _ _ _ hm
  obtain ⟨x1, K1, G1, B1⟩ := (opens_int Tryd.underlying3).arg hsz (j := 1) (t := 3) rfl rfl h1
  obtain ⟨a1, rfl, _, _, _⟩ := open_int Tryd.underlying3 (hval 1 3 v1 rfl rfl) h1
  obtain rfl : a1 = x1 := by have K_ : [Value.int .i64 a1] = [Value.int .i64 x1] := K1; simpa using K_
  have hT0 := Go.Proofs.YtoigojlemffikaaDoor.Fld.tb_of hL
  have hV0 := Go.Proofs.YtoigojlemffikaaDoor.Fld.tv_of hL
  clear hA0 hval0 hsz0 hsz
  refine (fieldsReads_walk a0 a1 W hT0 hV0 G0 G1).mono fun e W' ⟨he, bel0⟩ => ?_
  have bel : Below W.heap.size W W' := bel0
  subst he
  exact ⟨_, rfl, _, _, _, [], _, [], hW', trodAll_mk1 (shut_bool Tryd.underlying4 _), (trodAll_cons_mk (Below.trod laidOut (by kernel_rfl) (of_decide_eq_true (by kernel_rfl)) k0 bel lt0) (trodAll_cons_mk (Below.trod laidOut (by kernel_rfl) (of_decide_eq_true (by kernel_rfl)) k1 bel lt1) trodAll_mk0)), rfl, bel.frame _, fun h => by cases h⟩
/-- A world for the witness: the settled one, the listed variables holding what their initialisers lay. -/
noncomputable def laidWorld (os : Os) : World :=
  { World.holding Tryd.prog os ⟨#[], #[], []⟩ with heap := (((World.holding Tryd.prog os ⟨#[], #[], []⟩).heap.modify ((Tryd.prog.globalNamed "vizard/varint.sizes").getD 0) (fun
      | .cells _ t frozen => .cells #[.int .i64 1, .int .i64 2, .int .i64 4, .int .i64 8] t frozen
      | o => o)).modify ((Tryd.prog.globalNamed "vizard/fields.table").getD 0) (fun
      | .cells _ t frozen => .cells #[.string ⟨#[58, 97, 117, 116, 104, 111, 114, 105, 116, 121]⟩, .string ⟨#[]⟩, .string ⟨#[58, 112, 97, 116, 104]⟩, .string ⟨#[47]⟩, .string ⟨#[58, 109, 101, 116, 104, 111, 100]⟩, .string ⟨#[67, 79, 78, 78, 69, 67, 84]⟩, .string ⟨#[58, 109, 101, 116, 104, 111, 100]⟩, .string ⟨#[71, 69, 84]⟩, .string ⟨#[58, 115, 99, 104, 101, 109, 101]⟩, .string ⟨#[104, 116, 116, 112, 115]⟩, .string ⟨#[58, 115, 99, 104, 101, 109, 101]⟩, .string ⟨#[104, 116, 116, 112]⟩, .string ⟨#[58, 112, 114, 111, 116, 111, 99, 111, 108]⟩, .string ⟨#[99, 111, 110, 110, 101, 99, 116, 45, 117, 100, 112]⟩, .string ⟨#[58, 112, 114, 111, 116, 111, 99, 111, 108]⟩, .string ⟨#[99, 111, 110, 110, 101, 99, 116, 45, 105, 112]⟩, .string ⟨#[58, 115, 116, 97, 116, 117, 115]⟩, .string ⟨#[50, 48, 48]⟩, .string ⟨#[58, 115, 116, 97, 116, 117, 115]⟩, .string ⟨#[52, 48, 48]⟩, .string ⟨#[58, 115, 116, 97, 116, 117, 115]⟩, .string ⟨#[52, 48, 51]⟩, .string ⟨#[58, 115, 116, 97, 116, 117, 115]⟩, .string ⟨#[52, 48, 52]⟩, .string ⟨#[58, 115, 116, 97, 116, 117, 115]⟩, .string ⟨#[52, 50, 57]⟩, .string ⟨#[58, 115, 116, 97, 116, 117, 115]⟩, .string ⟨#[53, 48, 48]⟩, .string ⟨#[58, 115, 116, 97, 116, 117, 115]⟩, .string ⟨#[53, 48, 51]⟩, .string ⟨#[99, 97, 112, 115, 117, 108, 101, 45, 112, 114, 111, 116, 111, 99, 111, 108]⟩, .string ⟨#[63, 49]⟩, .string ⟨#[99, 111, 110, 116, 101, 110, 116, 45, 116, 121, 112, 101]⟩, .string ⟨#[116, 101, 120, 116, 47, 112, 108, 97, 105, 110]⟩, .string ⟨#[112, 114, 111, 120, 121, 45, 115, 116, 97, 116, 117, 115]⟩, .string ⟨#[]⟩, .string ⟨#[117, 115, 101, 114, 45, 97, 103, 101, 110, 116]⟩, .string ⟨#[]⟩, .string ⟨#[97, 99, 99, 101, 112, 116]⟩, .string ⟨#[42, 47, 42]⟩] t frozen
      | o => o)) }
theorem laid_met (os : Os) : laidMetH Tryd.prog Rows.fieldsReadsRow.laid ((laidWorld os).forCall (fun _ _ => 0) ⟨#[], #[Value.string ByteArray.empty, Value.int .i64 0], []⟩).memory :=
  laidMet_of_run' 8 (by kernel_rfl) (by kernel_rfl)
theorem reads (os : Os) {H : Type} (enc : TypeId × Value → H) : ∃ places, DataW.whole enc Tryd.prog ((laidWorld os).forCall (fun _ _ => 0) ⟨#[], #[Value.string ByteArray.empty, Value.int .i64 0], []⟩).memory Tryd.f3.params.toList Rows.fieldsReadsSpec.vars false #[Value.string ByteArray.empty, Value.int .i64 0].toList 8 = some ([.lit (.string []), .lit (.int .i64 0)], [], places) :=
  ⟨[], by kernel_rfl⟩
set_option maxRecDepth 100000 in
theorem lifted (os : Os) (started : os.Started) (H : Type) (enc : TypeId × Value → H) (F : Stop.Interp) :
    ReturnsInHanded {} Tryd.checked os 3 .any ((OpenSpec.ofChange Rows.fieldsReadsSpec).preRow enc Tryd.prog Tryd.f3 Rows.fieldsReadsRow.domain false Rows.fieldsReadsRow.laid) (((OpenSpec.ofChange Rows.fieldsReadsSpec).at F).post enc Tryd.prog Tryd.f3 false true false false) := by
  obtain ⟨places, hx⟩ := reads os enc
  refine returnsInHanded_of_row (C := Tryd.checked) (s := (OpenSpec.ofChange Rows.fieldsReadsSpec)) own started (by kernel_rfl) Tryd.func3
    (witness_row_at (enc := enc) (C := Tryd.checked) false (laidWorld os) #[Value.string ByteArray.empty, Value.int .i64 0] rfl (by kernel_rfl) (by kernel_rfl) (by kernel_rfl)
      (OpenSpec.preRow_of_cond 8 hx (by kernel_rfl) (fun k hk => by cases hk) (by kernel_rfl) (laid_met os))) ?_
  intro W base args ds gs before hval hW _ hcond hsz hL _ _
  exact contract H enc W base args ds gs before hval hW hsz hL
theorem said : Rows.FieldsReadsSaid :=
  OpenClaim.holds_of_cond 3 Tryd.f3 rfl rfl rfl rfl rfl rfl rfl ⟨rfl, rfl, rfl, rfl, rfl⟩ rfl rfl rfl rfl rfl (by kernel_rfl) Tryd.func3 (by kernel_rfl)
    (of_decide_eq_true (by kernel_rfl)) (by unfold Func.isWrapper; first | (rw [if_pos (by decide +kernel)]; kernel_rfl) | (rw [if_neg (by decide +kernel)]; exact ⟨rfl, rfl⟩))
    (fun os started H enc _ F => by rw [OpenClaim.pre_eq_preRow]; exact lifted os started H enc F)
set_option maxRecDepth 100000 in
theorem plain (f : FuncId) (fn : Func) (hf : Tryd.pinned.checked.prog.funcNamed "vizard/vizardlaw14.FieldsReads" = some f) (hfn : Tryd.pinned.checked.prog.funcs[f]? = some fn) :
    false = Tryd.pinned.checked.prog.looks [] ∧ ∀ (j : Nat) t, fn.params[j]? = some t → Tryd.pinned.checked.prog.wantsStandIn t = false := by
  obtain rfl : f = 3 := Option.some.inj ((show Tryd.prog.funcNamed "vizard/vizardlaw14.FieldsReads" = some 3 by kernel_rfl).symm.trans hf) |>.symm
  obtain rfl : fn = Tryd.f3 := (Option.some.inj (Tryd.func3.symm.trans hfn)).symm
  refine ⟨by kernel_rfl, fun j t ht => ?_⟩
  rw [Tryd.params3] at ht
  have hm := Array.mem_of_getElem? ht
  have all : ∀ t ∈ (#[9, 3] : Array Nat), Tryd.prog.wantsStandIn t = false := by
    intro t ht
    simp only [List.mem_toArray, List.mem_cons, List.not_mem_nil, or_false] at ht
    rcases ht with rfl | rfl
    all_goals exact (by kernel_rfl)
  exact all t hm
theorem card : Rows.FieldsReadsCardSaid :=
  Claim7.holds_tied_plain_at .later [] _ _ _ _ said (fun _ h => by cases h) (by kernel_rfl) (fun _ h => by cases h) fieldsReads_row_tie rfl ⟨rfl, rfl⟩ (by kernel_rfl) rfl plain (by kernel_rfl)
end Go.Proofs.YtoigojlemffikaaDoor.fieldsReads
namespace Go.Proofs.YtoigojlemffikaaDoor
/-- The statement, under a short name, for the claim. -/
theorem fieldsReads_holds : Rows.FieldsReadsCardSaid := fieldsReads.card
#print axioms fieldsReads_holds
end Go.Proofs.YtoigojlemffikaaDoor
