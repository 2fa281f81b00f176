/- Layer 14: fields.Write, by its contract. gen/mk_wr14.py writes this text. -/
import Derived.Test.YtoigojlemffikaaDoorLn14
import Derived.Test.YtoigojlemffikaaDoorBld14
import Derived.Test.YtoigojlemffikaaDoorShelf
namespace Go.Proofs.YtoigojlemffikaaDoor.Fld
open Go.RowKit Go.Deep Go.Proofs.YtoigojlemffikaaDoor.PFields Go.Proofs.YtoigojlemffikaaDoorW.PrintWords Go.Proofs.YtoigojlemffikaaDoorW.PrintLast Go.Proofs.YtoigojlemffikaaDoorW.PrintMore Go.Proofs.YtoigojlemffikaaDoor.Hand Go.Proofs.YtoigojlemffikaaDoor.Pure
set_option linter.unusedVariables false
set_option linter.unusedSimpArgs false
theorem builderAt_below {B b : Nat} {p : Value} {bs : List Value} {w w2 : World} (h : Lib.BuilderAt 50 5 B b p bs w) (hb : Below w.heap.size w w2) : Lib.BuilderAt 50 5 B b p bs w2 := by
  obtain ⟨h0, v, hk, ho, hn⟩ := h
  exact ⟨h0, v, blk_below hk hb, own_move ho (fun k hk => hb.block k (own_lt ho k hk)), hn⟩
theorem isBuilder_below {B b : Nat} {bs : List Value} {w w2 : World} (h : Lib.IsBuilder 50 5 B b bs w) (hb : Below w.heap.size w w2) : Lib.IsBuilder 50 5 B b bs w2 := by
  rcases h with h | h
  · exact .inl (builderAt_below h hb)
  · exact .inr (builderAt_below h hb)
theorem strCells_append (a b : ByteArray) : Lib.strCells (a ++ b) = Lib.strCells a ++ Lib.strCells b := by
  unfold Lib.strCells
  rw [ByteArray.data_append, Array.toList_append, List.map_append]
def catV (l : List S27) : ByteArray := l.foldl (fun a f => a ++ lineV f) ⟨#[]⟩
def writeV (l : List S27) : ByteArray × Int := if checksV l = 0 then (catV l, 0) else (⟨#[]⟩, checksV l)
theorem take_step {l : List S27} {i : Nat} (h : i < l.length) : l.take (i + 1) = l.take i ++ [l.getD i z27] := by
  rw [List.take_succ_eq_append_getElem h, List.getD_eq_getElem?_getD, List.getElem?_eq_getElem h]; rfl
theorem cat_step {l : List S27} {i : Nat} (h : i < l.length) : catV (l.take (i + 1)) = catV (l.take i) ++ lineV (l.getD i z27) := by
  unfold catV
  rw [take_step h, List.foldl_append]
  rfl
theorem line_size (f : S27) (h0 : f.f0.size ≤ 256) (h1 : f.f1.size ≤ 256) : (lineV f).size ≤ 600 := by
  have a := vtext_small f.f0 h0
  have b := vtext_small f.f1 h1
  unfold lineV
  split
  · exact Nat.le_trans (Nat.le_of_eq (one_size1 _)) (by decide)
  · split
    · rw [ByteArray.size_append, one_size1]; omega
    · rw [ByteArray.size_append, ByteArray.size_append]; show 1 + _ + _ ≤ _; omega
theorem small_of_check {f : S27} (h : checkV f = 0) : f.f0.size ≤ 256 ∧ f.f1.size ≤ 256 := by
  unfold checkV at h
  by_cases c : 256 < f.f0.size ∨ 256 < f.f1.size
  · rw [if_pos c] at h; exact absurd h (by decide)
  · omega
theorem firstBad_all {l : List S27} (h : firstBad l = 0) : ∀ f ∈ l, checkV f = 0 := by
  induction l with
  | nil => intro f hf; cases hf
  | cons x t ih =>
    intro f hf
    rw [firstBad_cons] at h
    by_cases c : checkV x = 0
    · rw [if_pos c] at h
      rcases List.mem_cons.1 hf with rfl | hf
      · exact c
      · exact ih h f hf
    · rw [if_neg c] at h; exact absurd h c
theorem checks_all {l : List S27} (h : checksV l = 0) : l.length ≤ 16 ∧ ∀ f ∈ l, checkV f = 0 := by
  unfold checksV at h
  by_cases c : 16 < l.length
  · rw [if_pos c] at h; exact absurd h (by decide)
  · rw [if_neg c] at h; exact ⟨by omega, firstBad_all h⟩
set_option maxHeartbeats 8000000 in
set_option maxRecDepth 100000 in
theorem write_l (A : Option Addr) (c : Nat) (l : List S27) (w : World) (hr : k27.C w A l.length l) (hc : l.length ≤ c) (hs : Sized l) (hT : TB w) (hV : TV w) : Calls Tryd.prog 13 #[.slice A l.length c] w fun e w' => e = .returned (.tuple #[.string (writeV l).1, .int .i64 (writeV l).2]) ∧ Below w.heap.size w w' := by
  have HR := Aside0.mk hr
  have HC := Aside0.mk hc
  have HS := Aside0.mk hs
  have HT := Aside0.mk hT
  have HV := Aside0.mk hV
  clear hr hc hs hT hV
  obtain ⟨ee, hee⟩ : ∃ q, checksV l = q := ⟨_, rfl⟩
  have HEE := Aside0.mk hee
  by_cases e0 : ee = 0
  · subst e0
    have HQ := Aside0.mk (show writeV l = (catV l, 0) by unfold writeV; rw [if_pos hee])
    have HAL := Aside0.mk (checks_all hee).2
    have HN := Aside0.mk (checks_all hee).1
    clear hee
    go_enter Tryd.func13, Tryd.ntmps13
    go_wp2_with (first | (go_at_call 17; (with_reducible refine (checks_c A c l _ HR.out HC.out HS.out).mono ?_); rintro e_ w1 ⟨rfl, hb⟩; rw [HEE.out]; have HB1 := Aside0.mk hb; clear hb))
    have HF := Aside0.mk (Lib.fresh_isBuilder 50 5 w1)
    have HB2 := Aside0.mk (below_step HB1.out (below_alloc (Below.refl w1.heap.size w1) (.cells #[.pointer none, .slice none 0 0] 50)))
    go_loopw [7, 15] (fun v7 v15 wr => ∃ i : Nat, v15 = .int .i64 (i : Int) ∧ Aside0 (i ≤ l.length) ∧ Aside0 ((catV (l.take i)).size ≤ i * 600) ∧ Aside0 (Lib.IsBuilder 50 5 w1.heap.size w1.heap.size (Lib.strCells (catV (l.take i))) wr) ∧ Aside0 (Below w.heap.size w wr)) (fun _ v15 _ => ((l.length : Int) - intOf v15).toNat)
    case atStart => exact ⟨0, rfl, ⟨Nat.zero_le _⟩, ⟨Nat.le_refl _⟩, HF, HB2⟩
    case round =>
      clear HF HB2
      obtain ⟨i, rfl, HI, HSZ, HIB, HBR⟩ := hrel
      by_cases d1 : i < l.length
      · obtain ⟨ad, hA, rows⟩ := el27 HR.out i d1
        subst hA
        obtain ⟨x0, x1⟩ := rows wr HBR.out
        have hst := cat_step d1
        have hck := HAL.out _ (getD_mem d1)
        generalize l.getD i z27 = x at x0 x1 hst hck
        obtain ⟨f0, f1⟩ := x
        dsimp only at x0 x1
        have HSM := Aside0.mk (small_of_check hck)
        have HLS := Aside0.mk (line_size ⟨f0, f1⟩ HSM.out.1 HSM.out.2)
        have HST := Aside0.mk hst
        have HJ := Aside0.mk d1
        have hif := ifb d1 (show l.length ≤ 1000000 by have := HN.out; omega)
        have hba : Below wr.heap.size wr (wr.alloc (.cells #[.string f0, .string f1] 27)) := below_alloc (Below.refl _ _) _
        have HBA := Aside0.mk (below_step HBR.out hba)
        have HIA := Aside0.mk (isBuilder_below HIB.out hba)
        clear d1 hst hck rows hba
        obtain ⟨i1, i2, i3, i4, i5, i6, i7⟩ := hif
        go_wp2_with (first | (go_at_call 25; (with_reducible refine (line_c f0 f1 _ HSM.out.1 HSM.out.2 (Kd.C_below HT.out HBA.out) (Kd.C_below HV.out HBA.out)).mono ?_); rintro e_ w3 ⟨rfl, hb⟩; have HB3 := Aside0.mk (below_step HBA.out hb); have HI3 := Aside0.mk (isBuilder_below HIA.out hb); clear hb) | (go_at_call 24; (with_reducible refine (Bld.write_c w1.heap.size w1.heap.size (Lib.strCells (catV (l.take i))) (lineV ⟨f0, f1⟩) w3 HI3.out ?hl ?hb).mono ?_); (case hl => rw [Lib.strCells_length]; have := HSZ.out; have := HLS.out; have := HJ.out; have := HN.out; omega); (case hb => have h1 := HI3.out; rcases h1 with h1 | h1 <;> exact Nat.le_of_lt h1.lt); rintro e_ w4 ⟨rfl, hI4, hb⟩; have HB4 := Aside0.mk (below_weaken HB3.out (show w.heap.size ≤ w1.heap.size from HB1.out.size) hb); have HI4 := Aside0.mk hI4; clear hb hI4))
        go_roundw
        case rel => exact ⟨i + 1, by first | rfl | simp, ⟨by have := HJ.out; omega⟩, ⟨by rw [HST.out, ByteArray.size_append]; have h1 := HSZ.out; have h2 := HLS.out; omega⟩, ⟨.inr (by rw [HST.out, strCells_append]; exact HI4.out)⟩, HB4⟩
        case measure => clear i1 i2; have := HJ.out; simp [intOf]; omega
      · have hi : i = l.length := by have := HI.out; omega
        clear d1 HI
        subst hi
        have HIZ := Aside0.mk (show Lib.IsBuilder 50 5 w1.heap.size w1.heap.size (Lib.byteCells (catV l).data.toList) wr by have h := HIB.out; rw [List.take_length] at h; exact h)
        go_wp2_with (first | (go_at_call 26; (with_reducible refine (Tryd.Builder_String_any w1.heap.size w1.heap.size (catV l).data.toList wr HIZ.out ?hz).mono ?_); (case hz => have h1 := HIZ.out; rcases h1 with h1 | h1 <;> exact Nat.le_of_lt h1.lt); rintro e_ w5 ⟨rfl, hb⟩; have HB5 := Aside0.mk (below_weaken HBR.out (show w.heap.size ≤ w1.heap.size from HB1.out.size) hb); clear hb))
        go_ret2
        exact ⟨by rw [HQ.out]; rfl, HB5.out⟩
  · have HQ := Aside0.mk (show writeV l = (⟨#[]⟩, ee) by unfold writeV; rw [hee, if_neg e0])
    obtain ⟨k1, k2, k3, k4, k5⟩ := ne0 e0
    clear hee e0
    go_enter Tryd.func13, Tryd.ntmps13
    go_wp2_with (first | (go_at_call 17; (with_reducible refine (checks_c A c l _ HR.out HC.out HS.out).mono ?_); rintro e_ w1 ⟨rfl, hb⟩; rw [HEE.out]; have HB1 := Aside0.mk hb; clear hb))
    go_ret2
    exact ⟨by rw [HQ.out]; rfl, HB1.out⟩
end Go.Proofs.YtoigojlemffikaaDoor.Fld
