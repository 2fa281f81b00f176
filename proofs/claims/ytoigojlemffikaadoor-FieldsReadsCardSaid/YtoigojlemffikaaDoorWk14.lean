/- Layer 14: works. gen/mk_tb14.py writes this text. -/
import Derived.Test.YtoigojlemffikaaDoorWr14
import Derived.Test.YtoigojlemffikaaDoorRead14
namespace Go.Proofs.YtoigojlemffikaaDoor.Fld
open Go.RowKit Go.Deep Go.Proofs.YtoigojlemffikaaDoor.PFields Go.Proofs.YtoigojlemffikaaDoorW.PrintWords Go.Proofs.YtoigojlemffikaaDoorW.PrintLast Go.Proofs.YtoigojlemffikaaDoorW.PrintMore Go.Proofs.YtoigojlemffikaaDoor.Hand Go.Proofs.YtoigojlemffikaaDoor.Pure Go.Proofs.YtoigojlemffikaaDoor.Fld
set_option linter.unusedVariables false
set_option linter.unusedSimpArgs false
def flat (l : List S27) : List Value := l.flatMap fun x => [.string x.f0, .string x.f1]
theorem flat_at (l : List S27) : ∀ j p, l[j]? = some p → (flat l)[j * 2]? = some (.string p.f0) ∧ (flat l)[j * 2 + 1]? = some (.string p.f1) := by
  induction l with
  | nil => intro j p h; simp at h
  | cons x t ih =>
    intro j p h
    have e : flat (x :: t) = .string x.f0 :: .string x.f1 :: flat t := rfl
    rw [e]
    cases j with
    | zero =>
      obtain rfl : x = p := by simpa using h
      exact ⟨rfl, rfl⟩
    | succ j =>
      have := ih j p (by simpa using h)
      rw [show (j + 1) * 2 = j * 2 + 2 by omega]
      exact this
theorem C27_blk {W : World} {g : Nat} {t : TypeId} {fr : Nat × Nat} (l : List S27) (h : W.heap[g]? = some (.cells (flat l).toArray t fr)) (hm : l.length ≤ 9223372036854775807) : Kd.C k27 W (some ⟨g, 0, none⟩) l.length l := by
  refine ⟨rfl, hm, fun _ => ⟨⟨g, 0, none⟩, rfl, fun j p hj => ⟨[.string p.f0, .string p.f1], rfl, k27_mk _ _, fun i u hu => ?_⟩⟩⟩
  obtain ⟨a, b⟩ := flat_at l j p hj
  show W.cell? ((⟨g, 0, none⟩ : Addr).add (j * 2 + i)) = some u
  rw [add0]
  match i, hu with
  | 0, hu =>
    injection hu with hu
    rw [← hu]
    simp only [World.cell?, h]
    simpa using a
  | 1, hu =>
    have hu : some (Value.string p.f1) = some u := hu
    injection hu with hu
    rw [← hu]
    simp only [World.cell?, h]
    simpa using b
  | (i + 2), hu => simp at hu
def lw : List S27 := [⟨⟨#[58, 109, 101, 116, 104, 111, 100]⟩, ⟨#[67, 79, 78, 78, 69, 67, 84]⟩⟩, ⟨⟨#[58, 112, 97, 116, 104]⟩, ⟨#[47, 97]⟩⟩, ⟨⟨#[120]⟩, ⟨#[121]⟩⟩]
theorem lw_write : writeV lw = (⟨#[130, 65, 2, 47, 97, 0, 1, 120, 1, 121]⟩, 0) := by decide +kernel
theorem lw_read : readV ⟨#[193]⟩ = ([], 5) := by
  have h : (takeV ⟨#[193]⟩).1 = 5 := by decide +kernel
  show readN 1 [] ⟨#[193]⟩ = _
  rw [readN_succ, if_neg (by decide), h, if_pos (by decide)]
theorem lw_sized : Sized lw := by unfold Sized lw; decide
theorem write_one (g : Nat) (f : S27) (u : ByteArray) (W : World) (hC : Kd.C k27 W (some ⟨g, 0, none⟩) [f].length [f]) (hs : f.f0.size ≤ 140737488351232 ∧ f.f1.size ≤ 140737488351232) (hT : TB W) (hV : TV W) (h : writeV [f] = (u, 0)) : Calls Tryd.prog 13 #[.slice (some ⟨g, 0, none⟩) 1 1] W fun e w' => e = .returned (.tuple #[.string u, .int .i64 0]) ∧ Below W.heap.size W w' := by
  have := write_l (some ⟨g, 0, none⟩) 1 [f] W hC (Nat.le_refl _) (fun x hx => by rw [List.mem_singleton.1 hx]; exact hs) hT hV
  rw [h] at this
  exact this
theorem write_lw (g : Nat) (W : World) (hC : Kd.C k27 W (some ⟨g, 0, none⟩) lw.length lw) (hT : TB W) (hV : TV W) : Calls Tryd.prog 13 #[.slice (some ⟨g, 0, none⟩) 3 3] W fun e w' => e = .returned (.tuple #[.string ⟨#[130, 65, 2, 47, 97, 0, 1, 120, 1, 121]⟩, .int .i64 0]) ∧ Below W.heap.size W w' := by
  have := write_l (some ⟨g, 0, none⟩) 3 lw W hC (Nat.le_refl _) lw_sized hT hV
  rw [lw_write] at this
  exact this
theorem read_lw (W : World) (hT : TB W) (hV : TV W) : Calls Tryd.prog 8 #[.string ⟨#[193]⟩] W fun e w' => ∃ v, e = .returned (.tuple #[v, .int .i64 5]) ∧ Below W.heap.size W w' := by
  refine (read_c ⟨#[193]⟩ W (by decide) hT hV).mono ?_
  rintro e w' ⟨v, rfl, h, hb⟩
  rw [lw_read]
  exact ⟨v, rfl, hb⟩
set_option maxHeartbeats 8000000 in
set_option maxRecDepth 100000 in
theorem works_c (w : World) (hT : TB w) (hV : TV w) : Calls Tryd.prog 19 #[] w fun e w' => e = .returned (.bool true) ∧ Below w.heap.size w w' := by
  have hb : Below w.heap.size w (w.alloc (.cells #[.string (⟨#[58, 109, 101, 116, 104, 111, 100]⟩ : ByteArray), .string (⟨#[67, 79, 78, 78, 69, 67, 84]⟩ : ByteArray), .string (⟨#[58, 112, 97, 116, 104]⟩ : ByteArray), .string (⟨#[47, 97]⟩ : ByteArray), .string (⟨#[120]⟩ : ByteArray), .string (⟨#[121]⟩ : ByteArray)] 27)) := below_alloc (Below.refl _ _) _
  have HC := Aside0.mk (C27_blk lw (W := w.alloc (.cells #[.string (⟨#[58, 109, 101, 116, 104, 111, 100]⟩ : ByteArray), .string (⟨#[67, 79, 78, 78, 69, 67, 84]⟩ : ByteArray), .string (⟨#[58, 112, 97, 116, 104]⟩ : ByteArray), .string (⟨#[47, 97]⟩ : ByteArray), .string (⟨#[120]⟩ : ByteArray), .string (⟨#[121]⟩ : ByteArray)] 27)) (g := w.heap.size) (blk_new w (.cells #[.string (⟨#[58, 109, 101, 116, 104, 111, 100]⟩ : ByteArray), .string (⟨#[67, 79, 78, 78, 69, 67, 84]⟩ : ByteArray), .string (⟨#[58, 112, 97, 116, 104]⟩ : ByteArray), .string (⟨#[47, 97]⟩ : ByteArray), .string (⟨#[120]⟩ : ByteArray), .string (⟨#[121]⟩ : ByteArray)] 27)) (by decide))
  have HT := Aside0.mk (Kd.C_below hT hb)
  have HV := Aside0.mk (Kd.C_below hV hb)
  have HB := Aside0.mk hb
  have HT0 := Aside0.mk hT
  have HV0 := Aside0.mk hV
  clear hb hT hV
  go_enter Tryd.func19, Tryd.ntmps19
  go_wp2_with (first | (go_at_call 13; (with_reducible refine (write_lw _ _ HC.out HT.out HV.out).mono ?_); rintro e_ w1 ⟨rfl, hb⟩; have HB1 := Aside0.mk (below_step HB.out hb); clear hb) | (go_at_call 8; (with_reducible refine (read_lw _ (Kd.C_below HT0.out HB1.out) (Kd.C_below HV0.out HB1.out)).mono ?_); rintro e_ w2 ⟨v, rfl, hb⟩; have HB2 := Aside0.mk (below_step HB1.out hb); clear hb))
  go_ret
  exact ⟨rfl, HB2.out⟩
end Go.Proofs.YtoigojlemffikaaDoor.Fld
