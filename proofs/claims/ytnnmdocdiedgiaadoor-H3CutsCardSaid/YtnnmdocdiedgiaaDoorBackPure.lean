/- h3: frames that are written are read. -/
import Derived.Test.YtnnmdocdiedgiaaDoorWorks
namespace Go.Proofs.YtnnmdocdiedgiaaDoor.Reader
open Go.RowKit Go.Proofs.YtnnmdocdiedgiaaDoorW.PrintWords Go.Proofs.YtnnmdocdiedgiaaDoorW.PrintLast Go.Proofs.YtnnmdocdiedgiaaDoorW.PrintMore Go.Proofs.YtnnmdocdiedgiaaDoor.PH3Writes Go.Proofs.YtnnmdocdiedgiaaDoor Go.Proofs.YtnnmdocdiedgiaaDoor.Pure Go.Proofs.YtnnmdocdiedgiaaDoor.Pairs Go.Proofs.YtnnmdocdiedgiaaDoor.Hand
set_option linter.unusedVariables false
set_option linter.unusedSimpArgs false
theorem passN_whole (r : RS) (d t : ByteArray) (hr : r.rest = d ++ t) (hl : r.left = d.size) : passN r = d.size := by
  unfold passN
  rw [hl, hr, if_neg (by rw [ByteArray.size_append]; omega)]
theorem pas_whole (ctl first strange begun : Bool) (code : Int) (d t : ByteArray) : stepS ⟨ctl, d ++ t, first, d.size, strange, code, .pas, begun⟩ = (⟨ctl, t, first, 0, strange, code, .frm, begun⟩, (if d.size > 0 then (if strange then [] else [⟨0, d⟩]) else []), true) := by
  have hn := passN_whole ⟨ctl, d ++ t, first, d.size, strange, code, .pas, begun⟩ d t rfl rfl
  show pasS _ = _
  have e1 : (d ++ t).extract 0 (d.size : Int).toNat = d := ext_front _ _ _ (by omega)
  have e2 : (d ++ t).extract (d.size : Int).toNat (d ++ t).size = t := ext_tail _ _ _ _ (by omega) (by rw [ByteArray.size_append])
  unfold pasS passR passE
  rw [hn]
  dsimp only
  rw [e1, e2, if_neg (by omega)]
  by_cases h : d.size > 0
  · rw [if_pos (show (d.size : Int) > 0 by omega), if_pos h, Int.sub_self]
  · rw [if_neg (show ¬ (d.size : Int) > 0 by omega), if_neg h, Int.sub_self]
theorem frm_pass (ctl first strange begun : Bool) (left code : Int) (k : Int) (d t : ByteArray) (h0 : 0 ≤ k) (h1 : k ≤ 4611686018427387903) (hd : d.size ≤ 140737488351232) (hk : k ≠ 1 ∧ k ≠ 4 ∧ k ≠ 7) (hp : plc ctl first k = 0) :
    stepS ⟨ctl, framev k d ++ t, first, left, strange, code, .frm, begun⟩ = (⟨ctl, d ++ t, first, d.size, k != 0, code, .pas, begun⟩, [], true) :=
  (frm_frame ⟨ctl, framev k d ++ t, first, left, strange, code, .frm, begun⟩ k d t rfl h0 h1 hd).trans (frmT_pass _ k _ _ hk hp)
theorem plc_strange (ctl first : Bool) (k : Int) (h : 33 ≤ k) : plc ctl first k = 0 := by
  unfold plc
  rw [if_neg (by omega), if_neg (by omega), if_neg (by omega), if_neg (by omega)]
theorem runs_strange {ctl first strange begun : Bool} {left code k : Int} {d t : ByteArray} {l : List S39} {r' : RS} (h0 : 33 ≤ k) (h1 : k ≤ 4611686018427387903) (hd : d.size ≤ 140737488351232)
    (hn : Runs ⟨ctl, t, first, 0, true, code, .frm, begun⟩ l r') : Runs ⟨ctl, framev k d ++ t, first, left, strange, code, .frm, begun⟩ l r' := by
  have s1 := frm_pass ctl first strange begun left code k d t (by omega) h1 hd (by omega) (plc_strange ctl first k h0)
  have hk : (k != 0) = true := bne_iff_ne.mpr (by omega)
  rw [hk] at s1
  have s2 := pas_whole ctl first true begun code d t
  have e : (if d.size > 0 then (if true = true then ([] : List S39) else [⟨0, d⟩]) else []) = [] := by split <;> rfl
  rw [e] at s2
  exact runs_step s1 (runs_step s2 hn l rfl) l rfl
theorem runs_data {strange begun : Bool} {left code : Int} {d t : ByteArray} {l : List S39} {r' : RS} (hd : d.size ≤ 140737488351232)
    (hn : Runs ⟨false, t, true, 0, false, code, .frm, begun⟩ l r') : Runs ⟨false, framev 0 d ++ t, true, left, strange, code, .frm, begun⟩ ((if d.size > 0 then [⟨0, d⟩] else []) ++ l) r' := by
  have s1 := frm_pass false true strange begun left code 0 d t (by omega) (by omega) hd (by omega) rfl
  have s2 := pas_whole false true false begun code d t
  have e : (if d.size > 0 then (if false = true then ([] : List S39) else [⟨0, d⟩]) else []) = (if d.size > 0 then [⟨0, d⟩] else []) := by
    by_cases h : d.size > 0
    · rw [if_pos h, if_pos h, if_neg (by simp)]
    · rw [if_neg h, if_neg h]
  rw [e] at s2
  exact runs_step s1 (runs_step s2 hn _ rfl) _ rfl
theorem runs_whole {ctl first strange begun : Bool} {left code k : Int} {d t : ByteArray} {l : List S39} {r' : RS} (hk : k = 1 ∨ k = 4 ∨ k = 7) (hp : plc ctl first k = 0) (hd : d.size ≤ 4096) (hc : cont k d = 0)
    (hn : Runs ⟨ctl, t, true, left, strange, code, .frm, begun⟩ l r') : Runs ⟨ctl, framev k d ++ t, first, left, strange, code, .frm, begun⟩ (⟨k, d⟩ :: l) r' := by
  have s1 : stepS ⟨ctl, framev k d ++ t, first, left, strange, code, .frm, begun⟩ = (⟨ctl, t, true, left, strange, code, .frm, begun⟩, [⟨k, d⟩], true) :=
    (frm_frame ⟨ctl, framev k d ++ t, first, left, strange, code, .frm, begun⟩ k d t rfl (by omega) (by omega) (by omega)).trans (frmT_whole _ k d t hk hp hd hc)
  exact runs_step s1 hn _ rfl
/-- The bodies' frames. -/
def body (st : Int) : List ByteArray → ByteArray
  | [] => ⟨#[]⟩
  | x :: xs => framev 0 x ++ (framev st x ++ body st xs)
def cat : List ByteArray → ByteArray
  | [] => ⟨#[]⟩
  | x :: xs => x ++ cat xs
theorem nil_app (s : ByteArray) : (⟨#[]⟩ : ByteArray) ++ s = s := ByteArray.empty_append
theorem app_nil (s : ByteArray) : s ++ (⟨#[]⟩ : ByteArray) = s := ByteArray.append_empty
theorem body_app (st : Int) (a b : List ByteArray) : body st (a ++ b) = body st a ++ body st b := by
  induction a with
  | nil => exact (nil_app _).symm
  | cons x xs ih =>
    show framev 0 x ++ (framev st x ++ body st (xs ++ b)) = (framev 0 x ++ (framev st x ++ body st xs)) ++ body st b
    rw [ih, ByteArray.append_assoc, ByteArray.append_assoc]
theorem cat_app (a b : List ByteArray) : cat (a ++ b) = cat a ++ cat b := by
  induction a with
  | nil => exact (nil_app _).symm
  | cons x xs ih =>
    show x ++ cat (xs ++ b) = (x ++ cat xs) ++ cat b
    rw [ih, ByteArray.append_assoc]
theorem body_one (st : Int) (x : ByteArray) : body st [x] = framev 0 x ++ framev st x := by
  show framev 0 x ++ (framev st x ++ ⟨#[]⟩) = _
  rw [app_nil]
theorem cat_one (x : ByteArray) : cat [x] = x := app_nil x
theorem take_one (xs : List ByteArray) (i : Nat) (h : i < xs.length) : xs.take (i + 1) = xs.take i ++ [xs.getD i ⟨#[]⟩] := by
  rw [List.take_add_one, List.getD_eq_getElem?_getD, List.getElem?_eq_getElem h]
  rfl
def dataEv : List ByteArray → List S39
  | [] => []
  | x :: xs => (if x.size > 0 then [⟨0, x⟩] else []) ++ dataEv xs
def catEv : List S39 → ByteArray
  | [] => ⟨#[]⟩
  | x :: xs => x.f1 ++ catEv xs
theorem catEv_app (a b : List S39) : catEv (a ++ b) = catEv a ++ catEv b := by
  induction a with
  | nil => exact (nil_app _).symm
  | cons x xs ih =>
    show x.f1 ++ catEv (xs ++ b) = (x.f1 ++ catEv xs) ++ catEv b
    rw [ih, ByteArray.append_assoc]
theorem nil_of_size {x : ByteArray} (h : x.size = 0) : x = ⟨#[]⟩ := by
  apply ByteArray.ext
  exact Array.eq_empty_of_size_eq_zero h
theorem catEv_data (xs : List ByteArray) : catEv (dataEv xs) = cat xs := by
  induction xs with
  | nil => rfl
  | cons x xs ih =>
    show catEv ((if x.size > 0 then [⟨0, x⟩] else []) ++ dataEv xs) = x ++ cat xs
    rw [catEv_app, ih]
    congr 1
    by_cases h : x.size > 0
    · rw [if_pos h]
      exact app_nil x
    · rw [if_neg h, nil_of_size (show x.size = 0 by omega)]
      rfl
theorem dataEv_kind (xs : List ByteArray) : ∀ x ∈ dataEv xs, x.f0 = 0 := by
  induction xs with
  | nil => intro x hx; cases hx
  | cons y xs ih =>
    intro x hx
    rcases List.mem_append.1 hx with h | h
    · split at h
      · rw [List.mem_singleton] at h
        rw [h]
      · cases h
    · exact ih x h
theorem runs_body (st code : Int) (begun : Bool) (h0 : 33 ≤ st) (h1 : st ≤ 4611686018427387903) : ∀ (xs : List ByteArray), (∀ x ∈ xs, x.size ≤ 140737488351232) → Runs ⟨false, body st xs, true, 0, true, code, .frm, begun⟩ (dataEv xs) ⟨false, ⟨#[]⟩, true, 0, true, code, .frm, begun⟩
  | [], _ => .stop (frm_empty _ rfl)
  | x :: xs, h => runs_data (h x List.mem_cons_self) (runs_strange h0 h1 (h x List.mem_cons_self) (runs_body st code begun h0 h1 xs (fun y hy => h y (List.mem_cons_of_mem _ hy))))
theorem framev_size (k : Int) (d : ByteArray) (hd : d.size ≤ 140737488351232) : (framev k d).size ≤ 16 + d.size := by
  unfold framev
  split
  · rename_i h
    have h1 := form_ok k h.1 (by omega)
    have h2 := form_ok (d.size : Int) (by omega) (by omega)
    rw [ByteArray.size_append, vtext, ByteArray.size_append, vput_size, vput_size]
    omega
  · show 0 ≤ _
    omega
theorem body_size (st : Int) : ∀ (xs : List ByteArray), (∀ x ∈ xs, x.size ≤ 1000) → (body st xs).size ≤ xs.length * 2032
  | [], _ => by show 0 ≤ _; omega
  | x :: xs, h => by
    have h1 := h x List.mem_cons_self
    have h2 := framev_size 0 x (by omega)
    have h3 := framev_size st x (by omega)
    have h4 := body_size st xs (fun y hy => h y (List.mem_cons_of_mem _ hy))
    show (framev 0 x ++ (framev st x ++ body st xs)).size ≤ _
    rw [ByteArray.size_append, ByteArray.size_append, List.length_cons]
    omega
theorem cat_size : ∀ (xs : List ByteArray), (∀ x ∈ xs, x.size ≤ 1000) → (cat xs).size ≤ xs.length * 1000
  | [], _ => by show 0 ≤ _; omega
  | x :: xs, h => by
    have h1 := h x List.mem_cons_self
    have h4 := cat_size xs (fun y hy => h y (List.mem_cons_of_mem _ hy))
    show (x ++ cat xs).size ≤ _
    rw [ByteArray.size_append, List.length_cons]
    omega
/-- The whole request. -/
theorem runs_back (st : Int) (h0 : 33 ≤ st) (h1 : st ≤ 4611686018427387903) (hd : ByteArray) (hh : hd.size ≤ 4096) (xs : List ByteArray) (hx : ∀ x ∈ xs, x.size ≤ 1000) :
    Runs { initR false with rest := (initR false).rest ++ ((framev st (⟨#[63]⟩ : ByteArray) ++ framev 1 hd) ++ body st xs) } (⟨1, hd⟩ :: dataEv xs) ⟨false, ⟨#[]⟩, true, 0, true, 0, .frm, true⟩ := by
  have e : (initR false).rest ++ ((framev st (⟨#[63]⟩ : ByteArray) ++ framev 1 hd) ++ body st xs) = framev st (⟨#[63]⟩ : ByteArray) ++ (framev 1 hd ++ body st xs) := by
    rw [ByteArray.append_assoc]
    exact nil_app _
  rw [e]
  exact runs_strange h0 h1 (by decide) (runs_whole (.inl rfl) rfl hh (cont1 hd) (runs_body st 0 true h0 h1 xs (fun x hm => by have := hx x hm; omega)))
end Go.Proofs.YtnnmdocdiedgiaaDoor.Reader
