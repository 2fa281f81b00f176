/- h3: strange frames change nothing. -/
import Derived.Test.YtnnmdocdiedgiaaDoorBackPure
namespace Go.Proofs.YtnnmdocdiedgiaaDoor.Reader
open Go.RowKit Go.Proofs.YtnnmdocdiedgiaaDoorW.PrintWords Go.Proofs.YtnnmdocdiedgiaaDoorW.PrintLast Go.Proofs.YtnnmdocdiedgiaaDoorW.PrintMore Go.Proofs.YtnnmdocdiedgiaaDoor.PH3Writes Go.Proofs.YtnnmdocdiedgiaaDoor Go.Proofs.YtnnmdocdiedgiaaDoor.Pure Go.Proofs.YtnnmdocdiedgiaaDoor.Pairs Go.Proofs.YtnnmdocdiedgiaaDoor.Hand
set_option linter.unusedVariables false
set_option linter.unusedSimpArgs false
def fx (ctl : Bool) (x : ByteArray) : ByteArray := if ctl then framev 7 (⟨#[0]⟩ : ByteArray) else framev 0 x
def sbd (ctl : Bool) : List ByteArray → ByteArray
  | [] => ⟨#[]⟩
  | x :: xs => fx ctl x ++ sbd ctl xs
def tbd (ctl : Bool) (st : Int) : List ByteArray → ByteArray
  | [] => ⟨#[]⟩
  | x :: xs => framev st x ++ (fx ctl x ++ (framev st (⟨#[]⟩ : ByteArray) ++ tbd ctl st xs))
def evx (ctl : Bool) : List ByteArray → List S39
  | [] => []
  | x :: xs => (if ctl then [⟨7, (⟨#[0]⟩ : ByteArray)⟩] else (if x.size > 0 then [⟨0, x⟩] else [])) ++ evx ctl xs
theorem sbd_app (ctl : Bool) (a : List ByteArray) (x : ByteArray) : sbd ctl (a ++ [x]) = sbd ctl a ++ fx ctl x := by
  induction a with
  | nil => show fx ctl x ++ ⟨#[]⟩ = ⟨#[]⟩ ++ fx ctl x; rw [app_nil, nil_app]
  | cons y ys ih =>
    show fx ctl y ++ sbd ctl (ys ++ [x]) = (fx ctl y ++ sbd ctl ys) ++ fx ctl x
    rw [ih, ByteArray.append_assoc]
theorem tbd_app (ctl : Bool) (st : Int) (a : List ByteArray) (x : ByteArray) : tbd ctl st (a ++ [x]) = tbd ctl st a ++ framev st x ++ fx ctl x ++ framev st (⟨#[]⟩ : ByteArray) := by
  induction a with
  | nil => show framev st x ++ (fx ctl x ++ (framev st (⟨#[]⟩ : ByteArray) ++ ⟨#[]⟩)) = ⟨#[]⟩ ++ framev st x ++ fx ctl x ++ framev st (⟨#[]⟩ : ByteArray); rw [app_nil, nil_app, ByteArray.append_assoc]
  | cons y ys ih =>
    show framev st y ++ (fx ctl y ++ (framev st (⟨#[]⟩ : ByteArray) ++ tbd ctl st (ys ++ [x]))) = (framev st y ++ (fx ctl y ++ (framev st (⟨#[]⟩ : ByteArray) ++ tbd ctl st ys))) ++ framev st x ++ fx ctl x ++ framev st (⟨#[]⟩ : ByteArray)
    rw [ih]
    simp only [ByteArray.append_assoc]
theorem fx_size (ctl : Bool) (x : ByteArray) (h : x.size ≤ 500) : (fx ctl x).size ≤ 516 := by
  unfold fx
  split
  · have := framev_size 7 (⟨#[0]⟩ : ByteArray) (by decide)
    have h0 : (⟨#[0]⟩ : ByteArray).size = 1 := rfl
    omega
  · have := framev_size 0 x (by omega)
    omega
theorem sbd_size (ctl : Bool) : ∀ (xs : List ByteArray), (∀ x ∈ xs, x.size ≤ 500) → (sbd ctl xs).size ≤ xs.length * 1100
  | [], _ => by show 0 ≤ _; omega
  | x :: xs, h => by
    have h1 := fx_size ctl x (h x List.mem_cons_self)
    have h4 := sbd_size ctl xs (fun y hy => h y (List.mem_cons_of_mem _ hy))
    show (fx ctl x ++ sbd ctl xs).size ≤ _
    rw [ByteArray.size_append, List.length_cons]
    omega
theorem tbd_size (ctl : Bool) (st : Int) : ∀ (xs : List ByteArray), (∀ x ∈ xs, x.size ≤ 500) → (tbd ctl st xs).size ≤ xs.length * 1100
  | [], _ => by show 0 ≤ _; omega
  | x :: xs, h => by
    have h1 := fx_size ctl x (h x List.mem_cons_self)
    have h0 := h x List.mem_cons_self
    have h2 := framev_size st x (by omega)
    have h3 := framev_size st (⟨#[]⟩ : ByteArray) (by decide)
    have hz : (⟨#[]⟩ : ByteArray).size = 0 := rfl
    have h4 := tbd_size ctl st xs (fun y hy => h y (List.mem_cons_of_mem _ hy))
    show (framev st x ++ (fx ctl x ++ (framev st (⟨#[]⟩ : ByteArray) ++ tbd ctl st xs))).size ≤ _
    rw [ByteArray.size_append, ByteArray.size_append, ByteArray.size_append, List.length_cons]
    omega
theorem cont7 : cont 7 (⟨#[0]⟩ : ByteArray) = 0 := by
  have h : vget (⟨#[0]⟩ : ByteArray) = (0, 1, 0) := by decide +kernel
  unfold cont
  rw [if_pos rfl, h, if_neg (by simp), if_neg (by decide)]
theorem cont4 : cont 4 (⟨#[6, 1]⟩ : ByteArray) = 0 := by
  have h1 : vget (⟨#[6, 1]⟩ : ByteArray) = (6, 1, 0) := by decide +kernel
  have h2 : Pure.rest (⟨#[6, 1]⟩ : ByteArray) = (⟨#[1]⟩ : ByteArray) := by decide +kernel
  have h3 : vget (⟨#[1]⟩ : ByteArray) = (1, 1, 0) := by decide +kernel
  have h4 : Pure.rest (⟨#[1]⟩ : ByteArray) = (⟨#[]⟩ : ByteArray) := by decide +kernel
  have hz : (⟨#[6, 1]⟩ : ByteArray).size = 2 := rfl
  have he : prE (⟨#[6, 1]⟩ : ByteArray) = 0 := by
    have hp := prE_ok (⟨#[6, 1]⟩ : ByteArray)
    have hi := pr_inv hp
    rw [h1, h2, h3, h4] at hi
    dsimp only at hi
    rcases hi with ⟨a, _⟩ | ⟨_, ⟨a, _⟩ | ⟨_, ⟨a, _⟩ | ⟨_, ⟨_, a, _⟩ | ⟨_, ⟨a, _⟩ | ⟨_, ⟨a, _⟩ | ⟨_, hn⟩⟩⟩⟩⟩⟩
    · rw [hz] at a; omega
    · exact absurd rfl a
    · exact absurd rfl a
    · omega
    · cases a
    · cases a
    · rcases pr_inv hn with ⟨_, _, b⟩ | ⟨a, _⟩
      · exact b
      · exact absurd rfl a
  unfold cont
  rw [if_neg (by decide), if_pos rfl, he, if_neg (by simp)]
theorem runs_fx (ctl : Bool) (x : ByteArray) (hx : x.size ≤ 500) {sg bg : Bool} {code : Int} {t : ByteArray} {l : List S39} {r' : RS}
    (hn : Runs ⟨ctl, t, true, 0, ctl && sg, code, .frm, bg⟩ l r') : Runs ⟨ctl, fx ctl x ++ t, true, 0, sg, code, .frm, bg⟩ ((if ctl then [⟨7, (⟨#[0]⟩ : ByteArray)⟩] else (if x.size > 0 then [⟨0, x⟩] else [])) ++ l) r' := by
  cases ctl
  · exact runs_data (by omega) hn
  · exact runs_whole (.inr (.inr rfl)) rfl (by decide) cont7 hn
theorem runs_sbd (ctl : Bool) : ∀ (xs : List ByteArray) (sg : Bool), (∀ x ∈ xs, x.size ≤ 500) → ∃ sg', Runs ⟨ctl, sbd ctl xs, true, 0, sg, 0, .frm, true⟩ (evx ctl xs) ⟨ctl, ⟨#[]⟩, true, 0, sg', 0, .frm, true⟩
  | [], sg, _ => ⟨sg, .stop (frm_empty _ rfl)⟩
  | x :: xs, sg, h => by
    obtain ⟨sg', hr⟩ := runs_sbd ctl xs (ctl && sg) (fun y hy => h y (List.mem_cons_of_mem _ hy))
    exact ⟨sg', runs_fx ctl x (h x List.mem_cons_self) hr⟩
theorem runs_tbd (ctl : Bool) (st : Int) (h0 : 33 ≤ st) (h1 : st ≤ 4611686018427387903) : ∀ (xs : List ByteArray) (sg : Bool), (∀ x ∈ xs, x.size ≤ 500) → ∃ sg', Runs ⟨ctl, tbd ctl st xs, true, 0, sg, 0, .frm, true⟩ (evx ctl xs) ⟨ctl, ⟨#[]⟩, true, 0, sg', 0, .frm, true⟩
  | [], sg, _ => ⟨sg, .stop (frm_empty _ rfl)⟩
  | x :: xs, sg, h => by
    have hx := h x List.mem_cons_self
    obtain ⟨sg', hr⟩ := runs_tbd ctl st h0 h1 xs true (fun y hy => h y (List.mem_cons_of_mem _ hy))
    exact ⟨sg', runs_strange h0 h1 (by omega) (runs_fx ctl x hx (runs_strange h0 h1 (by decide) hr))⟩
def fst0 (ctl : Bool) : ByteArray := if ctl then (⟨#[0]⟩ : ByteArray) ++ framev 4 (⟨#[6, 1]⟩ : ByteArray) else framev 1 (⟨#[104]⟩ : ByteArray)
def ev0 (ctl : Bool) : S39 := if ctl then ⟨4, (⟨#[6, 1]⟩ : ByteArray)⟩ else ⟨1, (⟨#[104]⟩ : ByteArray)⟩
theorem beg_zero (t : ByteArray) (first strange : Bool) (left code : Int) : stepS ⟨true, (⟨#[0]⟩ : ByteArray) ++ t, first, left, strange, code, .beg, false⟩ = (⟨true, t, first, left, strange, code, .frm, true⟩, [], true) := by
  show begS _ = _
  have hz : ((⟨#[0]⟩ : ByteArray) ++ t).size = 1 + t.size := ByteArray.size_append
  have hb : bt ((⟨#[0]⟩ : ByteArray) ++ t) 0 = 0 := (bt_append_left2 (⟨#[0]⟩ : ByteArray) t 0 (by decide)).trans (by decide +kernel)
  have he : ((⟨#[0]⟩ : ByteArray) ++ t).extract 1 ((⟨#[0]⟩ : ByteArray) ++ t).size = t := ext_tail _ _ _ _ rfl (by rw [ByteArray.size_append])
  unfold begS
  dsimp only
  rw [if_neg (by omega), hb, if_neg (by simp), he]
theorem runs_first (ctl : Bool) (t : ByteArray) {l : List S39} {r' : RS} (hn : Runs ⟨ctl, t, true, 0, false, 0, .frm, true⟩ l r') : Runs { initR ctl with rest := (initR ctl).rest ++ (fst0 ctl ++ t) } (ev0 ctl :: l) r' := by
  have e : (initR ctl).rest ++ (fst0 ctl ++ t) = fst0 ctl ++ t := nil_app _
  rw [e]
  cases ctl
  · exact runs_whole (.inl rfl) rfl (by decide) (cont1 _) hn
  · have e2 : fst0 true ++ t = (⟨#[0]⟩ : ByteArray) ++ (framev 4 (⟨#[6, 1]⟩ : ByteArray) ++ t) := by
      show ((⟨#[0]⟩ : ByteArray) ++ framev 4 (⟨#[6, 1]⟩ : ByteArray)) ++ t = _
      rw [ByteArray.append_assoc]
    rw [e2]
    exact runs_step (beg_zero _ false false 0 0) (runs_whole (.inr (.inl rfl)) rfl (by decide) cont4 hn) _ rfl
theorem fst0_size (ctl : Bool) : (fst0 ctl).size ≤ 100 := by
  cases ctl
  · have := framev_size 1 (⟨#[104]⟩ : ByteArray) (by decide)
    have h0 : (⟨#[104]⟩ : ByteArray).size = 1 := rfl
    show (framev 1 (⟨#[104]⟩ : ByteArray)).size ≤ 100
    omega
  · have := framev_size 4 (⟨#[6, 1]⟩ : ByteArray) (by decide)
    have h0 : (⟨#[6, 1]⟩ : ByteArray).size = 2 := rfl
    have h1 : (⟨#[0]⟩ : ByteArray).size = 1 := rfl
    show ((⟨#[0]⟩ : ByteArray) ++ framev 4 (⟨#[6, 1]⟩ : ByteArray)).size ≤ 100
    rw [ByteArray.size_append]
    omega
theorem evx_len (ctl : Bool) : ∀ xs : List ByteArray, (evx ctl xs).length ≤ xs.length
  | [] => Nat.le_refl _
  | x :: xs => by
    have := evx_len ctl xs
    show (_ ++ evx ctl xs).length ≤ _
    rw [List.length_append, List.length_cons]
    split
    · simp; omega
    · split <;> simp <;> omega
end Go.Proofs.YtnnmdocdiedgiaaDoor.Reader
