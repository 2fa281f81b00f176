/- Layer 8: sort.Search, whatever the function value: it finds where p turns. -/
import Derived.Test.YtanebifiafghnaaRows08
import Derived.LoopN
namespace Go.Proofs.Ytanebifiafghnaa.Ack
open Go.RowKit Go.Deep Go.Proofs.YtanebifiafghnaaW.PrintWords Go.Proofs.YtanebifiafghnaaW.PrintLast Go.Proofs.YtanebifiafghnaaW.PrintMore Go.Proofs.Ytanebifiafghnaa.PAcksRight Go.Proofs.Ytanebifiafghnaa
set_option linter.unusedVariables false
set_option linter.unusedSimpArgs false
theorem half_facts {lo hi : Nat} (h : lo < hi) (hh : hi ≤ 100000) : wrap64 ((lo : Int) + (hi : Int)) = (lo : Int) + (hi : Int) ∧ IntKind.i64.wrap ((lo : Int) + (hi : Int)) = (lo : Int) + (hi : Int) ∧ IntKind.u64.wrap ((lo : Int) + (hi : Int)) = (lo : Int) + (hi : Int) ∧ ((lo : Int) + (hi : Int)) / 2 = (((lo + hi) / 2 : Nat) : Int) ∧ wrap64 (((lo + hi) / 2 : Nat) : Int) = (((lo + hi) / 2 : Nat) : Int) ∧ IntKind.i64.wrap (((lo + hi) / 2 : Nat) : Int) = (((lo + hi) / 2 : Nat) : Int) ∧ IntKind.u64.wrap (((lo + hi) / 2 : Nat) : Int) = (((lo + hi) / 2 : Nat) : Int) ∧ wrap64 ((((lo + hi) / 2 : Nat) : Int) + 1) = (((lo + hi) / 2 + 1 : Nat) : Int) ∧ IntKind.i64.wrap ((((lo + hi) / 2 : Nat) : Int) + 1) = (((lo + hi) / 2 + 1 : Nat) : Int) := by
  have h1 : wrap64 ((lo : Int) + (hi : Int)) = (lo : Int) + (hi : Int) := by unfold wrap64; omega
  have h2 : wrap64 (((lo + hi) / 2 : Nat) : Int) = (((lo + hi) / 2 : Nat) : Int) := by unfold wrap64; omega
  have h3 : wrap64 ((((lo + hi) / 2 : Nat) : Int) + 1) = (((lo + hi) / 2 + 1 : Nat) : Int) := by unfold wrap64; omega
  exact ⟨h1, (i64_w _).trans h1, by show _ % 18446744073709551616 = _; omega, by omega, h2, (i64_w _).trans h2, by show _ % 18446744073709551616 = _; omega, h3, (i64_w _).trans h3⟩
set_option maxHeartbeats 8000000 in
set_option maxRecDepth 100000 in
theorem search_c (K : FuncId) (caps : Array Value) (n r : Nat) (p : Nat → Bool) (W : World) (eg : ∀ args w, (callFunc K args).run Try.prog w = .ok (.enter K args) w) (hn : n ≤ 100000)
    (hf : ∀ (m i : Nat), i < n → Calls Try.prog K (#[.int .i64 i] ++ caps) (W.drewN m) fun e w' => e = .returned (.bool (p i)) ∧ ∃ q, w' = (W.drewN m).drewN q)
    (hr0 : ∀ t, t < r → p t = false) (hr1 : ∀ t, r ≤ t → t < n → p t = true) (hrn : r ≤ n) :
    Calls Try.prog 22 #[.int .i64 n, .func (.func K) #[] caps] W fun e w' => e = .returned (.int .i64 r) ∧ Drawn0 W w' := by
  have HF := Aside0.mk hf
  have HR := Aside0.mk (And.intro hr0 (And.intro hr1 (And.intro hrn hn)))
  clear hf hr0 hr1 hrn hn
  go_enter Try.func22, Try.ntmps22
  go_wp2_with (fail)
  obtain ⟨w2, hw2⟩ : ∃ x, x = W := ⟨_, rfl⟩
  subst hw2
  go_loopw [5, 6] (fun v5 v6 wr => ∃ (lo hi m : Nat), v5 = .int .i64 (lo : Int) ∧ v6 = .int .i64 (hi : Int) ∧ Aside0 (lo ≤ r ∧ r ≤ hi ∧ hi ≤ n) ∧ Aside0 (wr = w2.drewN m)) (fun v5 v6 _ => (intOf v6 - intOf v5).toNat)
  case atStart => exact ⟨0, n, 0, rfl, rfl, ⟨⟨Nat.zero_le _, HR.out.2.2.1, Nat.le_refl _⟩⟩, ⟨rfl⟩⟩
  case round =>
    obtain ⟨lo, hi, m, rfl, rfl, HI, HM⟩ := hrel
    by_cases d1 : (lo : Int) < (hi : Int)
    · have M1 : decide ((lo : Int) < (hi : Int)) = true := decide_eq_true d1
      have M1' : decide (lo < hi) = true := decide_eq_true (by omega)
      have hc := HF.out m ((lo + hi) / 2) (by have := HI.out; omega)
      rw [← HM.out] at hc
      have HC := Aside0.mk hc
      have HJ := Aside0.mk d1
      have HH := Aside0.mk (show lo ≤ (lo + hi) / 2 ∧ (lo + hi) / 2 < hi by omega)
      have hw := half_facts (show lo < hi by omega) (by have := HI.out; have := HR.out.2.2.2; omega)
      generalize hh : (lo + hi) / 2 = h at hw HC HH
      have HW := Aside0.mk hw
      clear hc hh d1 hw
      cases hp : p h with
      | true =>
        have HP := Aside0.mk (show r ≤ h by
          rcases Nat.lt_or_ge h r with hl | hl
          · rw [HR.out.1 h hl] at hp; cases hp
          · exact hl)
        have HPV := Aside0.mk hp
        clear hp
        obtain ⟨w1_, w3_, w4_, w5_, w6_, w7_, w8_, w9_, w10_⟩ := HW.out
        go_wp2_with ((with_reducible refine (HC.out).mono ?_); rintro e_ w3 ⟨rfl, hq⟩; rw [HPV.out]; have HQ := Aside0.mk hq; clear hq)
        go_roundw
        case rel =>
          clear w1_ w3_ w4_ w5_ w6_ w7_ w8_ w10_
          obtain ⟨q, hq⟩ := HQ.out
          exact ⟨lo, h, m + q, rfl, rfl, ⟨⟨HI.out.1, HP.out, by have := HH.out; have := HI.out; omega⟩⟩, ⟨by rw [hq, HM.out, World.drewN_drewN]⟩⟩
        case measure => clear w1_ w3_ w4_ w5_ w6_ w7_ w8_ w9_ w10_; have := HH.out; simp [intOf]; omega
      | false =>
        have HP := Aside0.mk (show h + 1 ≤ r by
          rcases Nat.lt_or_ge h r with hl | hl
          · exact hl
          · rw [HR.out.2.1 h hl (by have := HH.out; have := HI.out; omega)] at hp; cases hp)
        have HPV := Aside0.mk hp
        clear hp
        obtain ⟨w1_, w3_, w4_, w5_, w6_, w7_, w8_, w9_, w10_⟩ := HW.out
        go_wp2_with ((with_reducible refine (HC.out).mono ?_); rintro e_ w3 ⟨rfl, hq⟩; rw [HPV.out]; have HQ := Aside0.mk hq; clear hq)
        go_roundw
        case rel =>
          clear w1_ w3_ w4_ w5_ w6_ w7_ w8_ w10_
          obtain ⟨q, hq⟩ := HQ.out
          exact ⟨h + 1, hi, m + q, by first | rfl | simp, rfl, ⟨⟨HP.out, HI.out.2.1, HI.out.2.2⟩⟩, ⟨by rw [hq, HM.out, World.drewN_drewN]⟩⟩
        case measure => clear w1_ w3_ w4_ w5_ w6_ w7_ w8_ w9_ w10_; have := HH.out; simp [intOf]; omega
    · have M1 : decide ((lo : Int) < (hi : Int)) = false := decide_eq_false d1
      have M1' : decide (lo < hi) = false := decide_eq_false (by omega)
      obtain rfl : lo = r := by have := HI.out; omega
      clear d1
      go_wp2_with (fail)
      go_ret
      exact ⟨rfl, m, HM.out⟩
end Go.Proofs.Ytanebifiafghnaa.Ack
