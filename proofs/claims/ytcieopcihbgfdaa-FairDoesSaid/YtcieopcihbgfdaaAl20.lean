/- Layer 20: queues alone in a world; works. gen/mk_q20e.py writes this text. -/
import Derived.Test.YtcieopcihbgfdaaCn20
namespace Go.Proofs.Ytcieopcihbgfdaa.Fq
open Go.RowKit Go.Proofs.YtcieopcihbgfdaaW.PrintWords Go.Proofs.YtcieopcihbgfdaaW.PrintLast Go.Proofs.YtcieopcihbgfdaaW.PrintMore Go.Proofs.Ytcieopcihbgfdaa.PFairDoes Go.Proofs.Ytcieopcihbgfdaa Go.Proofs.Ytcieopcihbgfdaa.Fair
set_option linter.unusedVariables false
set_option linter.unusedSimpArgs false
/-- Queues in memory; all that was made since w0 may be theirs. -/
def FA (w0 wr : World) (g : Nat) (s : FS) : Prop := FO w0 wr wr (fun k => w0.heap.size ≤ k) g s
theorem FA.bel {w0 wr : World} {g : Nat} {s : FS} (h : FA w0 wr g s) : Below w0.heap.size w0 wr := FO.bel h
theorem FA.of {w0 W w' : World} {g : Nat} {s : FS} {ok : Nat → Prop} (h : FO w0 W w' ok g s) (hok : ∀ k, ok k → w0.heap.size ≤ k) (hs : w0.heap.size ≤ W.heap.size) : FA w0 w' g s := h.again hok (fun k hk _ => Nat.le_trans hs hk)
theorem FA.below {w0 W w' : World} {g : Nat} {s : FS} (h : FA w0 W g s) (hb : Below W.heap.size W w') : FA w0 w' g s := FA.of (FO.below h hb) (fun _ hk => hk) h.bel.size
theorem new_a (lim qu : Int) (w0 W : World) (hB : Below w0.heap.size w0 W) : Calls Try.prog 9 #[.int .i64 lim, .int .i64 qu] W fun e w' => ∃ g, e = .returned (.pointer (some ⟨g, 0, none⟩)) ∧ FA w0 w' g ⟨cutV lim, cutV qu, [], false⟩ := by
  refine (new_c lim qu w0 W hB).mono ?_
  rintro e w1 ⟨g, rfl, _, h⟩
  exact ⟨g, rfl, FA.of h (fun _ hk => hk.elim) hB.size⟩
theorem push_a {g : Nat} {s : FS} {w0 W : World} (id : Int) (t : ByteArray) (h : FA w0 W g s) (hi : FI s) (hk : (Lit.int .i64 id).wf = true) (hl : s.st.length ≤ 100000) :
    Calls Try.prog 10 #[.pointer (some ⟨g, 0, none⟩), .int .i64 id, .string t] W fun e w' => e = .returned (.int .i64 (pushE s id t)) ∧ FA w0 w' g (pushS s id t) := by
  refine (push_c g id t s _ w0 W h hi hk hl).mono ?_
  rintro e w1 ⟨rfl, h1⟩
  exact ⟨rfl, FA.of h1 (fun _ hk => hk) h.bel.size⟩
theorem next_a {g : Nat} {s : FS} {w0 W : World} {i : Int} {t : ByteArray} {b : Bool} {s' : FS} (h : FA w0 W g s) (hi : FI s) (hl : s.st.length ≤ 100000) (hn : nextV s = ((i, t, b), s')) :
    Calls Try.prog 11 #[.pointer (some ⟨g, 0, none⟩)] W fun e w' => e = .returned (.tuple #[.int .i64 i, .string t, .bool b]) ∧ FA w0 w' g s' := by
  refine (next_c g s _ w0 W h hi hl).mono ?_
  rintro e w1 ⟨rfl, h1⟩
  rw [hn] at h1 ⊢
  exact ⟨rfl, FA.of h1 (fun _ hk => hk) h.bel.size⟩
theorem drop_a {g : Nat} {s : FS} {w0 W : World} (id : Int) (h : FA w0 W g s) (hi : FI s) (hk : (Lit.int .i64 id).wf = true) (hl : s.st.length ≤ 100000) :
    Calls Try.prog 16 #[.pointer (some ⟨g, 0, none⟩), .int .i64 id] W fun e w' => e = .returned (.int .i64 (dropE s id)) ∧ FA w0 w' g (dropS s id) := by
  refine (drop_c g id s _ w0 W h hi hk hl).mono ?_
  rintro e w1 ⟨rfl, h1⟩
  exact ⟨rfl, FA.of h1 (fun _ hk => hk) h.bel.size⟩
theorem count_a {g : Nat} {s : FS} {w0 W : World} (h : FA w0 W g s) (hi : FI s) (hl : s.st.length ≤ 100000) :
    Calls Try.prog 12 #[.pointer (some ⟨g, 0, none⟩)] W fun e w' => e = .returned (.int .i64 (countL s.st : Int)) ∧ FA w0 w' g s := by
  refine (count_c g s _ w0 W h hi hl).mono ?_
  rintro e w1 ⟨rfl, h1, _⟩
  exact ⟨rfl, FA.of h1 (fun _ hk => hk) h.bel.size⟩
theorem fi_new {lim qu : Int} (h0 : 1 ≤ lim) (h1 : lim ≤ 1048576) (h2 : 1 ≤ qu) (h3 : qu ≤ 1048576) : FI ⟨lim, qu, [], false⟩ :=
  ⟨h0, h1, h2, h3, List.nodup_nil, (fun _ h => by cases h), (fun _ h => by cases h), (fun _ _ h => by cases h)⟩
theorem cutV_id {n : Int} (h0 : 1 ≤ n) (h1 : n ≤ 1048576) : cutV n = n := by
  unfold cutV mn mx
  rw [if_neg (by omega), if_neg (by omega)]
abbrev abc : ByteArray := ⟨#[97, 98, 99]⟩
abbrev bcd : ByteArray := ⟨#[98, 99, 100, 101, 102]⟩
def ws0 : FS := ⟨9, 4, [], false⟩
def ws1 : FS := ⟨9, 4, [⟨1, [abc], 0⟩], false⟩
def ws2 : FS := ⟨9, 4, [⟨1, [abc, abc], 0⟩], false⟩
def ws3 : FS := ⟨9, 4, [⟨1, [abc, abc], 0⟩, ⟨2, [bcd], 0⟩], false⟩
def ws4 : FS := ⟨9, 4, [⟨1, [abc], 1⟩, ⟨2, [bcd], 0⟩], true⟩
def ws5 : FS := ⟨9, 4, [⟨2, [bcd], 4⟩], false⟩
def ws6 : FS := ⟨9, 4, [], false⟩
theorem wp1 : pushS ws0 1 abc = ws1 := by kernel_rfl
theorem wp2 : pushS ws1 1 abc = ws2 := by kernel_rfl
theorem wp3 : pushS ws2 2 bcd = ws3 := by kernel_rfl
theorem we1 : pushE ws0 1 abc = 0 := by kernel_rfl
theorem we2 : pushE ws1 1 abc = 0 := by kernel_rfl
theorem we3 : pushE ws2 2 bcd = 0 := by kernel_rfl
theorem fi0 : FI ws0 := fi_new (by decide) (by decide) (by decide) (by decide)
theorem fi1 : FI ws1 := by rw [← wp1]; exact fi0.push (by decide)
theorem fi2 : FI ws2 := by rw [← wp2]; exact fi1.push (by decide)
theorem fi3 : FI ws3 := by rw [← wp3]; exact fi2.push (by decide)
theorem wn1 : nextV ws3 = ((1, abc, true), ws4) := by kernel_rfl
theorem wn2 : nextV ws4 = ((1, abc, true), ws5) := by kernel_rfl
theorem wn3 : nextV ws5 = ((2, bcd, true), ws6) := by kernel_rfl
theorem wn4 : nextV ws6 = ((0, ByteArray.empty, false), ws6) := by kernel_rfl
theorem fi4 : FI ws4 := by have := fi3.next; rw [wn1] at this; exact this
theorem fi5 : FI ws5 := by have := fi4.next; rw [wn2] at this; exact this
theorem fi6 : FI ws6 := by have := fi5.next; rw [wn3] at this; exact this
set_option maxHeartbeats 8000000 in
set_option maxRecDepth 100000 in
theorem works_c (w : World) : Calls Try.prog 8 #[] w fun e w' => e = .returned (.bool true) ∧ Below w.heap.size w w' := by
  go_enter Try.func8, Try.ntmps8
  go_wp2_with (first | (go_at_call 9; (with_reducible refine (new_a 9 4 w w (Below.refl _ _)).mono ?_); rintro e_ w0 ⟨g, rfl, h_⟩; have H0 := Aside0.mk (show FA w w0 g ws0 from h_); clear h_) | (go_at_call 10; (with_reducible refine (push_a 1 abc H0.out fi0 (by decide) (by decide)).mono ?_); rintro e_ w1 ⟨rfl, h_⟩; rw [wp1] at h_; have H1 := Aside0.mk h_; clear h_) | (go_at_call 10; (with_reducible refine (push_a 1 abc H1.out fi1 (by decide) (by decide)).mono ?_); rintro e_ w2 ⟨rfl, h_⟩; rw [wp2] at h_; have H2 := Aside0.mk h_; clear h_) | (go_at_call 10; (with_reducible refine (push_a 2 bcd H2.out fi2 (by decide) (by decide)).mono ?_); rintro e_ w3 ⟨rfl, h_⟩; rw [wp3] at h_; have H3 := Aside0.mk h_; clear h_) | (go_at_call 11; (with_reducible refine (next_a H3.out fi3 (by decide) wn1).mono ?_); rintro e_ w4 ⟨rfl, h_⟩; have H4 := Aside0.mk h_; clear h_) | (go_at_call 11; (with_reducible refine (next_a H4.out fi4 (by decide) wn2).mono ?_); rintro e_ w5 ⟨rfl, h_⟩; have H5 := Aside0.mk h_; clear h_) | (go_at_call 11; (with_reducible refine (next_a H5.out fi5 (by decide) wn3).mono ?_); rintro e_ w6 ⟨rfl, h_⟩; have H6 := Aside0.mk h_; clear h_) | (go_at_call 11; (with_reducible refine (next_a H6.out fi6 (by decide) wn4).mono ?_); rintro e_ w7 ⟨rfl, h_⟩; have H7 := Aside0.mk h_; clear h_))
  go_ret
  exact ⟨rfl, H7.out.bel⟩
end Go.Proofs.Ytcieopcihbgfdaa.Fq
