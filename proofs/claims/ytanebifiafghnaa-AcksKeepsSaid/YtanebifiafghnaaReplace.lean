/- Layer 8: slices.Replace by one range, in an own row. -/
import Derived.Test.YtanebifiafghnaaInsert
namespace Go.Proofs.Ytanebifiafghnaa.Ack
open Go.RowKit Go.Deep Go.Proofs.YtanebifiafghnaaW.PrintWords Go.Proofs.YtanebifiafghnaaW.PrintLast Go.Proofs.YtanebifiafghnaaW.PrintMore Go.Proofs.Ytanebifiafghnaa.PAcksRight Go.Proofs.Ytanebifiafghnaa
set_option linter.unusedVariables false
set_option linter.unusedSimpArgs false
theorem insert_c (W : World) (base : Nat) (ok : Nat → Prop) (v : Value) (l : List S35) (x : S35) (vb i : Nat) (hR : Kd.R k35 35 W base ok v l) (hx : W.heap[vb]? = some (.cells (rc x).toArray 35 (0, 0))) (hne : some vb ≠ v.ownBlock) (hl : l.length ≤ 100000) (hi : i ≤ l.length) (hbase : base ≤ W.heap.size) (hok : ∀ k, W.heap.size ≤ k → ok k) :
    Calls Try.prog 31 #[v, .int .i64 i, .slice (some ⟨vb, 0, none⟩) 1 1] W fun e w' => Ins W w' base ok v (l.take i ++ x :: l.drop i) e := by
  rcases Nat.lt_or_ge i l.length with h | h
  · obtain ⟨g, c, rfl, -, -, -⟩ := Kd.R_form hR (by omega)
    rcases Nat.lt_or_ge c (l.length + 1) with hc | hc
    · exact insert_grow W base g c ok l x vb i hR hx hl h hc hbase hok
    · exact insert_room W base g c ok l x vb i hR hx (fun he => hne (by rw [he]; rfl)) hl h hc
  · obtain rfl : i = l.length := by omega
    rw [List.take_length, List.drop_length]
    exact insert_end W base ok v l x vb hR hx hl hbase hok
theorem wrote_get {cur cur' : Array Value} {o k : Nat} {vs : List Value} (h : cur'.toList = cur.toList.take o ++ vs ++ cur.toList.drop (o + vs.length)) (ho : o + vs.length ≤ cur.size) (hk : o + vs.length ≤ k) : cur'[k]? = cur[k]? := by
  have hl : (cur.toList.take o ++ vs).length = o + vs.length := by rw [List.length_append, List.length_take, Array.length_toList]; omega
  rw [← Array.getElem?_toList, h, List.getElem?_append_right (by omega), hl, List.getElem?_drop, show o + vs.length + (k - (o + vs.length)) = k by omega, Array.getElem?_toList]
theorem run_clear0 (w : World) (ty : TypeId) (A : Option Addr) (c : Nat) : (Builtin.clear_ #[22] ty #[.slice A 0 c]).run Try.prog w = .ok (.tuple #[]) w := by
  cases A <;> simp [Builtin.clear_, run_underlying Try.underlying22]
structure RepF (n i j : Nat) : Prop where
  z1 : ((i : Int) == (j : Int)) = decide (i = j)
  q1 : ((0 : Int) ≤ (i : Int)) = True
  q2 : ((i : Int) ≤ (j : Int)) = True
  q3 : ((j : Int) ≤ (n : Int)) = True
  q4 : ((i : Int) ≤ (n : Int)) = True
  q5 : ((0 : Int) ≤ (j : Int)) = True
theorem repF {n i j : Nat} (hi : i ≤ j) (hj : j ≤ n) : RepF n i j :=
  ⟨by
    by_cases h : i = j
    · subst h; simp
    · rw [decide_eq_false h]; exact beq_eq_false_iff_ne.2 (by omega), eq_true (by omega), eq_true (by omega), eq_true (by omega), eq_true (by omega), eq_true (by omega)⟩
set_option maxHeartbeats 8000000 in
set_option maxRecDepth 100000 in
theorem replace_same (W : World) (base : Nat) (ok : Nat → Prop) (v : Value) (l : List S35) (x : S35) (vb i : Nat) (hR : Kd.R k35 35 W base ok v l) (hx : W.heap[vb]? = some (.cells (rc x).toArray 35 (0, 0))) (hne : some vb ≠ v.ownBlock) (hl : l.length ≤ 100000) (hi : i ≤ l.length) (hbase : base ≤ W.heap.size) (hok : ∀ k, W.heap.size ≤ k → ok k) :
    Calls Try.prog 25 #[v, .int .i64 i, .int .i64 i, .slice (some ⟨vb, 0, none⟩) 1 1] W fun e w' => Ins W w' base ok v (l.take i ++ x :: l.drop i) e := by
  have hins := insert_c W base ok v l x vb i hR hx hne hl hi hbase hok
  have hnc := (Kd.R_reads hR)
  obtain ⟨A, c, rfl, hnc, -⟩ := hnc
  have HI := Aside0.mk hins
  obtain ⟨-, q1, q2, q3, q4, q5⟩ := repF (n := l.length) (Nat.le_refl i) hi
  have hic := eq_true (show (i : Int) ≤ (c : Int) by omega)
  clear hR hx hne hl hi hbase hok hins
  go_enter Try.func25, Try.ntmps25
  go_wp2_with (go_at_call 31; (with_reducible refine (HI.out).mono ?_); rintro e_ w2 ⟨v2, rfl, h2⟩; have H2 := Aside0.mk h2; clear h2)
  all_goals go_ret
  all_goals exact ⟨_, rfl, H2.out.1, by rw [own_cap A _ _ l.length c]; exact H2.out.2.1, by rw [own_cap A _ _ l.length c]; exact H2.out.2.2⟩
structure EndF (n c i : Nat) : Prop where
  z1 : ((i : Int) == (n : Int)) = false
  z2 : ¬ ((i : Int) = (n : Int))
  z3 : (i == n) = false
  q1 : ((0 : Int) ≤ (i : Int)) = True
  q2 : ((i : Int) ≤ (n : Int)) = True
  q3 : ((i : Int) ≤ (c : Int)) = True
  q4 : ((i : Int) + 1 ≤ (n : Int)) = True
  q5 : ((0 : Int) ≤ (i : Int) + 1) = True
  q6 : (c = i) = False
  q7 : ((i : Int) + 1).toNat = i + 1
  q8 : ((n : Int) ≤ (n : Int)) = True
  q9 : ((n : Int) ≤ (c : Int)) = True
  q10 : ((0 : Int) ≤ (n : Int)) = True
theorem endF {n c i : Nat} (hi : i < n) (hc : n ≤ c) : EndF n c i :=
  ⟨beq_eq_false_iff_ne.2 (by omega), by omega, beq_eq_false_iff_ne.2 (by omega), eq_true (by omega), eq_true (by omega), eq_true (by omega), eq_true (by omega), eq_true (by omega), eq_false (by omega), by omega, eq_true (by omega), eq_true (by omega), eq_true (by omega)⟩
set_option maxHeartbeats 8000000 in
set_option maxRecDepth 100000 in
theorem replace_end (W : World) (base g c : Nat) (ok : Nat → Prop) (l : List S35) (x : S35) (vb i : Nat) (hR : Kd.R k35 35 W base ok (.slice (some ⟨g, 0, none⟩) l.length c) l) (hx : W.heap[vb]? = some (.cells (rc x).toArray 35 (0, 0))) (hne : vb ≠ g) (hl : l.length ≤ 100000) (hi : i < l.length) :
    Calls Try.prog 25 #[.slice (some ⟨g, 0, none⟩) l.length c, .int .i64 i, .int .i64 l.length, .slice (some ⟨vb, 0, none⟩) 1 1] W fun e w' => Ins W w' base ok (.slice (some ⟨g, 0, none⟩) l.length c) (l.take i ++ [x]) e := by
  obtain ⟨cur, hh, hb, hog, -, hnc, hcm, hcs, htk⟩ := R_open hR
  have hlen : cur.toList.length = c * 2 := by rw [Array.length_toList, hcs]
  have htl : (flat (l.take i)).length = i * 2 := by rw [flat_len, List.length_take, Nat.min_eq_left (by omega)]
  obtain ⟨i0, hi0, hzz⟩ := Option.map_eq_some_iff.1 info35_
  simp only [Prod.mk.injEq] at hzz
  obtain ⟨hz0, hzs, hzb⟩ := hzz
  have hap : ∀ ty, (Builtin.append_ #[22, 22] ty #[.slice (some ⟨g, 0, none⟩) i c, .slice (some ⟨vb, 0, none⟩) 1 1]).run Try.prog W = .ok (.slice (some ⟨g, 0, none⟩) (i + 1) c) (W.setCells g (i * 2) (rc x)) := fun ty => by
    have h := run_append_room_cells (P := Try.prog) (w := W) 22 ty 35 i0 Try.underlying22 hi0 g 0 i c ⟨vb, 0, none⟩ 1 1 (rc x) (by rw [hzs]; rfl) (fun j v hj => by rw [add0, cell_of hx]; simpa using hj) (fun v hv => flat_one [x] v (by rw [flat_cons]; exact List.mem_append_left _ hv)) (by omega)
      (fun j hj => by have hj2 : j < 2 := hj; rw [hzs, cell_of hh, Array.getElem?_eq_getElem (by omega)]; rfl) (fun j hj => frozen_of hh)
    rw [hzs, Nat.zero_add] at h
    exact h
  obtain ⟨cur1, hh1, hs1, ht1, hg1⟩ := wrote (vs := rc x) (o := i * 2) hh (by show i * 2 + 2 ≤ _; omega)
  obtain ⟨W1, hW1⟩ : ∃ W1, W.setCells g (i * 2) (rc x) = W1 := ⟨_, rfl⟩
  rw [hW1] at hh1 hg1
  simp only [hW1] at hap
  have hl2 : (l.take i ++ [x]).length = i + 1 := by rw [List.length_append, List.length_take, Nat.min_eq_left (by omega)]; rfl
  have e1 : cur.toList.take (i * 2) = flat (l.take i) := by rw [flat_take l i (by omega), ← htk, List.take_take, Nat.min_eq_left (by omega)]
  have e2 : flat (l.take i ++ [x]) = flat (l.take i) ++ rc x := by rw [flat_app]; rfl
  have hR1 := R_shut (l := l.take i ++ [x]) (ok := ok) (c := c) hh1 hb hog (by omega) hcm (by omega) (by
    rw [ht1, e1, hl2, e2]
    exact List.take_left' (by rw [List.length_append, htl]; show _ + 2 = _; omega))
  rw [hl2] at hR1
  have HAP := Aside0.mk hap
  obtain ⟨z1, z2, z3, q1, q2, q3, q4, q5, q6, q7, q8, q9, q10⟩ := endF hi hnc
  rcases Nat.lt_or_ge (i + 1) l.length with hlt | hge
  · have hclr : ∀ ty c', (Builtin.clear_ #[22] ty #[.slice (some ⟨g, (i + 1) * 2, none⟩) (l.length - (i + 1)) c']).run Try.prog W1 = .ok (.tuple #[]) (W1.setCells g ((i + 1) * 2) (List.replicate ((l.length - (i + 1)) * 2) (Value.int .i64 0))) := fun ty c' =>
      run_clear2 W1 ty g ((i + 1) * 2) (l.length - (i + 1)) c' (by omega) (fun j hj => by rw [cell_of hh1, Array.getElem?_eq_getElem (by omega)]; rfl) (fun j hj => frozen_of hh1)
    obtain ⟨cur2, hh2, hs2, ht2, hg2⟩ := wrote (vs := List.replicate ((l.length - (i + 1)) * 2) (Value.int .i64 0)) (o := (i + 1) * 2) hh1 (by rw [List.length_replicate]; omega)
    have hR2 := R_shut (l := l.take i ++ [x]) (ok := ok) (c := c) hh2 hb hog (by omega) hcm (by omega) (by
      have hl1 : cur1.toList.length = c * 2 := by rw [Array.length_toList, hs1, hcs]
      rw [ht2, hl2, List.append_assoc, List.take_append_of_le_length (by rw [List.length_take]; omega), List.take_take, Nat.min_self, ht1, e1, e2]
      exact List.take_left' (by rw [List.length_append, htl]; show _ + 2 = _; omega))
    rw [hl2] at hR2
    have HF := Aside0.mk (show Ins W (W1.setCells g ((i + 1) * 2) (List.replicate ((l.length - (i + 1)) * 2) (Value.int .i64 0))) base ok (.slice (some ⟨g, 0, none⟩) l.length c) (l.take i ++ [x]) (.returned (.slice (some ⟨g, 0, none⟩) (i + 1) c)) from ⟨_, rfl, hR2, grown_then hg1 hg2, .inl rfl⟩)
    have HC := Aside0.mk hclr
    have d1 : decide ((i : Int) + 1 < (l.length : Int)) = true := decide_eq_true (by omega)
    have d2 : decide (((i + 1 : Nat) : Int) < (l.length : Int)) = true := decide_eq_true (by omega)
    have d3 : decide (i + 1 < l.length) = true := decide_eq_true hlt
    have d4 := eq_false (show ¬ c = i + 1 by omega)
    clear hR hh hb hog hnc hcm hcs htk hlen htl hi0 hzs hzb hz0 hap hh1 hs1 ht1 hg1 hW1 hl2 e1 e2 hR1 hclr hh2 hs2 ht2 hg2 hR2 hlt hx hne hl hi
    go_enter Try.func25, Try.ntmps25
    have hclr := HC.out
    go_wp2_with (at_builtin; refine Lib.wpList_append_run _ rfl (.tmp 32) (.tmp 33) _ _ rfl (.slice (some ⟨g, 0, none⟩) i c) (.slice (some ⟨vb, 0, none⟩) 1 1) rfl rfl _ _ (HAP.out _) ?_)
    go_ret
    exact HF.out
  · have HF := Aside0.mk (show Ins W W1 base ok (.slice (some ⟨g, 0, none⟩) l.length c) (l.take i ++ [x]) (.returned (.slice (some ⟨g, 0, none⟩) (i + 1) c)) from ⟨_, rfl, hR1, hg1, .inl rfl⟩)
    have d1 : decide ((i : Int) + 1 < (l.length : Int)) = false := decide_eq_false (by omega)
    have d2 : decide (((i + 1 : Nat) : Int) < (l.length : Int)) = false := decide_eq_false (by omega)
    have d3 : decide (i + 1 < l.length) = false := decide_eq_false (by omega)
    clear hR hh hb hog hnc hcm hcs htk hlen htl hi0 hzs hzb hz0 hap hh1 hs1 ht1 hg1 hW1 hl2 e1 e2 hR1 hge hx hne hl hi
    go_enter Try.func25, Try.ntmps25
    go_wp2_with (at_builtin; refine Lib.wpList_append_run _ rfl (.tmp 32) (.tmp 33) _ _ rfl (.slice (some ⟨g, 0, none⟩) i c) (.slice (some ⟨vb, 0, none⟩) 1 1) rfl rfl _ _ (HAP.out _) ?_)
    go_ret
    exact HF.out
structure MidF (n c i j tot : Nat) : Prop where
  z1 : ((i : Int) == (j : Int)) = false
  z2 : (i == j) = false
  z3 : ((j : Int) == (n : Int)) = false
  z4 : (j == n) = false
  q1 : ((0 : Int) ≤ (i : Int)) = True
  q2 : ((i : Int) ≤ (j : Int)) = True
  q3 : ((j : Int) ≤ (n : Int)) = True
  q4 : ((j : Int) ≤ (c : Int)) = True
  q5 : ((i : Int) ≤ (c : Int)) = True
  q6 : ((i : Int) ≤ (n : Int)) = True
  q7 : ((0 : Int) ≤ (j : Int)) = True
  q8 : ((0 : Int) ≤ (tot : Int)) = True
  q9 : ((tot : Int) ≤ (c : Int)) = True
  q10 : ((tot : Int) ≤ (n : Int)) = True
  q11 : ((i : Int) ≤ (tot : Int)) = True
  q12 : ((0 : Int) ≤ (i : Int) + 1) = True
  q13 : ((i : Int) + 1 ≤ (tot : Int)) = True
  q14 : ((i : Int) + 1).toNat = i + 1
  w1 : wrap64 ((i : Int) + 1) = (i : Int) + 1 ∧ IntKind.i64.wrap ((i : Int) + 1) = (i : Int) + 1
  w2 : wrap64 ((i : Int) + 1 + ((n - j : Nat) : Int)) = (tot : Int) ∧ IntKind.i64.wrap ((i : Int) + 1 + ((n - j : Nat) : Int)) = (tot : Int)
  d1 : decide ((tot : Int) > (c : Int)) = false
  d2 : decide ((c : Int) < (tot : Int)) = false
  d3 : decide ((i : Int) + 1 ≤ (j : Int)) = true
  d4 : decide (i + 1 ≤ j) = true
  c1 : (c = i) = False
  c2 : (c = j) = False
  c3 : (c = i + 1) = False
  d5 : decide (c < tot) = false
theorem midF {n c i j tot : Nat} (hi : i < j) (hj : j < n) (hc : n ≤ c) (hl : n ≤ 100000) (ht : tot = i + 1 + (n - j)) : MidF n c i j tot :=
  ⟨beq_eq_false_iff_ne.2 (by omega), beq_eq_false_iff_ne.2 (by omega), beq_eq_false_iff_ne.2 (by omega), beq_eq_false_iff_ne.2 (by omega), eq_true (by omega), eq_true (by omega), eq_true (by omega), eq_true (by omega), eq_true (by omega), eq_true (by omega), eq_true (by omega), eq_true (by omega), eq_true (by omega), eq_true (by omega), eq_true (by omega), eq_true (by omega), eq_true (by omega), by omega,
   w_of (by omega) (by omega), by rw [show (i : Int) + 1 + ((n - j : Nat) : Int) = (tot : Int) by omega]; exact w_of (by omega) (by omega), decide_eq_false (by omega), decide_eq_false (by omega), decide_eq_true (by omega), decide_eq_true (by omega), eq_false (by omega), eq_false (by omega), eq_false (by omega), decide_eq_false (by omega)⟩
set_option maxHeartbeats 8000000 in
set_option maxRecDepth 100000 in
theorem replace_mid (W : World) (base g c : Nat) (ok : Nat → Prop) (l : List S35) (x : S35) (vb i j : Nat) (hR : Kd.R k35 35 W base ok (.slice (some ⟨g, 0, none⟩) l.length c) l) (hx : W.heap[vb]? = some (.cells (rc x).toArray 35 (0, 0))) (hne : vb ≠ g) (hl : l.length ≤ 100000) (hi : i < j) (hj : j < l.length) :
    Calls Try.prog 25 #[.slice (some ⟨g, 0, none⟩) l.length c, .int .i64 i, .int .i64 j, .slice (some ⟨vb, 0, none⟩) 1 1] W fun e w' => Ins W w' base ok (.slice (some ⟨g, 0, none⟩) l.length c) (l.take i ++ x :: l.drop j) e := by
  obtain ⟨cur, hh, hb, hog, -, hnc, hcm, hcs, htk⟩ := R_open hR
  have hlen : cur.toList.length = c * 2 := by rw [Array.length_toList, hcs]
  have hcells : ∀ k, k < l.length * 2 → cur[k]? = (flat l)[k]? := fun k hk => by
    rw [← htk, List.getElem?_take, if_pos hk, Array.getElem?_toList]
  have htl : (flat (l.take i)).length = i * 2 := by rw [flat_len, List.length_take, Nat.min_eq_left (by omega)]
  have hdr : flat (l.drop j) = (flat l).drop (j * 2) := flat_drop l j (by omega)
  have hdl : (flat (l.drop j)).length = (l.length - j) * 2 := by rw [flat_len, List.length_drop]
  obtain ⟨tot, htot⟩ : ∃ tot, tot = i + 1 + (l.length - j) := ⟨_, rfl⟩
  have hcp1 : ∀ ty dc, (Builtin.copy_ #[22, 22] ty #[.slice (some ⟨g, i * 2, none⟩) (tot - i) dc, .slice (some ⟨vb, 0, none⟩) 1 1]).run Try.prog W.drew = .ok (goInt 1) (W.drew.setCells g (i * 2) (rc x)) := fun ty dc => by
    have h := run_copy2 W.drew ty g (i * 2) (tot - i) dc ⟨vb, 0, none⟩ 1 1 (rc x) (by show 2 = _; simp only [Nat.min_def]; split <;> omega)
      (fun k v hk => by rw [add0, cell_of (w := W.drew) hx]; simpa using hk)
      (fun k hk => by have hj2 : k < 2 := hk; rw [cell_of (w := W.drew) hh, Array.getElem?_eq_getElem (by omega)]; rfl) (fun k hk => frozen_of (w := W.drew) hh) (fun v hv => flat_one [x] v (by rw [flat_cons]; exact List.mem_append_left _ hv))
    rw [show Nat.min 1 (tot - i) = 1 by simp only [Nat.min_def]; split <;> omega] at h
    exact h
  obtain ⟨cur1, hh1, hs1, ht1, hg1⟩ := wrote (w := W.drew) (vs := rc x) (o := i * 2) hh (by show i * 2 + 2 ≤ _; omega)
  obtain ⟨W1, hW1⟩ : ∃ W1, W.drew.setCells g (i * 2) (rc x) = W1 := ⟨_, rfl⟩
  rw [hW1] at hh1 hg1
  simp only [hW1] at hcp1
  have hcells1 : ∀ k, (i + 1) * 2 ≤ k → k < l.length * 2 → cur1[k]? = (flat l)[k]? := fun k hk1 hk => by
    rw [wrote_get ht1 (by show i * 2 + 2 ≤ _; omega) (by show i * 2 + 2 ≤ k; omega)]
    exact hcells k hk
  have hcp2 : ∀ ty dc sc, (Builtin.copy_ #[22, 22] ty #[.slice (some ⟨g, (i + 1) * 2, none⟩) (tot - (i + 1)) dc, .slice (some ⟨g, j * 2, none⟩) (l.length - j) sc]).run Try.prog W1.drew = .ok (goInt ((l.length - j : Nat) : Int)) (W1.drew.setCells g ((i + 1) * 2) (flat (l.drop j))) := fun ty dc sc => by
    have h := run_copy2 W1.drew ty g ((i + 1) * 2) (tot - (i + 1)) dc ⟨g, j * 2, none⟩ (l.length - j) sc (flat (l.drop j)) (by rw [hdl]; simp only [Nat.min_def]; split <;> omega)
      (fun k v hk => by
        rw [addo, cell_of (w := W1.drew) hh1]
        have hkl : k < (flat (l.drop j)).length := (List.getElem?_eq_some_iff.1 hk).1
        rw [hdr, List.getElem?_drop] at hk
        rw [hcells1 _ (by omega) (by omega)]
        exact hk)
      (fun k hk => by rw [cell_of (w := W1.drew) hh1, Array.getElem?_eq_getElem (by omega)]; rfl) (fun k hk => frozen_of (w := W1.drew) hh1) (flat_one _)
    rw [show Nat.min (l.length - j) (tot - (i + 1)) = l.length - j by simp only [Nat.min_def]; split <;> omega] at h
    exact h
  obtain ⟨cur2, hh2, hs2, ht2, hg2⟩ := wrote (w := W1.drew) (vs := flat (l.drop j)) (o := (i + 1) * 2) hh1 (by omega)
  obtain ⟨W2, hW2⟩ : ∃ W2, W1.drew.setCells g ((i + 1) * 2) (flat (l.drop j)) = W2 := ⟨_, rfl⟩
  rw [hW2] at hh2 hg2
  simp only [hW2] at hcp2
  have hl2 : (l.take i ++ x :: l.drop j).length = tot := by rw [List.length_append, List.length_cons, List.length_take, List.length_drop]; omega
  have hlen1 : cur1.toList.length = c * 2 := by rw [Array.length_toList, hs1, hcs]
  have hpre : cur2.toList.take (tot * 2) = flat (l.take i ++ x :: l.drop j) := by
    have e0 : cur.toList.take (i * 2) = flat (l.take i) := by rw [flat_take l i (by omega), ← htk, List.take_take, Nat.min_eq_left (by omega)]
    have e1 : cur1.toList.take ((i + 1) * 2) = flat (l.take i) ++ rc x := by
      rw [ht1, e0]
      exact List.take_left' (by rw [List.length_append, htl]; show _ + 2 = _; omega)
    rw [ht2, e1, flat_app, flat_cons, ← List.append_assoc (flat (l.take i))]
    exact List.take_left' (by rw [List.length_append, List.length_append, htl, hdl]; show _ + 2 + _ = _; omega)
  have hgr : W.grownBy W2 (some g) := grown_then (⟨rfl, rfl, rfl, Nat.le_refl _, fun _ _ _ => rfl⟩ : W.grownBy W.drew (some g)) (grown_then hg1 (grown_then (⟨rfl, rfl, rfl, Nat.le_refl _, fun _ _ _ => rfl⟩ : W1.grownBy W1.drew (some g)) hg2))
  have hR2 := R_shut (l := l.take i ++ x :: l.drop j) (ok := ok) (c := c) hh2 hb hog (by omega) hcm (by omega) (by rw [hl2]; exact hpre)
  rw [hl2] at hR2
  have HNC := Aside0.mk hnc
  have HCP1 := Aside0.mk hcp1
  have HCP2 := Aside0.mk hcp2
  have hmid := midF (tot := tot) hi hj hnc hl htot
  have mixed : Try.prog.follows Departure.mixedOrders = true := by kernel_rfl
  rcases Nat.lt_or_ge tot l.length with hlt | hge
  · have hclr : ∀ ty c', (Builtin.clear_ #[22] ty #[.slice (some ⟨g, tot * 2, none⟩) (l.length - tot) c']).run Try.prog W2 = .ok (.tuple #[]) (W2.setCells g (tot * 2) (List.replicate ((l.length - tot) * 2) (Value.int .i64 0))) := fun ty c' =>
      run_clear2 W2 ty g (tot * 2) (l.length - tot) c' (by omega) (fun k hk => by rw [cell_of hh2, Array.getElem?_eq_getElem (by omega)]; rfl) (fun k hk => frozen_of hh2)
    obtain ⟨cur3, hh3, hs3, ht3, hg3⟩ := wrote (vs := List.replicate ((l.length - tot) * 2) (Value.int .i64 0)) (o := tot * 2) hh2 (by rw [List.length_replicate]; omega)
    have hlen2 : cur2.toList.length = c * 2 := by rw [Array.length_toList, hs2, hs1, hcs]
    have hR3 := R_shut (l := l.take i ++ x :: l.drop j) (ok := ok) (c := c) hh3 hb hog (by omega) hcm (by omega) (by
      rw [ht3, hl2, List.append_assoc, List.take_append_of_le_length (by rw [List.length_take]; omega), List.take_take, Nat.min_self]
      exact hpre)
    rw [hl2] at hR3
    have HF := Aside0.mk (show Ins W (W2.setCells g (tot * 2) (List.replicate ((l.length - tot) * 2) (Value.int .i64 0))) base ok (.slice (some ⟨g, 0, none⟩) l.length c) (l.take i ++ x :: l.drop j) (.returned (.slice (some ⟨g, 0, none⟩) tot c)) from ⟨_, rfl, hR3, grown_then hgr hg3, .inl rfl⟩)
    have HC := Aside0.mk hclr
    have c4 := eq_false (show ¬ c = tot by omega)
    obtain ⟨z1, z2, z3, z4, q1, q2, q3, q4, q5, q6, q7, q8, q9, q10, q11, q12, q13, q14, ⟨w1, w2⟩, ⟨w3, w4⟩, d1, d2, d3, d4, c1, c2, c3, d5⟩ := hmid
    clear hR hh hb hog hnc hcm hcs htk hlen htl hcells hdr hdl htot hcp1 hh1 hs1 ht1 hg1 hW1 hcells1 hcp2 hh2 hs2 ht2 hg2 hW2 hl2 hlen1 hpre hgr hR2 hclr hh3 hs3 ht3 hg3 hlen2 hR3 hlt hx hne hl hi hj
    go_enter Try.func25, Try.ntmps25
    go_wp2_with (fail)
    go_region
    simp only [Exit.then]
    have hcp1 := HCP1.out
    go_upto_region 18 with (fail)
    go_region_law_o (refine step_copy_runI rfl (.tmp 103) (.tmp 106) 22 22 rfl (.slice (some ⟨g, (i + 1) * 2, none⟩) (tot - (i + 1)) (c - (i + 1))) (.slice (some ⟨g, j * 2, none⟩) (l.length - j) (c - j)) (by simp [Act.eval, Act.put]) (by simp [Act.eval, Act.put]) (HCP2.out _ _ _) ?_)
    simp only [Exit.then]
    have hclr := HC.out
    go_wp2_with (fail)
    go_ret
    exact HF.out
  · have HF := Aside0.mk (show Ins W W2 base ok (.slice (some ⟨g, 0, none⟩) l.length c) (l.take i ++ x :: l.drop j) (.returned (.slice (some ⟨g, 0, none⟩) tot c)) from ⟨_, rfl, hR2, hgr, .inl rfl⟩)
    have HC := Aside0.mk (fun ty A c' => run_clear0 W2 ty A c')
    obtain rfl : tot = l.length := by omega
    obtain ⟨z1, z2, z3, z4, q1, q2, q3, q4, q5, q6, q7, q8, q9, q10, q11, q12, q13, q14, ⟨w1, w2⟩, ⟨w3, w4⟩, d1, d2, d3, d4, c1, c2, c3, d5⟩ := hmid
    clear hR hh hb hog hnc hcm hcs htk hlen htl hcells hdr hdl htot hcp1 hh1 hs1 ht1 hg1 hW1 hcells1 hcp2 hh2 hs2 ht2 hg2 hW2 hl2 hlen1 hpre hgr hR2 hge hx hne hl hi hj
    rcases Nat.eq_or_lt_of_le (show l.length ≤ c from HNC.out) with hcl | hcl
    · subst hcl
      go_enter Try.func25, Try.ntmps25
      go_wp2_with (fail)
      go_region
      simp only [Exit.then]
      have hcp1 := HCP1.out
      go_upto_region 18 with (fail)
      go_region_law_o (refine step_copy_runI rfl (.tmp 103) (.tmp 106) 22 22 rfl (.slice (some ⟨g, (i + 1) * 2, none⟩) (l.length - (i + 1)) (l.length - (i + 1))) (.slice (some ⟨g, j * 2, none⟩) (l.length - j) (l.length - j)) (by simp [Act.eval, Act.put]) (by simp [Act.eval, Act.put]) (HCP2.out _ _ _) ?_)
      simp only [Exit.then]
      have hclr := HC.out
      go_wp2_with (fail)
      go_ret
      exact HF.out
    · have c4 := eq_false (show ¬ c = l.length by omega)
      clear hcl
      go_enter Try.func25, Try.ntmps25
      go_wp2_with (fail)
      go_region
      simp only [Exit.then]
      have hcp1 := HCP1.out
      go_upto_region 18 with (fail)
      go_region_law_o (refine step_copy_runI rfl (.tmp 103) (.tmp 106) 22 22 rfl (.slice (some ⟨g, (i + 1) * 2, none⟩) (l.length - (i + 1)) (c - (i + 1))) (.slice (some ⟨g, j * 2, none⟩) (l.length - j) (c - j)) (by simp [Act.eval, Act.put]) (by simp [Act.eval, Act.put]) (HCP2.out _ _ _) ?_)
      simp only [Exit.then]
      have hclr := HC.out
      go_wp2_with (fail)
      go_ret
      exact HF.out
theorem replace_c (W : World) (base : Nat) (ok : Nat → Prop) (v : Value) (l : List S35) (x : S35) (vb i j : Nat) (hR : Kd.R k35 35 W base ok v l) (hx : W.heap[vb]? = some (.cells (rc x).toArray 35 (0, 0))) (hne : some vb ≠ v.ownBlock) (hl : l.length ≤ 100000) (hi : i ≤ j) (hj : j ≤ l.length) (hbase : base ≤ W.heap.size) (hok : ∀ k, W.heap.size ≤ k → ok k) :
    Calls Try.prog 25 #[v, .int .i64 i, .int .i64 j, .slice (some ⟨vb, 0, none⟩) 1 1] W fun e w' => Ins W w' base ok v (l.take i ++ x :: l.drop j) e := by
  rcases Nat.eq_or_lt_of_le hi with h | h
  · subst h
    exact replace_same W base ok v l x vb i hR hx hne hl hj hbase hok
  · obtain ⟨g, c, rfl, -, -, -⟩ := Kd.R_form hR (by omega)
    have hne2 : vb ≠ g := fun he => hne (by rw [he]; rfl)
    rcases Nat.eq_or_lt_of_le hj with h2 | h2
    · subst h2
      rw [List.drop_length]
      exact replace_end W base g c ok l x vb i hR hx hne2 hl h
    · exact replace_mid W base g c ok l x vb i j hR hx hne2 hl h h2
end Go.Proofs.Ytanebifiafghnaa.Ack
