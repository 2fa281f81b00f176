/- Layer 8: slices.Insert of one range into an own row. -/
import Derived.Test.YtanebifiafghnaaRows08
import Derived.Shelf.Spec.SlicesInsert
namespace Go.Proofs.Ytanebifiafghnaa.Ack
open Go.RowKit Go.Deep Go.Proofs.YtanebifiafghnaaW.PrintWords Go.Proofs.YtanebifiafghnaaW.PrintLast Go.Proofs.YtanebifiafghnaaW.PrintMore Go.Proofs.Ytanebifiafghnaa.PAcksRight Go.Proofs.Ytanebifiafghnaa
set_option linter.unusedVariables false
set_option linter.unusedSimpArgs false
/-- What an insertion leaves. -/
structure Ins (W w' : World) (base : Nat) (ok : Nat → Prop) (v : Value) (l : List S35) (e : Ending) : Prop where
  out : ∃ v', e = .returned v' ∧ Kd.R k35 35 w' base ok v' l ∧ W.grownBy w' v.ownBlock ∧ (v'.ownBlock = v.ownBlock ∨ ∃ b, v'.ownBlock = some b ∧ W.heap.size ≤ b)
theorem own_cap (A : Option Addr) (n c n' c' : Nat) : (Value.slice A n c).ownBlock = (Value.slice A n' c').ownBlock := by cases A <;> rfl
theorem ov_false {w : World} {vb g o : Nat} {c1 cur : Array Value} (h1 : w.heap[vb]? = some (.cells c1 35 (0, 0))) (h2 : w.heap[g]? = some (.cells cur 35 (0, 0))) (hne : vb ≠ g) (hs : cur.size ≠ 0) (lb cb : Nat) :
    (callFunc 32 #[.slice (some ⟨vb, 0, none⟩) 1 1, .slice (some ⟨g, o, none⟩) lb cb]).run Try.prog w = .ok (.value (.bool false)) w := by
  rw [run_callFunc_extern Try.func32 (by kernel_rfl) (by kernel_rfl) (by kernel_rfl) (e := Extern.SlicesOverlaps.overlaps #[22, 22] #[4]) (by kernel_rfl),
    Lib.run_overlaps_apart w 22 4 35 Try.underlying22 2 (fun w => by go_simp) ⟨vb, 0, none⟩ ⟨g, o, none⟩ 1 1 lb cb hne 35 35 c1.size cur.size (by simp [World.shape?, h1]) (by simp [World.shape?, h2]) hs (blk_frozen h1 _) (blk_frozen h1 _)]
  rfl
set_option maxHeartbeats 8000000 in
set_option maxRecDepth 100000 in
theorem insert_end (W : World) (base : Nat) (ok : Nat → Prop) (v : Value) (l : List S35) (x : S35) (vb : Nat) (hR : Kd.R k35 35 W base ok v l) (hx : W.heap[vb]? = some (.cells (rc x).toArray 35 (0, 0))) (hl : l.length ≤ 100000) (hbase : base ≤ W.heap.size) (hok : ∀ k, W.heap.size ≤ k → ok k) :
    Calls Try.prog 31 #[v, .int .i64 l.length, .slice (some ⟨vb, 0, none⟩) 1 1] W fun e w' => Ins W w' base ok v (l ++ [x]) e := by
  obtain ⟨A, c, rfl⟩ := Kd.R_slice hR
  have hcx : Kd.C k35 W (some ⟨vb, 0, none⟩) 1 [x] := by
    refine ⟨rfl, by decide, fun _ => ⟨_, rfl, fun j p hj => ?_⟩⟩
    cases j with
    | succ j => simp at hj
    | zero =>
      obtain rfl : x = p := by simpa using hj
      refine ⟨rc x, rfl, k35_mk _ _, fun i u hi_ => ?_⟩
      rw [show 0 * k35.sz + i = i by omega, add0, cell_of hx]
      simpa using hi_
  have HR := Aside0.mk hR
  have HCX := Aside0.mk hcx
  have HL := Aside0.mk hl
  have HB := Aside0.mk hbase
  have HOK := Aside0.mk hok
  have hnc := (Kd.R_reads' hR).2.1
  have q1 := eq_true (show (0 : Int) ≤ (l.length : Int) by omega)
  clear hR hcx hx hl hbase hok
  go_enter Try.func31, Try.ntmps31
  go_wp2_with ((with_reducible refine gate_builtin (b := .append) (xs := #[.tmp 23, .tmp 24]) rfl ?_); at_builtin; refine Kd.R_append_rows k35 (w0 := W) base rfl (.tmp 23) (.tmp 24) 22 35 (.agg #[.int .i64 0, .int .i64 0]) 16 rfl Try.underlying22 info35_ rfl (by decide) (by omega) _ l [x] _ _ _ ok (fun _ => False) rfl rfl HR.out HCX.out (fun p cs hK => by rw [k35_open hK]; exact k35_mkM _ _ _ _) (fun _ h => h.elim) HOK.out (Below.refl _ _) HB.out ?aL ?_; (case aL => have := HL.out; omega); intro v5 w5 hR5 hB5 hg5 hat5; have H5 := Aside0.mk hR5; have HG5 := Aside0.mk hg5; have HAT := Aside0.mk hat5; clear hR5 hB5 hg5 hat5)
  all_goals go_ret
  all_goals exact ⟨_, rfl, H5.out, by rw [own_cap A _ _ l.length c]; exact HG5.out, by rw [own_cap A _ _ l.length c]; exact HAT.out⟩
theorem w_of {x : Int} (h0 : 0 ≤ x) (h1 : x ≤ 1000000) : wrap64 x = x ∧ IntKind.i64.wrap x = x := by
  have h : wrap64 x = x := by unfold wrap64; omega
  exact ⟨h, (i64_w _).trans h⟩
structure RoomF (n c i : Nat) : Prop where
  z2 : ((i : Int) == (n : Int)) = false
  z3 : ¬ ((i : Int) = (n : Int))
  z4 : (i == n) = false
  w1 : wrap64 ((n : Int) + 1) = (n : Int) + 1 ∧ IntKind.i64.wrap ((n : Int) + 1) = (n : Int) + 1
  w3 : wrap64 ((i : Int) + 1) = (i : Int) + 1 ∧ IntKind.i64.wrap ((i : Int) + 1) = (i : Int) + 1
  d1 : decide ((n : Int) + 1 > (c : Int)) = false
  d2 : decide ((c : Int) < (n : Int) + 1) = false
  q1 : ((0 : Int) ≤ (i : Int)) = True
  q2 : ((i : Int) ≤ (n : Int)) = True
  q3 : ((0 : Int) ≤ (i : Int) + 1) = True
  q4 : ((i : Int) + 1 ≤ (n : Int) + 1) = True
  q5 : ((i : Int) ≤ (n : Int) + 1) = True
  q6 : ((0 : Int) ≤ (n : Int) + 1) = True
  q7 : ((n : Int) + 1 ≤ (c : Int)) = True
  q8 : (c = i + 1) = False
  q9 : (c = i) = False
  q10 : ((i : Int) + 1).toNat = i + 1
  q11 : ((n : Int) + 1).toNat = n + 1
theorem roomF {n c i : Nat} (hi : i < n) (hl : n ≤ 100000) (hroom : n + 1 ≤ c) : RoomF n c i :=
  ⟨beq_eq_false_iff_ne.2 (by omega), by omega, beq_eq_false_iff_ne.2 (by omega), w_of (by omega) (by omega), w_of (by omega) (by omega), decide_eq_false (by omega), decide_eq_false (by omega),
   eq_true (by omega), eq_true (by omega), eq_true (by omega), eq_true (by omega), eq_true (by omega), eq_true (by omega), eq_true (by omega), eq_false (by omega), eq_false (by omega), by omega, by omega⟩
set_option maxHeartbeats 8000000 in
set_option maxRecDepth 100000 in
theorem insert_room (W : World) (base g c : Nat) (ok : Nat → Prop) (l : List S35) (x : S35) (vb i : Nat) (hR : Kd.R k35 35 W base ok (.slice (some ⟨g, 0, none⟩) l.length c) l) (hx : W.heap[vb]? = some (.cells (rc x).toArray 35 (0, 0))) (hne : vb ≠ g) (hl : l.length ≤ 100000) (hi : i < l.length) (hroom : l.length + 1 ≤ c) :
    Calls Try.prog 31 #[.slice (some ⟨g, 0, none⟩) l.length c, .int .i64 i, .slice (some ⟨vb, 0, none⟩) 1 1] W fun e w' => Ins W w' base ok (.slice (some ⟨g, 0, none⟩) l.length c) (l.take i ++ x :: l.drop i) e := by
  obtain ⟨cur, hh, hb, hog, -, -, hcm, hcs, htk⟩ := R_open hR
  have hlen : cur.toList.length = c * 2 := by rw [Array.length_toList, hcs]
  have hcells : ∀ k, k < l.length * 2 → cur[k]? = (flat l)[k]? := fun k hk => by
    rw [← htk, List.getElem?_take, if_pos hk, Array.getElem?_toList]
  have hdr : flat (l.drop i) = (flat l).drop (i * 2) := flat_drop l i (by omega)
  have hdl : (flat (l.drop i)).length = (l.length - i) * 2 := by rw [flat_len, List.length_drop]
  have hnn : (l.length + 1) * 2 ≤ c * 2 := by omega
  have hov := fun lb cb => ov_false (lb := lb) (cb := cb) (o := (i + 1) * 2) hx hh hne (by omega)
  have hcp1 : ∀ ty dc sc, (Builtin.copy_ #[22, 22] ty #[.slice (some ⟨g, (i + 1) * 2, none⟩) (l.length - i) dc, .slice (some ⟨g, i * 2, none⟩) (l.length + 1 - i) sc]).run Try.prog W.drew = .ok (goInt ((l.length - i : Nat) : Int)) (W.drew.setCells g ((i + 1) * 2) (flat (l.drop i))) := fun ty dc sc => by
    have h := run_copy2 W.drew ty g ((i + 1) * 2) (l.length - i) dc ⟨g, i * 2, none⟩ (l.length + 1 - i) sc (flat (l.drop i)) (by rw [hdl]; simp only [Nat.min_def]; split <;> omega)
      (fun j v hj => by
        rw [addo, cell_of (w := W.drew) hh]
        have hjl : j < (flat (l.drop i)).length := (List.getElem?_eq_some_iff.1 hj).1
        rw [hdr, List.getElem?_drop] at hj
        rw [hcells _ (by omega)]
        exact hj)
      (fun j hj => by rw [cell_of (w := W.drew) hh, Array.getElem?_eq_getElem (by omega)]; rfl) (fun j hj => frozen_of (w := W.drew) hh) (flat_one _)
    rw [show Nat.min (l.length + 1 - i) (l.length - i) = l.length - i by simp only [Nat.min_def]; split <;> omega] at h
    exact h
  obtain ⟨cur1, hh1, hs1, ht1, hg1⟩ := wrote (w := W.drew) (vs := flat (l.drop i)) (o := (i + 1) * 2) hh (by omega)
  obtain ⟨W1, hW1⟩ : ∃ W1, W.drew.setCells g ((i + 1) * 2) (flat (l.drop i)) = W1 := ⟨_, rfl⟩
  rw [hW1] at hh1 hg1
  simp only [hW1] at hcp1
  have hx1 : W1.heap[vb]? = some (.cells (rc x).toArray 35 (0, 0)) := (hg1.block vb (blk_lt hx) (fun he => hne (Option.some.inj he))).trans hx
  have hcp2 : ∀ ty dc, (Builtin.copy_ #[22, 22] ty #[.slice (some ⟨g, i * 2, none⟩) (l.length + 1 - i) dc, .slice (some ⟨vb, 0, none⟩) 1 1]).run Try.prog W1 = .ok (goInt 1) (W1.setCells g (i * 2) (rc x)) := fun ty dc => by
    have h := run_copy2 W1 ty g (i * 2) (l.length + 1 - i) dc ⟨vb, 0, none⟩ 1 1 (rc x) (by show 2 = _; simp only [Nat.min_def]; split <;> omega)
      (fun j v hj => by rw [add0, cell_of hx1]; simpa using hj)
      (fun j hj => by have hj2 : j < 2 := hj; rw [cell_of hh1, Array.getElem?_eq_getElem (by omega)]; rfl) (fun j hj => frozen_of hh1) (fun v hv => flat_one [x] v (by rw [flat_cons]; exact List.mem_append_left _ hv))
    rw [show Nat.min 1 (l.length + 1 - i) = 1 by simp only [Nat.min_def]; split <;> omega] at h
    exact h
  obtain ⟨cur2, hh2, hs2, ht2, hg2⟩ := wrote (vs := rc x) (o := i * 2) hh1 (by show i * 2 + 2 ≤ _; omega)
  have hfin : Ins W (W1.setCells g (i * 2) (rc x)) base ok (.slice (some ⟨g, 0, none⟩) l.length c) (l.take i ++ x :: l.drop i) (.returned (.slice (some ⟨g, 0, none⟩) (l.length + 1) c)) := by
    have hl2 : (l.take i ++ x :: l.drop i).length = l.length + 1 := by rw [List.length_append, List.length_cons, List.length_take, List.length_drop]; omega
    have hR2 := R_shut (l := l.take i ++ x :: l.drop i) (ok := ok) (c := c) hh2 hb hog (by omega) hcm (by omega) (by
      have e1 : (cur.toList.take ((i + 1) * 2) ++ flat (l.drop i) ++ cur.toList.drop ((i + 1) * 2 + (flat (l.drop i)).length)).take (i * 2) = flat (l.take i) := by
        rw [List.append_assoc, List.take_append_of_le_length (by rw [List.length_take]; omega), List.take_take, Nat.min_eq_left (by omega), flat_take l i (by omega), ← htk, List.take_take, Nat.min_eq_left (by omega)]
      have e2 : (cur.toList.take ((i + 1) * 2) ++ flat (l.drop i) ++ cur.toList.drop ((i + 1) * 2 + (flat (l.drop i)).length)).drop (i * 2 + 2) = flat (l.drop i) ++ cur.toList.drop ((i + 1) * 2 + (flat (l.drop i)).length) := by
        rw [List.append_assoc, show i * 2 + 2 = (i + 1) * 2 by omega, List.drop_left' (by rw [List.length_take]; omega)]
      rw [ht2, ht1, e1, show (rc x).length = 2 from rfl, e2, hl2, flat_app, flat_cons, List.append_assoc, ← List.append_assoc (flat (l.take i)), ← List.append_assoc (flat (l.take i) ++ rc x), List.append_assoc (flat (l.take i)),
        List.take_left' (by rw [List.length_append, List.length_append, flat_len, hdl, List.length_take]; show _ + (2 + _) = _; omega)])
    rw [hl2] at hR2
    exact ⟨_, rfl, hR2, grown_then (⟨rfl, rfl, rfl, Nat.le_refl _, fun _ _ _ => rfl⟩ : W.grownBy W.drew (some g)) (grown_then hg1 hg2), .inl rfl⟩
  have HF := Aside0.mk hfin
  obtain ⟨hz2, hz3, hz4, ⟨hw1, hw2⟩, ⟨hw3, hw4⟩, hd1, hd2, q1, q2, q3, q4, q5, q6, q7, q8, q9, q10, q11⟩ := roomF hi hl hroom
  clear hR hcells hdr hdl hnn hh hb hog hcm hcs htk hlen hh1 hs1 ht1 hg1 hx1 hh2 hs2 ht2 hg2 hfin hx hl hi hroom
  go_enter Try.func31, Try.ntmps31
  have HOV := Aside0.mk hov
  have HCP1 := Aside0.mk hcp1
  have HCP2 := Aside0.mk hcp2
  clear hov hcp1 hcp2
  have hov := HOV.out
  have mixed : Try.prog.follows Departure.mixedOrders = true := by kernel_rfl
  go_upto_region 15 with (simp only [hov])
  go_region_law_o (refine step_copy_runI rfl (.tmp 73) (.tmp 76) 22 22 rfl (.slice (some ⟨g, (i + 1) * 2, none⟩) (l.length - i) (c - (i + 1))) (.slice (some ⟨g, i * 2, none⟩) (l.length + 1 - i) (c - i)) (by simp [Act.eval, Act.put]) (by simp [Act.eval, Act.put]) (HCP1.out _ _ _) ?_)
  simp only [Exit.then]
  have hcp2 := HCP2.out
  go_wp2_with (fail)
  go_ret
  exact HF.out
structure GrowF (n c i G : Nat) : Prop where
  z2 : ((i : Int) == (n : Int)) = false
  z3 : ¬ ((i : Int) = (n : Int))
  z4 : (i == n) = false
  w1 : wrap64 ((n : Int) + 1) = (n : Int) + 1 ∧ IntKind.i64.wrap ((n : Int) + 1) = (n : Int) + 1
  w3 : wrap64 ((i : Int) + 1) = (i : Int) + 1 ∧ IntKind.i64.wrap ((i : Int) + 1) = (i : Int) + 1
  w5 : wrap64 ((n : Int) + 1 - (i : Int)) = (n : Int) + 1 - (i : Int) ∧ IntKind.i64.wrap ((n : Int) + 1 - (i : Int)) = (n : Int) + 1 - (i : Int)
  d1 : decide ((n : Int) + 1 > (c : Int)) = true
  d2 : decide ((c : Int) < (n : Int) + 1) = true
  q1 : ((0 : Int) ≤ (i : Int)) = True
  q2 : ((i : Int) ≤ (n : Int)) = True
  q3 : ((0 : Int) ≤ (i : Int) + 1) = True
  q4 : ((i : Int) + 1 ≤ (n : Int) + 1) = True
  q5 : ((i : Int) ≤ (n : Int) + 1) = True
  q7 : ((i : Int) ≤ (c : Int)) = True
  q8 : (G = i + 1) = False
  q9 : (c = i) = False
  q9b : (G = i) = False
  q10 : ((i : Int) + 1).toNat = i + 1
theorem growF {n c i G : Nat} (hi : i < n) (hl : n ≤ 100000) (hnc : n ≤ c) (hroom : c < n + 1) (hG : n + 1 ≤ G) : GrowF n c i G :=
  ⟨beq_eq_false_iff_ne.2 (by omega), by omega, beq_eq_false_iff_ne.2 (by omega), w_of (by omega) (by omega), w_of (by omega) (by omega), w_of (by omega) (by omega), decide_eq_true (by omega), decide_eq_true (by omega),
   eq_true (by omega), eq_true (by omega), eq_true (by omega), eq_true (by omega), eq_true (by omega), eq_true (by omega), eq_false (by omega), eq_false (by omega), eq_false (by omega), by omega⟩
set_option maxHeartbeats 8000000 in
set_option maxRecDepth 100000 in
theorem insert_grow (W : World) (base g c : Nat) (ok : Nat → Prop) (l : List S35) (x : S35) (vb i : Nat) (hR : Kd.R k35 35 W base ok (.slice (some ⟨g, 0, none⟩) l.length c) l) (hx : W.heap[vb]? = some (.cells (rc x).toArray 35 (0, 0))) (hl : l.length ≤ 100000) (hi : i < l.length) (hroom : c < l.length + 1) (hbase : base ≤ W.heap.size) (hok : ∀ k, W.heap.size ≤ k → ok k) :
    Calls Try.prog 31 #[.slice (some ⟨g, 0, none⟩) l.length c, .int .i64 i, .slice (some ⟨vb, 0, none⟩) 1 1] W fun e w' => Ins W w' base ok (.slice (some ⟨g, 0, none⟩) l.length c) (l.take i ++ x :: l.drop i) e := by
  obtain ⟨cur, hh, hb, hog, -, hnc, hcm, hcs, htk⟩ := R_open hR
  have hlen : cur.toList.length = c * 2 := by rw [Array.length_toList, hcs]
  have hcells : ∀ k, k < l.length * 2 → cur[k]? = (flat l)[k]? := fun k hk => by
    rw [← htk, List.getElem?_take, if_pos hk, Array.getElem?_toList]
  have hdr : flat (l.drop i) = (flat l).drop (i * 2) := flat_drop l i (by omega)
  have hdl : (flat (l.drop i)).length = (l.length - i) * 2 := by rw [flat_len, List.length_drop]
  have htl : (flat (l.take i)).length = i * 2 := by rw [flat_len, List.length_take, Nat.min_eq_left (by omega)]
  obtain ⟨i0, hi0, hzz⟩ := Option.map_eq_some_iff.1 info35_
  simp only [Prod.mk.injEq] at hzz
  obtain ⟨hz0, hzs, hzb⟩ := hzz
  have hold : (Builtin.firstCells i0.size i (.slice (some ⟨g, 0, none⟩) i c)).run Try.prog W.drew = .ok (flat (l.take i)).toArray W.drew := by
    rw [hzs]
    exact run_firstCells_some W.drew 2 i ⟨g, 0, none⟩ i c (flat (l.take i)) htl (fun j v hj => by
      have hjl : j < (flat (l.take i)).length := (List.getElem?_eq_some_iff.1 hj).1
      rw [add0, cell_of (w := W.drew) hh, hcells _ (by omega)]
      rw [flat_take l i (by omega), List.getElem?_take, if_pos (by omega)] at hj
      exact hj)
  have hkk : (l.length : Int) + 1 - (i : Int) = ((l.length + 1 - i : Nat) : Int) := by omega
  have hik : i + (l.length + 1 - i) = l.length + 1 := by omega
  obtain ⟨G, hG⟩ : ∃ G, grownCap W (l.length + 1) c 35 = G := ⟨_, rfl⟩
  obtain ⟨ROW, hROW⟩ : ∃ ROW : Array Value, (flat (l.take i)).toArray ++ Builtin.zeroCells (Value.agg #[.int .i64 0, .int .i64 0]).cells (l.length + 1 - i) ++ Builtin.zeroCells (Value.agg #[.int .i64 0, .int .i64 0]).cells (G - (l.length + 1)) = ROW := ⟨_, rfl⟩
  have hGn : l.length + 1 ≤ G := by rw [← hG]; exact grownCap_ge W _ _ _
  have hGm : G ≤ maxLen := by rw [← hG]; exact grownCap_le_maxLen W _ _ _ (by unfold maxLen; omega)
  have hRs : ROW.size = G * 2 := by
    rw [← hROW]
    have hz2 : ∀ k, (Builtin.zeroCells (Value.agg #[.int .i64 0, .int .i64 0]).cells k).size = k * 2 := fun k => by
      have := congrArg List.length (zero_cells k)
      rw [Array.length_toList, List.length_replicate] at this
      exact this
    rw [Array.size_append, Array.size_append, hz2, hz2]
    show (flat (l.take i)).length + _ + _ = _
    omega
  have hRt : ROW.toList.take (i * 2) = flat (l.take i) := by
    rw [← hROW, Array.toList_append, Array.toList_append, List.append_assoc]
    exact List.take_left' htl
  obtain ⟨W1, hW1⟩ : ∃ W1, W.drew.alloc (.cells ROW 35) = W1 := ⟨_, rfl⟩
  have hrz : ∀ ty, (Builtin.append_ #[22, 3] ty #[.slice (some ⟨g, 0, none⟩) i c, .int .i64 ((l.length : Int) + 1 - (i : Int))]).run Try.prog W = .ok (.slice (some ⟨W.heap.size, 0, none⟩) (l.length + 1) G) W1 := fun ty => by
    have h := Lib.run_append_grow_zeros W 22 3 ty 35 i0 _ .i64 .i64 Try.underlying22 Try.underlying3 hi0 hz0 (some ⟨g, 0, none⟩) i c (flat (l.take i)) hold (l.length + 1 - i) (by omega) (by omega) (by omega) (by omega) (by rw [hzb]; omega) (by rw [hzb, hik]; exact growslice_fits hroom (by omega))
    rw [hik, hG, hROW, hW1] at h
    rw [hkk]
    exact h
  have hN : W1.heap[W.heap.size]? = some (.cells ROW 35 (0, 0)) := by rw [← hW1]; exact blk_new W.drew _
  have hbW : Below W.heap.size W W1 := by rw [← hW1]; exact below_alloc (below_drew1 (Below.refl _ _)) _
  have hx1 : W1.heap[vb]? = some (.cells (rc x).toArray 35 (0, 0)) := (hbW.block vb (blk_lt hx)).trans hx
  have hh1 : W1.heap[g]? = some (.cells cur 35 (0, 0)) := (hbW.block g (blk_lt hh)).trans hh
  have hcp1 : ∀ ty dc, (Builtin.copy_ #[22, 22] ty #[.slice (some ⟨W.heap.size, i * 2, none⟩) (l.length + 1 - i) dc, .slice (some ⟨vb, 0, none⟩) 1 1]).run Try.prog W1 = .ok (goInt 1) (W1.setCells W.heap.size (i * 2) (rc x)) := fun ty dc => by
    have h := run_copy2 W1 ty W.heap.size (i * 2) (l.length + 1 - i) dc ⟨vb, 0, none⟩ 1 1 (rc x) (by show 2 = _; simp only [Nat.min_def]; split <;> omega)
      (fun j v hj => by rw [add0, cell_of hx1]; simpa using hj)
      (fun j hj => by have hj2 : j < 2 := hj; rw [cell_of hN, Array.getElem?_eq_getElem (by omega)]; rfl) (fun j hj => frozen_of hN) (fun v hv => flat_one [x] v (by rw [flat_cons]; exact List.mem_append_left _ hv))
    rw [show Nat.min 1 (l.length + 1 - i) = 1 by simp only [Nat.min_def]; split <;> omega] at h
    exact h
  obtain ⟨cur2, hN2, hs2, ht2, hg2⟩ := wrote (vs := rc x) (o := i * 2) hN (by show i * 2 + 2 ≤ _; omega)
  obtain ⟨W2, hW2⟩ : ∃ W2, W1.setCells W.heap.size (i * 2) (rc x) = W2 := ⟨_, rfl⟩
  rw [hW2] at hN2 hg2
  simp only [hW2] at hcp1
  have hh2 : W2.heap[g]? = some (.cells cur 35 (0, 0)) := (hg2.block g (blk_lt hh1) (fun he => by have := blk_lt hh; have := Option.some.inj he; omega)).trans hh1
  have hcp2 : ∀ ty dc sc, (Builtin.copy_ #[22, 22] ty #[.slice (some ⟨W.heap.size, (i + 1) * 2, none⟩) (l.length - i) dc, .slice (some ⟨g, i * 2, none⟩) (l.length - i) sc]).run Try.prog W2.drew = .ok (goInt ((l.length - i : Nat) : Int)) (W2.drew.setCells W.heap.size ((i + 1) * 2) (flat (l.drop i))) := fun ty dc sc => by
    have h := run_copy2 W2.drew ty W.heap.size ((i + 1) * 2) (l.length - i) dc ⟨g, i * 2, none⟩ (l.length - i) sc (flat (l.drop i)) (by rw [hdl]; simp only [Nat.min_def]; split <;> omega)
      (fun j v hj => by
        rw [addo, cell_of (w := W2.drew) hh2]
        have hjl : j < (flat (l.drop i)).length := (List.getElem?_eq_some_iff.1 hj).1
        rw [hdr, List.getElem?_drop] at hj
        rw [hcells _ (by omega)]
        exact hj)
      (fun j hj => by rw [cell_of (w := W2.drew) hN2, Array.getElem?_eq_getElem (by omega)]; rfl) (fun j hj => frozen_of (w := W2.drew) hN2) (flat_one _)
    rw [show Nat.min (l.length - i) (l.length - i) = l.length - i by simp only [Nat.min_def]; split <;> omega] at h
    exact h
  obtain ⟨cur3, hN3, hs3, ht3, hg3⟩ := wrote (w := W2.drew) (vs := flat (l.drop i)) (o := (i + 1) * 2) hN2 (by omega)
  have hfin : Ins W (W2.drew.setCells W.heap.size ((i + 1) * 2) (flat (l.drop i))) base ok (.slice (some ⟨g, 0, none⟩) l.length c) (l.take i ++ x :: l.drop i) (.returned (.slice (some ⟨W.heap.size, 0, none⟩) (l.length + 1) G)) := by
    have hl2 : (l.take i ++ x :: l.drop i).length = l.length + 1 := by rw [List.length_append, List.length_cons, List.length_take, List.length_drop]; omega
    have hRL : ROW.toList.length = G * 2 := by rw [Array.length_toList, hRs]
    have hR2 := R_shut (l := l.take i ++ x :: l.drop i) (ok := ok) (c := G) hN3 hbase (hok _ (Nat.le_refl _)) (by omega) hGm (by omega) (by
      have e1 : (ROW.toList.take (i * 2) ++ rc x ++ ROW.toList.drop (i * 2 + (rc x).length)).take ((i + 1) * 2) = flat (l.take i) ++ rc x := by
        rw [hRt]
        exact List.take_left' (by rw [List.length_append, htl]; show _ + 2 = _; omega)
      rw [ht3, ht2, e1, hl2, flat_app, flat_cons, ← List.append_assoc (flat (l.take i))]
      exact List.take_left' (by rw [List.length_append, List.length_append, htl, hdl]; show _ + 2 + _ = _; omega))
    rw [hl2] at hR2
    refine ⟨_, rfl, hR2, ?_, .inr ⟨_, rfl, Nat.le_refl _⟩⟩
    exact ⟨hg3.os.trans (hg2.os.trans hbW.os), hg3.tape.trans (hg2.tape.trans hbW.tape), hg3.output.trans (hg2.output.trans hbW.output), Nat.le_trans hbW.size (Nat.le_trans hg2.size hg3.size), fun k hk hn =>
      have hk1 := Nat.lt_of_lt_of_le hk hbW.size
      have hne : some k ≠ some W.heap.size := fun he => by have := Option.some.inj he; omega
      (hg3.block k (Nat.lt_of_lt_of_le hk1 hg2.size) hne).trans ((hg2.block k hk1 hne).trans (hbW.block k hk))⟩
  have HF := Aside0.mk hfin
  have HRZ := Aside0.mk hrz
  have HCP1 := Aside0.mk hcp1
  have HCP2 := Aside0.mk hcp2
  obtain ⟨hz2, hz3, hz4, ⟨hw1, hw2⟩, ⟨hw3, hw4⟩, ⟨hw5, hw6⟩, hd1, hd2, q1, q2, q3, q4, q5, q7, q8, q9, q9b, q10⟩ := growF hi hl hnc hroom hGn
  clear hR hcells hdr hdl htl hi0 hz0 hzs hzb hold hkk hik hG hROW hGn hGm hRs hRt hW1 hrz hN hbW hx1 hh1 hcp1 hN2 hs2 ht2 hg2 hW2 hh2 hcp2 hN3 hs3 ht3 hg3 hfin hh hb hog hnc hcm hcs htk hlen hx hl hi hroom hbase hok
  have mixed : Try.prog.follows Departure.mixedOrders = true := by kernel_rfl
  go_enter Try.func31, Try.ntmps31
  have hcp1 := HCP1.out
  go_upto_region 11 with (at_builtin; refine Lib.wpList_append_run _ rfl (.tmp 34) (.tmp 39) _ _ rfl (.slice (some ⟨g, 0, none⟩) i c) (.int .i64 ((l.length : Int) + 1 - (i : Int))) rfl rfl _ _ (HRZ.out _) ?_)
  go_region_law_o (refine step_copy_runI rfl (.tmp 50) (.tmp 53) 22 22 rfl (.slice (some ⟨W.heap.size, (i + 1) * 2, none⟩) (l.length - i) (G - (i + 1))) (.slice (some ⟨g, i * 2, none⟩) (l.length - i) (c - i)) (by simp [Act.eval, Act.put]) (by simp [Act.eval, Act.put]) (HCP2.out _ _ _) ?_)
  simp only [Exit.then]
  go_wp2_with (fail)
  go_ret
  exact HF.out
end Go.Proofs.Ytanebifiafghnaa.Ack
