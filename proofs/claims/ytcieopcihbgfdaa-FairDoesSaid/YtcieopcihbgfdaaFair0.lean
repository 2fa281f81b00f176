/- Layer 20: queues, in plain words. -/
import Derived.Test.YtcieopcihbgfdaaVMap
namespace Go.Proofs.Ytcieopcihbgfdaa.Fair
set_option linter.unusedVariables false
set_option linter.unusedSimpArgs false
structure Qu where
  id : Int
  l : List ByteArray
  d : Int
structure FS where
  lim : Int
  qu : Int
  st : List Qu
  sv : Bool
def ids (s : FS) : List Int := s.st.map (·.id)
def listOf (st : List Qu) (id : Int) : List ByteArray := match st with
  | [] => []
  | x :: r => if x.id = id then x.l else listOf r id
def addQ (st : List Qu) (id : Int) (t : ByteArray) : List Qu := match st with
  | [] => [⟨id, [t], 0⟩]
  | x :: r => if x.id = id then ⟨x.id, x.l ++ [t], x.d⟩ :: r else x :: addQ r id t
def delQ (st : List Qu) (id : Int) : List Qu := match st with
  | [] => []
  | x :: r => if x.id = id then r else x :: delQ r id
def headIs (st : List Qu) (id : Int) : Bool := match st with
  | [] => false
  | x :: _ => decide (x.id = id)
def pushE (s : FS) (id : Int) (t : ByteArray) : Int := if 65535 < t.size then 8 else if ((listOf s.st id).length : Int) = s.lim then 4 else 0
def pushS (s : FS) (id : Int) (t : ByteArray) : FS := if 65535 < t.size then s else if ((listOf s.st id).length : Int) = s.lim then s else ⟨s.lim, s.qu, addQ s.st id t, s.sv⟩
def dropE (s : FS) (id : Int) : Int := (listOf s.st id).length
def leaveS (s : FS) (id : Int) : FS := ⟨s.lim, s.qu, delQ s.st id, if headIs s.st id then false else s.sv⟩
def dropS (s : FS) (id : Int) : FS := if id ∈ ids s then leaveS s id else s
def countL : List Qu → Nat
  | [] => 0
  | x :: r => x.l.length + countL r
def hd (l : List ByteArray) : ByteArray := l.headD ByteArray.empty
def due (s : FS) (x : Qu) : Int := if s.sv then x.d else x.d + s.qu
def waitS (s : FS) (x : Qu) (r : List Qu) : FS := ⟨s.lim, s.qu, r ++ [⟨x.id, x.l, due s x⟩], false⟩
def takeS (s : FS) (x : Qu) (r : List Qu) : FS := if x.l.length ≤ 1 then ⟨s.lim, s.qu, r, false⟩ else ⟨s.lim, s.qu, ⟨x.id, x.l.tail, due s x - ((hd x.l).size : Int)⟩ :: r, true⟩
abbrev NR := Int × ByteArray × Bool
def noneR : NR := (0, ByteArray.empty, false)
def nextF : Nat → FS → NR × FS
  | 0, s => (noneR, s)
  | n + 1, s => match s.st with
    | [] => (noneR, s)
    | x :: r => if due s x < ((hd x.l).size : Int) then nextF n (waitS s x r) else ((x.id, hd x.l, true), takeS s x r)
def want (x : Qu) : Nat := (((hd x.l).size : Int) - x.d).toNat
def wants : List Qu → Nat
  | [] => 0
  | x :: r => want x + wants r
theorem wants_append (a b : List Qu) : wants (a ++ b) = wants a + wants b := by
  induction a with
  | nil => simp [wants]
  | cons x a ih => simp only [List.cons_append, wants, ih]; omega
def mu (s : FS) : Nat := 2 * wants s.st + (if s.sv then 1 else 0)
theorem mu_wait {s : FS} {x : Qu} {r : List Qu} (h : s.st = x :: r) (hq : 1 ≤ s.qu) (hw : due s x < ((hd x.l).size : Int)) : mu (waitS s x r) < mu s := by
  unfold mu waitS
  simp only [wants_append, h, wants]
  unfold want due at *
  dsimp only
  cases hs : s.sv
  · rw [hs] at hw
    simp only [Bool.false_eq_true, if_false] at hw ⊢
    omega
  · rw [hs] at hw
    simp only [if_true] at hw ⊢
    simp
    omega
theorem nextF_enough (n : Nat) : ∀ (m : Nat) (s : FS), 1 ≤ s.qu → mu s < n → mu s < m → nextF n s = nextF m s := by
  induction n with
  | zero => intro m s hq h; omega
  | succ n ih =>
    intro m s hq h1 h2
    cases m with
    | zero => omega
    | succ m =>
      simp only [nextF]
      split
      · rfl
      · rename_i x r hs
        split
        · rename_i hw
          have := mu_wait hs hq hw
          exact ih m _ hq (by omega) (by omega)
        · rfl
def nextV (s : FS) : NR × FS := nextF (mu s + 1) s
theorem nextV_none {s : FS} (h : s.st = []) : nextV s = (noneR, s) := by
  unfold nextV
  simp only [nextF]
  rw [h]
theorem nextV_wait {s : FS} {x : Qu} {r : List Qu} (h : s.st = x :: r) (hq : 1 ≤ s.qu) (hw : due s x < ((hd x.l).size : Int)) : nextV s = nextV (waitS s x r) := by
  have e : nextV s = nextF (mu s) (waitS s x r) := by
    unfold nextV
    simp only [nextF]
    rw [h]
    dsimp only
    rw [if_pos hw]
  rw [e]
  have := mu_wait h hq hw
  exact nextF_enough _ _ _ hq this (by omega)
theorem nextV_take {s : FS} {x : Qu} {r : List Qu} (h : s.st = x :: r) (hw : ¬ due s x < ((hd x.l).size : Int)) : nextV s = ((x.id, hd x.l, true), takeS s x r) := by
  unfold nextV
  simp only [nextF]
  rw [h]
  dsimp only
  rw [if_neg hw]
/-- What holds of every state. -/
structure QI (lim : Int) (x : Qu) : Prop where
  pos : 1 ≤ x.l.length
  le : (x.l.length : Int) ≤ lim
  big : ∀ t ∈ x.l, t.size ≤ 65535
  d0 : 0 ≤ x.d
  d1 : x.d ≤ 1114111
  k : (Lit.int .i64 x.id).wf = true
structure FI (s : FS) : Prop where
  l0 : 1 ≤ s.lim
  l1 : s.lim ≤ 1048576
  q0 : 1 ≤ s.qu
  q1 : s.qu ≤ 1048576
  nd : (ids s).Nodup
  q : ∀ x ∈ s.st, QI s.lim x
  low : ∀ x ∈ s.st.tail, x.d ≤ 65535
  sv : s.sv = false → ∀ x ∈ s.st, x.d ≤ 65535
theorem hd_mem {l : List ByteArray} (h : 1 ≤ l.length) : hd l ∈ l := by
  cases l with
  | nil => simp at h
  | cons a l => exact List.mem_cons_self
theorem QI.hd {lim : Int} {x : Qu} (h : QI lim x) : (Fair.hd x.l).size ≤ 65535 := h.big _ (hd_mem h.pos)
theorem ids_wait (s : FS) (x : Qu) (r : List Qu) : ids (waitS s x r) = r.map (·.id) ++ [x.id] := by simp [ids, waitS]
theorem due_le {s : FS} {x : Qu} {r : List Qu} (h : s.st = x :: r) (hi : FI s) : 0 ≤ due s x ∧ due s x ≤ 1114111 := by
  have hq := hi.q x (by rw [h]; exact List.mem_cons_self)
  have h0 := hq.d0; have h1 := hq.d1; have := hi.q0; have := hi.q1
  unfold due
  cases hs : s.sv
  · have := hi.sv hs x (by rw [h]; exact List.mem_cons_self)
    simp only [Bool.false_eq_true, if_false]
    omega
  · simp only [if_true]
    omega
theorem FI.wait {s : FS} {x : Qu} {r : List Qu} (hi : FI s) (h : s.st = x :: r) (hw : due s x < ((hd x.l).size : Int)) : FI (waitS s x r) := by
  have hd := due_le h hi
  have hq := hi.q x (by rw [h]; exact List.mem_cons_self)
  have hb := hq.hd
  have hnd := hi.nd
  unfold ids at hnd
  rw [h] at hnd
  have hr : ∀ y ∈ r, y ∈ s.st := fun y hy => by rw [h]; exact List.mem_cons_of_mem _ hy
  have hlow : ∀ y ∈ r, y.d ≤ 65535 := fun y hy => hi.low y (by rw [h]; exact hy)
  have hall : ∀ y ∈ r ++ [(⟨x.id, x.l, due s x⟩ : Qu)], y.d ≤ 65535 := by
    intro y hy
    rcases List.mem_append.1 hy with hy | hy
    · exact hlow y hy
    · obtain rfl := List.mem_singleton.1 hy
      show due s x ≤ 65535
      omega
  refine ⟨hi.l0, hi.l1, hi.q0, hi.q1, ?_, ?_, fun y hy => hall y (List.mem_of_mem_tail hy), fun _ y hy => hall y hy⟩
  · rw [ids_wait]
    rw [List.map_cons, List.nodup_cons] at hnd
    rw [List.nodup_append]
    exact ⟨hnd.2, List.nodup_cons.2 ⟨by simp, List.nodup_nil⟩, fun a ha b hb e => by rw [List.mem_singleton.1 hb] at e; rw [e] at ha; exact hnd.1 ha⟩
  · intro y hy
    rcases List.mem_append.1 hy with hy | hy
    · exact hi.q y (hr y hy)
    · obtain rfl := List.mem_singleton.1 hy
      exact ⟨hq.pos, hq.le, hq.big, hd.1, hd.2, hq.k⟩
theorem FI.take {s : FS} {x : Qu} {r : List Qu} (hi : FI s) (h : s.st = x :: r) (hw : ¬ due s x < ((hd x.l).size : Int)) : FI (takeS s x r) := by
  have hd := due_le h hi
  have hq := hi.q x (by rw [h]; exact List.mem_cons_self)
  have hnd := hi.nd
  unfold ids at hnd
  rw [h, List.map_cons, List.nodup_cons] at hnd
  have hr : ∀ y ∈ r, y ∈ s.st := fun y hy => by rw [h]; exact List.mem_cons_of_mem _ hy
  have hlow : ∀ y ∈ r, y.d ≤ 65535 := fun y hy => hi.low y (by rw [h]; exact hy)
  unfold takeS
  by_cases c : x.l.length ≤ 1
  · rw [if_pos c]
    exact ⟨hi.l0, hi.l1, hi.q0, hi.q1, hnd.2, fun y hy => hi.q y (hr y hy), fun y hy => hlow y (List.mem_of_mem_tail hy), fun _ y hy => hlow y hy⟩
  · rw [if_neg c]
    refine ⟨hi.l0, hi.l1, hi.q0, hi.q1, ?_, ?_, fun y hy => hlow y hy, fun e => by cases e⟩
    · exact List.nodup_cons.2 hnd
    · intro y hy
      rcases List.mem_cons.1 hy with rfl | hy
      · refine ⟨?_, ?_, fun t ht => hq.big t (List.mem_of_mem_tail ht), ?_, ?_, hq.k⟩
        · show 1 ≤ x.l.tail.length
          rw [List.length_tail]; omega
        · have := hq.le
          show (x.l.tail.length : Int) ≤ s.lim
          rw [List.length_tail]; omega
        · show 0 ≤ due s x - ((Fair.hd x.l).size : Int)
          omega
        · show due s x - ((Fair.hd x.l).size : Int) ≤ 1114111
          omega
      · exact hi.q y (hr y hy)
/-- What is got. -/
inductive Got : FS → NR × FS → Prop
  | none {s : FS} : s.st = [] → Got s (noneR, s)
  | wait {s : FS} {x : Qu} {r : List Qu} {y : NR × FS} : s.st = x :: r → due s x < ((hd x.l).size : Int) → Got (waitS s x r) y → Got s y
  | take {s : FS} {x : Qu} {r : List Qu} : s.st = x :: r → ¬ due s x < ((hd x.l).size : Int) → Got s ((x.id, hd x.l, true), takeS s x r)
theorem got_n (n : Nat) : ∀ s : FS, FI s → mu s < n → Got s (nextV s) := by
  induction n with
  | zero => intro s hi h; omega
  | succ n ih =>
    intro s hi hn
    cases hs : s.st with
    | nil => rw [nextV_none hs]; exact .none hs
    | cons x r =>
      by_cases hw : due s x < ((hd x.l).size : Int)
      · rw [nextV_wait hs hi.q0 hw]
        have := mu_wait hs hi.q0 hw
        exact .wait hs hw (ih _ (hi.wait hs hw) (by omega))
      · rw [nextV_take hs hw]; exact .take hs hw
theorem got {s : FS} (hi : FI s) : Got s (nextV s) := got_n _ s hi (Nat.lt_succ_self _)
end Go.Proofs.Ytcieopcihbgfdaa.Fair
