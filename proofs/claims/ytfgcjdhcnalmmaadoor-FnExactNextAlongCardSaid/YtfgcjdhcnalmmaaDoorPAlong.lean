/-
  Plain facts on the rule of the path: the reference's lists and the program's table tell the same.
-/
import Derived.Test.YtfgcjdhcnalmmaaDoorTr3
import Derived.Test.YtfgcjdhcnalmmaaDoorSteps2
namespace Go.Proofs.YtfgcjdhcnalmmaaDoor

def parI (t : List Nd) (n : Nat) : Int := match t[n]? with | some x => x.par | none => -1
theorem parI_at {t : List Nd} {n : Nat} (h : n < t.length) : parI t n = t[n].par := by simp [parI, h]
structure AS where
  first : Bool
  has : List Int
  had : List Int
def AS0 : AS := ⟨true, [], []⟩
def leaveL (l : List Int) (n : Int) : List Int := l.filter fun y => y != n
def asNext (who : Int) (s : AS) (x : Stp) : AS :=
  if x.who == who then (if x.free then ⟨s.first, leaveL s.has x.node, s.had⟩ else ⟨false, s.has ++ [x.node], s.had ++ [x.node]⟩) else s
def badS (t : List Nd) (s : AS) (x : Stp) : Bool :=
  (x.mode != 5) || (decide ((t.length : Int) ≤ x.node) || (hasI s.had x.node || (!s.first && !(hasI s.has (parI t x.node.toNat)))))
def alongS (t : List Nd) (who : Int) : AS → List Stp → Nat → Int
  | _, [], _ => -1
  | s, x :: r, k => if takes who x && badS t s x then (k : Int) else alongS t who (asNext who s x) r (k + 1)
def alongL (t : List Nd) (r : List Stp) (who : Int) : Int := alongS t who AS0 r 0
def asEnd (r : List Stp) (who : Int) : AS := r.foldl (asNext who) AS0
noncomputable def alongF (t : List Nd) (r : List Stp) (who : Int) : Int := if treeOk t && stpOk r then alongL t r who else -1

theorem along_end {t : List Nd} {who : Int} {s : AS} {r : List Stp} {k : Nat} (h : r.length ≤ k) : alongS t who s (r.drop k) k = -1 := by
  rw [List.drop_eq_nil_of_le h]; rfl
theorem along_bad {t : List Nd} {who : Int} {s : AS} {r : List Stp} {k : Nat} (hk : k < r.length) (h : takes who r[k] = true) (h2 : badS t s r[k] = true) : alongS t who s (r.drop k) k = (k : Int) := by
  rw [List.drop_eq_getElem_cons hk, alongS, h, h2]; rfl
theorem along_next {t : List Nd} {who : Int} {s : AS} {r : List Stp} {k : Nat} (hk : k < r.length) (h : (takes who r[k] && badS t s r[k]) = false) : alongS t who s (r.drop k) k = alongS t who (asNext who s r[k]) (r.drop (k + 1)) (k + 1) := by
  rw [List.drop_eq_getElem_cons hk, alongS, h]; rfl
theorem as_skip {who : Int} {s : AS} {x : Stp} (h : (x.who == who) = false) : asNext who s x = s ∧ takes who x = false := by simp [asNext, takes, h]
theorem as_free {who : Int} {s : AS} {x : Stp} (h : (x.who == who) = true) (h2 : x.free = true) : asNext who s x = ⟨s.first, leaveL s.has x.node, s.had⟩ ∧ takes who x = false := by simp [asNext, takes, h, h2]
theorem as_take {who : Int} {s : AS} {x : Stp} (h : (x.who == who) = true) (h2 : x.free = false) : asNext who s x = ⟨false, s.has ++ [x.node], s.had ++ [x.node]⟩ ∧ takes who x = true := by simp [asNext, takes, h, h2]
theorem as_len (who : Int) (s : AS) (x : Stp) : (asNext who s x).has.length ≤ s.has.length + 1 ∧ (asNext who s x).had.length ≤ s.had.length + 1 := by
  have h1 : (leaveL s.has x.node).length ≤ s.has.length := List.length_filter_le _ _
  unfold asNext
  split
  · split
    · constructor
      · show (leaveL s.has x.node).length ≤ _; omega
      · show s.had.length ≤ _; omega
    · simp
  · omega

theorem along_snoc {t : List Nd} {who : Int} {x : Stp} : ∀ {r : List Stp} {s : AS} {k : Nat}, alongS t who s r k = -1 → alongS t who s (r ++ [x]) k = if takes who x && badS t (r.foldl (asNext who) s) x then ((k + r.length : Nat) : Int) else -1
  | [], s, k, _ => by simp [alongS]
  | y :: r, s, k, h => by
    rw [List.cons_append, alongS]
    rw [alongS] at h
    split at h
    · omega
    · rename_i hc
      rw [if_neg hc, along_snoc h]
      simp only [List.foldl_cons, List.length_cons]
      rw [show k + 1 + r.length = k + (r.length + 1) by omega]
      rfl

/-- the reference's lists beside the program's table -/
structure ASInv (who : Int) (s : AS) (m : List Lk) : Prop where
  first : s.first = s.had.isEmpty
  has : ∀ n, hasI s.has n = m.any (isL who n)
theorem ASInv.start (who : Int) : ASInv who AS0 [] := ⟨rfl, fun _ => rfl⟩
theorem lockI_any (m : List Lk) (who n : Int) : decide (0 ≤ lockI m who n) = m.any (isL who n) := by
  rcases lockI_cases m who n with ⟨h1, _, h3⟩ | ⟨i, hi, h1, _, h3, _⟩
  · rw [h1, eq_comm]
    rw [show decide ((0 : Int) ≤ -1) = false from rfl, List.any_eq_false]
    intro x hx
    obtain ⟨k, hk, rfl⟩ := List.mem_iff_getElem.1 hx
    rw [h3 k hk]; simp
  · rw [h1, eq_comm]
    rw [show decide ((0 : Int) ≤ (i : Int)) = true by simp, List.any_eq_true]
    exact ⟨_, List.getElem_mem hi, h3⟩
theorem any_modify {α : Type} (p : α → Bool) (f : α → α) (h : ∀ x, p (f x) = p x) : ∀ (l : List α) (i : Nat), (l.modify i f).any p = l.any p
  | [], i => by simp
  | x :: l, 0 => by simp [h]
  | x :: l, i + 1 => by simp [any_modify p f h l i]
theorem grant_any (m : List Lk) (a b c : Int) (who n : Int) : (grantL m a b c).any (isL who n) = (m.any (isL who n) || isL who n ⟨a, b, c⟩) := by
  unfold grantL
  split
  · rename_i i hi
    rw [any_modify (isL who n) (fun x => { x with mode := joinI x.mode c }) (fun x => rfl)]
    rw [List.findIdx?_eq_some_iff_getElem] at hi
    obtain ⟨h1, h2, _⟩ := hi
    cases hx : isL who n ⟨a, b, c⟩
    · simp
    · obtain ⟨e1, e2⟩ := isL_iff.1 hx
      simp only at e1 e2
      subst e1 e2
      simp only [Bool.or_true]
      rw [List.any_eq_true]
      exact ⟨_, List.getElem_mem h1, h2⟩
  · simp
theorem ASInv.next {who : Int} {s : AS} {m m2 : List Lk} {x : Stp} (h : ASInv who s m) (hm : doS m x = some m2) : ASInv who (asNext who s x) m2 := by
  cases hf : x.free
  · rw [doS_take hf] at hm
    obtain ⟨_, _, _, rfl⟩ := takeF_some hm
    cases hw : (x.who == who)
    · rw [(as_skip hw).1]
      refine ⟨h.first, fun n => ?_⟩
      rw [grant_any, h.has n]
      have : isL who n ⟨x.who, x.node, x.mode⟩ = false := by simp [isL, hw]
      rw [this, Bool.or_false]
    · rw [(as_take hw hf).1]
      refine ⟨by simp, fun n => ?_⟩
      rw [grant_any, ← h.has n]
      simp only [hasI, List.any_append, List.any_cons, List.any_nil, Bool.or_false]
      congr 1
      simp [isL, hw]
  · cases h0 : (heldL m x.who x.node == 0)
    · rw [doS_some hf h0] at hm
      have hm := (Option.some.inj hm).symm
      subst hm
      cases hw : (x.who == who)
      · rw [(as_skip hw).1]
        refine ⟨h.first, fun n => ?_⟩
        rw [h.has n, List.any_filter]
        congr 1
        funext y
        cases hy : isL who n y
        · simp
        · have := (isL_iff.1 hy).1
          simp only [notL, Bool.and_true]
          cases hz : isL x.who x.node y
          · rfl
          · have h2 := (isL_iff.1 hz).1
            rw [beq_eq_false_iff_ne] at hw
            omega
      · rw [(as_free hw hf).1]
        refine ⟨h.first, fun n => ?_⟩
        rw [List.any_filter]
        have hw' : x.who = who := by simpa using hw
        by_cases e : n = x.node
        · subst e
          have h1 : hasI (leaveL s.has x.node) x.node = false := by
            rw [hasI, leaveL, List.any_filter, List.any_eq_false]
            intro y _
            by_cases e2 : y = x.node <;> simp [e2]
          show hasI (leaveL s.has x.node) x.node = _
          rw [h1, eq_comm, List.any_eq_false]
          intro y _
          rw [notL, hw']
          cases isL who x.node y <;> simp
        · have h1 : hasI (leaveL s.has x.node) n = hasI s.has n := by
            rw [hasI, leaveL, List.any_filter, hasI]
            congr 1
            funext y
            by_cases e2 : y = n
            · subst e2; simp [e]
            · simp [e2]
          show hasI (leaveL s.has x.node) n = _
          rw [h1, h.has n]
          congr 1
          funext y
          cases hy : isL who n y
          · simp
          · have := (isL_iff.1 hy).2
            simp only [notL, Bool.and_true]
            cases hz : isL x.who x.node y
            · rfl
            · have h2 := (isL_iff.1 hz).2
              omega
    · rw [doS_none hf h0] at hm; cases hm

def goB (t : List Nd) (m : List Lk) (L : List Int) (who : Int) (j : Nat) : Bool := decide (j < t.length) && (!(hasI L (j : Int)) && (L.isEmpty || m.any (isL who (parI t j))))
theorem bad_go {who : Int} {s : AS} {m : List Lk} (h : ASInv who s m) (t : List Nd) {x : Stp} {j : Nat} (hj : x.node = (j : Int)) : badS t s x = ((x.mode != 5) || !(goB t m s.had who j)) := by
  unfold badS goB
  rw [hj, h.first, h.has, Int.toNat_natCast]
  have e : decide ((t.length : Int) ≤ (j : Int)) = !decide (j < t.length) := by
    by_cases hlt : j < t.length
    · simp [hlt]
    · simp [hlt]; omega
  rw [e]
  cases decide (j < t.length) <;> cases hasI s.had (j : Int) <;> cases s.had.isEmpty <;> cases m.any (isL who (parI t j)) <;> rfl
theorem step_node {x : Stp} (h : stepOk x = true) : ∃ j : Nat, x.node = (j : Int) ∧ j ≤ 11 := by
  simp only [stepOk, inR, Bool.and_eq_true, decide_eq_true_eq] at h
  exact ⟨x.node.toNat, by omega, by omega⟩
theorem run_take_some {r : List Stp} (h : stpOk r = true) (k : Nat) : ∃ m, runN doI [] (r.take k) = some m := by
  cases e : runN doI [] (r.take k) with
  | some m => exact ⟨m, rfl⟩
  | none =>
    have h1 := runN_none k e
    have h2 := tabF_spec h
    rw [stpOk, tabF, if_pos h2.2.1, h1] at h
    cases h
theorem stp_at {r : List Stp} (h : stpOk r = true) {k : Nat} (hk : k < r.length) : stepOk r[k] = true := List.all_eq_true.1 (tabF_spec h).2.2 _ (List.getElem_mem hk)
end Go.Proofs.YtfgcjdhcnalmmaaDoor
