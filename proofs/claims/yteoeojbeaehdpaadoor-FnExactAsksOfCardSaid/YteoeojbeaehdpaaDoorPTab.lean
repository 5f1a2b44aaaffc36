/-
  Plain facts on tables of locks: what is valid, what is held, who stands in the way, what a lock that is taken or freed makes of a table.
-/
import Derived.Test.YteoeojbeaehdpaaDoorTLk
import Derived.Test.YteoeojbeaehdpaaDoorPMark
import Derived.Test.YteoeojbeaehdpaaDoorPMode2
namespace Go.Proofs.YteoeojbeaehdpaaDoor

def askOk (who node mode : Int) : Bool := (inR who 0 3 && inR node 0 11) && inR mode 1 5
def lkOk (x : Lk) : Bool := askOk x.who x.node x.mode
/-- the later lock x and the earlier lock y cannot stand in one table -/
def clash (x y : Lk) : Bool := (x.node == y.node) && ((x.who == y.who) || !togM x.mode y.mode)
def Calm (l : List Lk) : Prop := l.Pairwise fun y x => clash x y = false
open Classical in
/-- the table is valid -/
noncomputable def tabOk (l : List Lk) : Bool := (l.all lkOk && decide (Calm l)) && decide (l.length ≤ 48)
theorem tabOk_iff {l : List Lk} : tabOk l = true ↔ l.all lkOk = true ∧ Calm l ∧ l.length ≤ 48 := by
  simp only [tabOk, Bool.and_eq_true, decide_eq_true_eq, and_assoc]
theorem tabOk_nil : tabOk [] = true := tabOk_iff.2 ⟨rfl, List.Pairwise.nil, by simp⟩
theorem tabOk_bad {l : List Lk} {k : Nat} (hk : k < l.length) (h : lkOk l[k] = false) : tabOk l = false := by
  rw [Bool.eq_false_iff]
  intro h2
  have := List.all_eq_true.1 (tabOk_iff.1 h2).1 l[k] (List.getElem_mem hk)
  rw [h] at this; cases this
theorem tabOk_clash {l : List Lk} {i k : Nat} (hk : k < l.length) (hi : i < k) (h : clash l[k] l[i] = true) : tabOk l = false := by
  rw [Bool.eq_false_iff]
  intro h2
  have := List.pairwise_iff_getElem.1 (tabOk_iff.1 h2).2.1 i k (by omega) hk hi
  rw [h] at this; cases this
theorem tabOk_long {l : List Lk} (h : 48 < l.length) : tabOk l = false := by
  rw [Bool.eq_false_iff]; intro h2; have := (tabOk_iff.1 h2).2.2; omega
theorem calm_snoc {l : List Lk} {k : Nat} (hk : k < l.length) (h : Calm (l.take k)) (h2 : (l.take k).all (fun y => !clash l[k] y) = true) : Calm (l.take (k + 1)) := by
  unfold Calm at h ⊢
  rw [List.take_succ_eq_append_getElem hk, List.pairwise_append]
  refine ⟨h, by simp, fun y hy x hx => ?_⟩
  simp at hx
  subst hx
  have := List.all_eq_true.1 h2 y hy
  simpa using this
theorem askOk_iff {who node mode : Int} : askOk who node mode = true ↔ (0 ≤ who ∧ who ≤ 3) ∧ (0 ≤ node ∧ node ≤ 11) ∧ 1 ≤ mode ∧ mode ≤ 5 := by
  simp [askOk, inR]; omega
theorem lkOk_mode {x : Lk} (h : lkOk x = true) : modeB x.mode = true := by
  have := (askOk_iff.1 h).2.2; rw [modeB_iff]; omega

theorem togM_comm (a b : Int) : togM a b = togM b a := by
  by_cases ha : modeB a = true
  · by_cases hb : modeB b = true
    · have k : ∀ a ∈ modes, ∀ b ∈ modes, togM a b = togM b a := by decide +kernel
      exact k a (mem_modes ha) b (mem_modes hb)
    · rw [Bool.not_eq_true] at hb; simp [togM, hb]
  · rw [Bool.not_eq_true] at ha; simp [togM, ha]
theorem togM_of {a b : Int} (ha : modeB a = true) (hb : modeB b = true) : togM a b = togI a b := by simp [togM, ha, hb]
theorem clash_comm (x y : Lk) : clash x y = clash y x := by
  unfold clash
  rw [togM_comm x.mode y.mode, show (x.node == y.node) = (y.node == x.node) from BEq.comm, show (x.who == y.who) = (y.who == x.who) from BEq.comm]

/-- it is the lock of a transaction on a node -/
def isL (who node : Int) (x : Lk) : Bool := (x.who == who) && (x.node == node)
/-- the mode that a transaction has on a node -/
def heldL (l : List Lk) (who node : Int) : Int := match l.find? (isL who node) with
  | some x => x.mode
  | none => 0
/-- the place of the lock, -1 if there is none -/
def lockI (l : List Lk) (who node : Int) : Int := match l.findIdx? (isL who node) with
  | some i => (i : Int)
  | none => -1
theorem lockI_none {l : List Lk} {who node : Int} (h : ∀ k (hk : k < l.length), isL who node l[k] = false) : lockI l who node = -1 ∧ heldL l who node = 0 := by
  have h1 : l.findIdx? (isL who node) = none := by
    rw [List.findIdx?_eq_none_iff]
    intro x hx
    obtain ⟨k, hk, rfl⟩ := List.mem_iff_getElem.1 hx
    exact h k hk
  have h2 : l.find? (isL who node) = none := by
    rw [List.find?_eq_none]
    intro x hx
    obtain ⟨k, hk, rfl⟩ := List.mem_iff_getElem.1 hx
    simp [h k hk]
  simp [lockI, heldL, h1, h2]
theorem lockI_some {l : List Lk} {who node : Int} {i : Nat} (hi : i < l.length) (h : isL who node l[i] = true) (h2 : ∀ k (hk : k < i), isL who node (l[k]'(by omega)) = false) : lockI l who node = (i : Int) ∧ heldL l who node = l[i].mode := by
  have h1 : l.findIdx? (isL who node) = some i := by
    rw [List.findIdx?_eq_some_iff_getElem]
    exact ⟨hi, h, fun j hj => by simp [h2 j hj]⟩
  have h3 : l.find? (isL who node) = some l[i] := by
    rw [List.find?_eq_some_iff_getElem]
    exact ⟨h, i, hi, rfl, fun j hj => by simp [h2 j hj]⟩
  simp [lockI, heldL, h1, h3]
/-- the first place at which a list meets a test, or none -/
theorem first_of {α : Type} (l : List α) (p : α → Bool) : (∀ k (hk : k < l.length), p l[k] = false) ∨ ∃ (i : Nat) (hi : i < l.length), p l[i] = true ∧ ∀ k (hk : k < i), p (l[k]'(by omega)) = false := by
  induction l with
  | nil => exact .inl fun k hk => by simp at hk
  | cons x l ih =>
    by_cases hx : p x = true
    · exact .inr ⟨0, by simp, hx, fun k hk => by omega⟩
    · rw [Bool.not_eq_true] at hx
      rcases ih with h | ⟨i, hi, h1, h2⟩
      · refine .inl fun k hk => ?_
        cases k with
        | zero => exact hx
        | succ k => exact h k (by simpa using hk)
      · refine .inr ⟨i + 1, by simpa using hi, h1, fun k hk => ?_⟩
        cases k with
        | zero => exact hx
        | succ k => exact h2 k (by omega)
theorem lockI_cases (l : List Lk) (who node : Int) : (lockI l who node = -1 ∧ heldL l who node = 0 ∧ ∀ k (hk : k < l.length), isL who node l[k] = false) ∨
    ∃ (i : Nat) (hi : i < l.length), lockI l who node = (i : Int) ∧ heldL l who node = l[i].mode ∧ isL who node l[i] = true ∧ ∀ k (hk : k < i), isL who node (l[k]'(by omega)) = false := by
  rcases first_of l (isL who node) with h | ⟨i, hi, h1, h2⟩
  · exact .inl ⟨(lockI_none h).1, (lockI_none h).2, h⟩
  · exact .inr ⟨i, hi, (lockI_some hi h1 h2).1, (lockI_some hi h1 h2).2, h1, h2⟩
theorem heldL_mode {l : List Lk} (h : l.all lkOk = true) (who node : Int) : modeB (heldL l who node) = true := by
  rcases lockI_cases l who node with ⟨_, h1, _⟩ | ⟨i, hi, _, h1, _⟩
  · rw [h1]; rfl
  · rw [h1]; exact lkOk_mode (List.all_eq_true.1 h _ (List.getElem_mem hi))

/-- those other than 'who' whose locks on a node do not go together with a mode -/
def blkL (l : List Lk) (who node mode : Int) : List Int := markU (fun t => !((t : Int) == who) && !togI (heldL l (t : Int) node) mode) 4
noncomputable def blkF (l : List Lk) (who node mode : Int) : List Int := if tabOk l && askOk who node mode then blkL l who node (joinI (heldL l who node) mode) else []
theorem blkF_len (l : List Lk) (who node mode : Int) : (blkF l who node mode).length ≤ 4 := by
  unfold blkF; split
  · exact markU_len _ 4
  · simp
/-- the table with the lock -/
def grantL (l : List Lk) (who node mode : Int) : List Lk := match l.findIdx? (isL who node) with
  | some i => l.modify i fun x => { x with mode := joinI x.mode mode }
  | none => l ++ [⟨who, node, mode⟩]
noncomputable def takeF (l : List Lk) (who node mode : Int) : Option (List Lk) :=
  if tabOk l && askOk who node mode && (blkL l who node (joinI (heldL l who node) mode)).isEmpty then some (grantL l who node mode) else none
/-- the table without a transaction's locks -/
def freeL (l : List Lk) (who : Int) : List Lk := l.filter fun x => !(x.who == who)
noncomputable def freeF (l : List Lk) (who : Int) : List Lk := if tabOk l then freeL l who else []
end Go.Proofs.YteoeojbeaehdpaaDoor
