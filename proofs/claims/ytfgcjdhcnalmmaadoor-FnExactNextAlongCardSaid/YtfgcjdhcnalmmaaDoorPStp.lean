/-
  Plain facts on schedules: the program's step and the reference's step make the same table.
-/
import Derived.Test.YtfgcjdhcnalmmaaDoorPTab2
import Derived.Test.YtfgcjdhcnalmmaaDoorTStp
namespace Go.Proofs.YtfgcjdhcnalmmaaDoor

def stepOk (s : Stp) : Bool := (inR s.who 0 3 && inR s.node 0 11) && ((s.free && (s.mode == 0)) || (!s.free && inR s.mode 1 5))
/-- the program's step -/
noncomputable def doI (l : List Lk) (s : Stp) : Option (List Lk) :=
  if s.free then (if s.mode == 0 then (match l.findIdx? (isL s.who s.node) with
    | some i => some (l.eraseIdx i)
    | none => none) else none)
  else takeF l s.who s.node s.mode
/-- the reference's step -/
noncomputable def doS (l : List Lk) (s : Stp) : Option (List Lk) :=
  if s.free then (if heldL l s.who s.node == 0 then none else some (l.filter fun x => !(isL s.who s.node x)))
  else takeF l s.who s.node s.mode
def runN (f : List Lk → Stp → Option (List Lk)) : List Lk → List Stp → Option (List Lk)
  | l, [] => some l
  | l, s :: r => match f l s with
    | some m => runN f m r
    | none => none
theorem runN_snoc (f : List Lk → Stp → Option (List Lk)) : ∀ (r : List Stp) (l : List Lk) (s : Stp), runN f l (r ++ [s]) = match runN f l r with
    | some m => f m s
    | none => none
  | [], l, s => by simp [runN]; cases f l s <;> rfl
  | x :: r, l, s => by
    simp only [List.cons_append, runN]
    cases f l x with
    | none => rfl
    | some m => exact runN_snoc f r m s
theorem runN_none {f : List Lk → Stp → Option (List Lk)} : ∀ {r : List Stp} {l : List Lk} (k : Nat), runN f l (r.take k) = none → runN f l r = none
  | [], l, k, h => by simpa using h
  | x :: r, l, 0, h => by simp [runN] at h
  | x :: r, l, k + 1, h => by
    simp only [List.take_succ_cons, runN] at h ⊢
    cases hf : f l x with
    | none => rfl
    | some m => rw [hf] at h; exact runN_none k h
theorem runN_take {f : List Lk → Stp → Option (List Lk)} {r : List Stp} {l m : List Lk} {k : Nat} (hk : k < r.length) (h : runN f l (r.take k) = some m) : runN f l (r.take (k + 1)) = f m r[k] := by
  rw [List.take_succ_eq_append_getElem hk, runN_snoc, h]
theorem step_keeps {l : List Lk} (h : Tab0 l) {s : Stp} {m : List Lk} (hs : doI l s = some m) : Tab0 m ∧ m.length ≤ l.length + 1 := by
  unfold doI at hs
  split at hs
  · split at hs
    · split at hs
      · rename_i i _
        have := Option.some.inj hs
        subst this
        exact ⟨h.sub (List.eraseIdx_sublist l i), Nat.le_trans (List.eraseIdx_sublist l i).length_le (by omega)⟩
      · cases hs
    · cases hs
  · exact takeF_keeps hs
theorem step_same {l : List Lk} (h : Tab0 l) {s : Stp} (hs : stepOk s = true) : doS l s = doI l s := by
  unfold doS doI
  by_cases hf : s.free = true
  · simp only [hf, if_true]
    have hm : (s.mode == 0) = true := by
      have h1 := hs
      simp [stepOk, hf] at h1
      exact beq_iff_eq.2 h1.2
    rw [if_pos hm]
    rcases lockI_cases l s.who s.node with ⟨_, h2, h3⟩ | ⟨i, hi, _, h2, h3, h4⟩
    · have e : l.findIdx? (isL s.who s.node) = none := by
        rw [List.findIdx?_eq_none_iff]
        intro x hx
        obtain ⟨k, hk, rfl⟩ := List.mem_iff_getElem.1 hx
        exact h3 k hk
      rw [e, h2]; rfl
    · have e : l.findIdx? (isL s.who s.node) = some i := by
        rw [List.findIdx?_eq_some_iff_getElem]
        exact ⟨hi, h3, fun j hj => by simp [h4 j hj]⟩
      have h5 := askOk_iff.1 (h.at hi)
      rw [e, h2, if_neg (by simp; omega)]
      show some _ = some _
      rw [filter_erase (isL s.who s.node) l i hi h3 fun k hk hne => ?_]
      rw [Bool.eq_false_iff]
      exact fun h6 => hne (h.one hk hi h6 h3)
  · rw [Bool.not_eq_true] at hf
    simp only [hf]
    rfl
theorem step_bad {l : List Lk} (h : Tab0 l) {s : Stp} (hs : stepOk s = false) : doI l s = none := by
  unfold doI
  by_cases hf : s.free = true
  · simp only [hf, if_true]
    split
    · rename_i hm
      split
      · rename_i i e
        rw [List.findIdx?_eq_some_iff_getElem] at e
        obtain ⟨hi, h3, _⟩ := e
        have h5 := askOk_iff.1 (h.at hi)
        rw [isL_iff] at h3
        rw [h3.1, h3.2] at h5
        simp [stepOk, hf, inR] at hs hm
        omega
      · rfl
    · rfl
  · rw [Bool.not_eq_true] at hf
    simp only [hf]
    have : askOk s.who s.node s.mode = false := by
      rw [Bool.eq_false_iff] at hs ⊢
      intro h2
      apply hs
      have h3 := askOk_iff.1 h2
      simp [stepOk, hf, inR]
      omega
    simp [takeF, this]
theorem run_same : ∀ {r : List Stp} {l : List Lk}, Tab0 l → r.all stepOk = true → runN doS l r = runN doI l r
  | [], l, _, _ => rfl
  | s :: r, l, h, hs => by
    simp only [List.all_cons, Bool.and_eq_true] at hs
    simp only [runN]
    rw [step_same h hs.1]
    cases hd : doI l s with
    | none => rfl
    | some m => exact run_same (step_keeps h hd).1 hs.2
theorem run_bad : ∀ {r : List Stp} {l : List Lk}, Tab0 l → r.all stepOk = false → runN doI l r = none
  | [], l, _, hs => by simp at hs
  | s :: r, l, h, hs => by
    simp only [runN]
    by_cases h1 : stepOk s = true
    · simp only [List.all_cons, h1, Bool.true_and] at hs
      cases hd : doI l s with
      | none => rfl
      | some m => exact run_bad (step_keeps h hd).1 hs
    · rw [Bool.not_eq_true] at h1
      rw [step_bad h h1]
theorem run_keeps : ∀ {r : List Stp} {l m : List Lk}, Tab0 l → runN doI l r = some m → Tab0 m ∧ m.length ≤ l.length + r.length
  | [], l, m, h, e => by
    have := Option.some.inj e
    subst this
    exact ⟨h, by simp⟩
  | s :: r, l, m, h, e => by
    simp only [runN] at e
    cases hd : doI l s with
    | none => rw [hd] at e; cases e
    | some k =>
      rw [hd] at e
      have h1 := step_keeps h hd
      have h2 := run_keeps h1.1 e
      exact ⟨h2.1, by (simp <;> omega)⟩
/-- the table after all steps, if they are valid -/
noncomputable def tabF (r : List Stp) : Option (List Lk) := if r.length ≤ 16 then runN doI [] r else none
noncomputable def stpOk (r : List Stp) : Bool := (tabF r).isSome
/-- what the reference checks -/
theorem stpOk_spec (r : List Stp) : stpOk r = (decide (r.length ≤ 16) && r.all stepOk && (runN doS [] r).isSome) := by
  unfold stpOk tabF
  by_cases hl : r.length ≤ 16
  · simp only [hl, if_true, decide_true, Bool.true_and]
    by_cases h1 : r.all stepOk = true
    · rw [h1, run_same Tab0.nil h1, Bool.true_and]
    · rw [Bool.not_eq_true] at h1
      rw [run_bad Tab0.nil h1, h1]; rfl
  · simp [hl]
theorem tabF_spec {r : List Stp} (h : stpOk r = true) : tabF r = runN doS [] r ∧ r.length ≤ 16 ∧ r.all stepOk = true := by
  rw [stpOk_spec] at h
  simp only [Bool.and_eq_true, decide_eq_true_eq] at h
  exact ⟨by rw [tabF, if_pos h.1.1, run_same Tab0.nil h.1.2], h.1.1, h.1.2⟩
theorem tabF_len {r : List Stp} {m : List Lk} (h : tabF r = some m) : Tab0 m ∧ m.length ≤ 16 := by
  unfold tabF at h
  split at h
  · have := run_keeps Tab0.nil h
    exact ⟨this.1, by have := this.2; (simp at this <;> omega)⟩
  · cases h

/-- it takes a lock for 'who' -/
def takes (who : Int) (s : Stp) : Bool := (s.who == who) && !s.free
/-- the place of a transaction's last lock among the first k steps, -1 for none -/
def lastK (r : List Stp) (who : Int) : Nat → Int
  | 0 => -1
  | k + 1 => match r[k]? with
    | some s => if takes who s then (k : Int) else lastK r who k
    | none => lastK r who k
theorem lastK_yes {r : List Stp} {who : Int} {k : Nat} (hk : k < r.length) (h : takes who r[k] = true) : lastK r who (k + 1) = (k : Int) := by
  rw [lastK, List.getElem?_eq_getElem hk]; simp [h]
theorem lastK_no {r : List Stp} {who : Int} {k : Nat} (hk : k < r.length) (h : takes who r[k] = false) : lastK r who (k + 1) = lastK r who k := by
  rw [lastK, List.getElem?_eq_getElem hk]; simp [h]
theorem lastK_at {r : List Stp} {who : Int} {i : Nat} : ∀ {k : Nat}, lastK r who k = (i : Int) → ∃ h : i < r.length, takes who r[i] = true
  | 0, h => by (simp [lastK] at h <;> omega)
  | k + 1, h => by
    rw [lastK] at h
    split at h
    · rename_i s hs
      split at h
      · rename_i ht
        have e : k = i := by omega
        subst e
        obtain ⟨hk, rfl⟩ := List.getElem?_eq_some_iff.1 hs
        exact ⟨hk, ht⟩
      · exact lastK_at h
    · exact lastK_at h
theorem lastK_bd {r : List Stp} {who : Int} : ∀ {k : Nat}, -1 ≤ lastK r who k ∧ lastK r who k < (k : Int) ∨ lastK r who k = -1
  | 0 => .inr rfl
  | k + 1 => by
    rw [lastK]
    split
    · split
      · left; omega
      · rcases lastK_bd (r := r) (who := who) (k := k) with h | h
        · left; omega
        · exact .inr h
    · rcases lastK_bd (r := r) (who := who) (k := k) with h | h
      · left; omega
      · exact .inr h
def lastL (r : List Stp) (who : Int) : Int := lastK r who r.length
noncomputable def pointF (r : List Stp) (who : Int) : Int := if stpOk r then lastL r who else -1
/-- takes a transaction no lock behind the first one that it frees? -/
def twoL (who : Int) : Bool → List Stp → Bool
  | _, [] => true
  | freed, s :: r => if s.who == who then (if freed && !s.free then false else twoL who (freed || s.free) r) else twoL who freed r
noncomputable def twoF (r : List Stp) (who : Int) : Bool := stpOk r && twoL who false r
/-- those of the first k steps that are their transaction's last lock, by their transactions -/
def ordK (r : List Stp) : Nat → List Int
  | 0 => []
  | k + 1 => ordK r k ++ (match r[k]? with
    | some s => if lastL r s.who == (k : Int) then [s.who] else []
    | none => [])
noncomputable def ordF (r : List Stp) : List Int := if stpOk r then ordK r r.length else []
theorem ordK_len (r : List Stp) : ∀ k, (ordK r k).length ≤ k
  | 0 => Nat.le_refl _
  | k + 1 => by
    have := ordK_len r k
    simp only [ordK, List.length_append]
    split
    · split <;> simp <;> omega
    · simp; omega
theorem ordK_yes {r : List Stp} {k : Nat} (hk : k < r.length) (h : (lastL r r[k].who == (k : Int)) = true) : ordK r (k + 1) = ordK r k ++ [r[k].who] := by
  rw [ordK, List.getElem?_eq_getElem hk]; simp [h]
theorem ordK_no {r : List Stp} {k : Nat} (hk : k < r.length) (h : (lastL r r[k].who == (k : Int)) = false) : ordK r (k + 1) = ordK r k := by
  rw [ordK, List.getElem?_eq_getElem hk]; simp [h]
theorem last_free {r : List Stp} {k : Nat} (hk : k < r.length) (h : r[k].free = true) : (lastL r r[k].who == (k : Int)) = false := by
  rw [Bool.eq_false_iff]
  intro h2
  obtain ⟨_, h3⟩ := lastK_at (beq_iff_eq.1 h2)
  simp [takes, h] at h3
end Go.Proofs.YtfgcjdhcnalmmaaDoor
