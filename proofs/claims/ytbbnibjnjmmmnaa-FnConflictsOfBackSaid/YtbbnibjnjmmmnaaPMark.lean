/-
  Plain facts on lists of numbers: is a number in a list; the numbers below a bound that a test marks.
-/
namespace Go.Proofs.Ytbbnibjnjmmmnaa

/-- x is among the numbers. -/
def hasI (l : List Int) (x : Int) : Bool := l.any (· == x)
theorem hasI_mem {l : List Int} {x : Int} : hasI l x = true ↔ x ∈ l := by simp [hasI]
theorem hasI_not {l : List Int} {x : Int} : hasI l x = false ↔ x ∉ l := by rw [← hasI_mem]; simp

def pick4 (b0 b1 b2 b3 : Bool) : Nat → Bool
  | 0 => b0
  | 1 => b1
  | 2 => b2
  | _ => b3
/-- The numbers below k of the marks that are set. -/
def markU (p : Nat → Bool) : Nat → List Int
  | 0 => []
  | k + 1 => markU p k ++ (if p k then [(k : Int)] else [])
theorem markU_len (p : Nat → Bool) : ∀ k, (markU p k).length ≤ k
  | 0 => Nat.le_refl _
  | k + 1 => by have := markU_len p k; simp only [markU, List.length_append]; split <;> simp <;> omega

theorem markU_mem {p : Nat → Bool} {x : Int} : ∀ {k : Nat}, x ∈ markU p k → ∃ i : Nat, i < k ∧ x = (i : Int) ∧ p i = true
  | 0, h => by cases h
  | k + 1, h => by
    rw [markU] at h
    rcases List.mem_append.1 h with h | h
    · obtain ⟨i, hi, e, hp⟩ := markU_mem h
      exact ⟨i, by omega, e, hp⟩
    · split at h
      · rename_i hp
        simp at h
        exact ⟨k, by omega, h, hp⟩
      · cases h
theorem markU_congr {p q : Nat → Bool} : ∀ {k : Nat}, (∀ i, i < k → p i = q i) → markU p k = markU q k
  | 0, _ => rfl
  | k + 1, h => by rw [markU, markU, markU_congr (fun i hi => h i (by omega)), h k (by omega)]
theorem markU_none {p : Nat → Bool} : ∀ {k : Nat}, (∀ i, i < k → p i = false) → markU p k = []
  | 0, _ => rfl
  | k + 1, h => by rw [markU, markU_none (fun i hi => h i (by omega)), h k (by omega)]; rfl
end Go.Proofs.Ytbbnibjnjmmmnaa
