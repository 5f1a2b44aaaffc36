/-
  Plain laws on lock modes.
-/
import Derived.Test.YteoeojbeaehdpaaDoorPMode
namespace Go.Proofs.YteoeojbeaehdpaaDoor

def modes : List Int := [0, 1, 2, 3, 4, 5]
theorem mem_modes {m : Int} (h : modeB m = true) : m ∈ modes := by
  rcases modeB_cases h with rfl | rfl | rfl | rfl | rfl | rfl <;> decide
theorem modes_mem {m : Int} (h : m ∈ modes) : modeB m = true := by
  have : ∀ m ∈ modes, modeB m = true := by decide
  exact this m h

theorem strM_modes {a b : Int} (h : strM a b = true) : a ∈ modes ∧ b ∈ modes := by
  simp only [strM, Bool.and_eq_true] at h
  exact ⟨mem_modes h.1.1, mem_modes h.1.2⟩
theorem togM_modes {a b : Int} (h : togM a b = true) : a ∈ modes ∧ b ∈ modes := by
  simp only [togM, Bool.and_eq_true] at h
  exact ⟨mem_modes h.1.1, mem_modes h.1.2⟩
theorem joinM_modes {a b : Int} (h : ¬ joinM a b < 0) : a ∈ modes ∧ b ∈ modes := by
  unfold joinM at h
  split at h
  · rename_i h2
    simp only [Bool.and_eq_true] at h2
    exact ⟨mem_modes h2.1, mem_modes h2.2⟩
  · omega
theorem needM_modes {a : Int} (h : ¬ needM a < 0) : a ∈ modes := by
  unfold needM at h
  split at h
  · rename_i h2
    exact mem_modes h2
  · omega

theorem str_trans {a b m : Int} (h : strM a b = true) (h2 : strM b m = true) : strM a m = true := by
  have k : ∀ a ∈ modes, ∀ b ∈ modes, ∀ m ∈ modes, (strM a b && strM b m) = true → strM a m = true := by decide +kernel
  exact k a (strM_modes h).1 b (strM_modes h).2 m (strM_modes h2).2 (by simp [h, h2])
theorem tog_weaker {a b m : Int} (h : togM a b = true) (h2 : strM b m = true) : togM a m = true := by
  have k : ∀ a ∈ modes, ∀ b ∈ modes, ∀ m ∈ modes, (togM a b && strM b m) = true → togM a m = true := by decide +kernel
  exact k a (togM_modes h).1 b (togM_modes h).2 m (strM_modes h2).2 (by simp [h, h2])
theorem join_bound {a b : Int} (h : ¬ joinM a b < 0) : joinM a b = a ∨ joinM a b = b ∨ (a = 2 ∧ b = 3) ∨ (a = 3 ∧ b = 2) := by
  have k : ∀ a ∈ modes, ∀ b ∈ modes, joinM a b = a ∨ joinM a b = b ∨ (a = 2 ∧ b = 3) ∨ (a = 3 ∧ b = 2) := by decide +kernel
  exact k a (joinM_modes h).1 b (joinM_modes h).2
theorem join_assoc {a b m : Int} (h : ¬ joinM a b < 0) (hm : modeB m = true) : joinM (joinM a b) m = joinM a (joinM b m) := by
  have k : ∀ a ∈ modes, ∀ b ∈ modes, ∀ m ∈ modes, joinM (joinM a b) m = joinM a (joinM b m) := by decide +kernel
  exact k a (joinM_modes h).1 b (joinM_modes h).2 m (mem_modes hm)
theorem join_self {a b : Int} (h : ¬ joinM a b < 0) : joinM a a = a ∧ joinM a 0 = a := by
  have k : ∀ a ∈ modes, joinM a a = a ∧ joinM a 0 = a := by decide +kernel
  exact k a (joinM_modes h).1
theorem str_ends {a b : Int} (h : ¬ joinM a b < 0) : strM 5 a = true ∧ strM a 0 = true ∧ strM a b = (joinM a b == a) ∧ (strM a b && strM b a) = (a == b) := by
  have k : ∀ a ∈ modes, ∀ b ∈ modes, strM 5 a = true ∧ strM a 0 = true ∧ strM a b = (joinM a b == a) ∧ (strM a b && strM b a) = (a == b) := by decide +kernel
  exact k a (joinM_modes h).1 b (joinM_modes h).2
theorem join_least {a b m : Int} (h : strM m a = true) (h2 : strM m b = true) : strM m (joinM a b) = true := by
  have k : ∀ a ∈ modes, ∀ b ∈ modes, ∀ m ∈ modes, (strM m a && strM m b) = true → strM m (joinM a b) = true := by decide +kernel
  exact k a (strM_modes h).2 b (strM_modes h2).2 m (strM_modes h).1 (by simp [h, h2])
theorem join_strong {a b : Int} (h : ¬ joinM a b < 0) : strM (joinM a b) a = true ∧ strM (joinM a b) b = true ∧ joinM b a = joinM a b := by
  have k : ∀ a ∈ modes, ∀ b ∈ modes, strM (joinM a b) a = true ∧ strM (joinM a b) b = true ∧ joinM b a = joinM a b := by decide +kernel
  exact k a (joinM_modes h).1 b (joinM_modes h).2
theorem join_together {a b m : Int} (h : ¬ joinM a b < 0) (hm : modeB m = true) : togM m (joinM a b) = (togM m a && togM m b) := by
  have k : ∀ a ∈ modes, ∀ b ∈ modes, ∀ m ∈ modes, togM m (joinM a b) = (togM m a && togM m b) := by decide +kernel
  exact k a (joinM_modes h).1 b (joinM_modes h).2 m (mem_modes hm)
theorem tog_mutual {a b : Int} (h : ¬ joinM a b < 0) : togM b a = togM a b ∧ togM 0 b = true ∧ togM a 5 = (a == 0) := by
  have k : ∀ a ∈ modes, ∀ b ∈ modes, togM b a = togM a b ∧ togM 0 b = true ∧ togM a 5 = (a == 0) := by decide +kernel
  exact k a (joinM_modes h).1 b (joinM_modes h).2
theorem need_less {m : Int} (h : ¬ needM m < 0) : strM m (needM m) = true ∧ needM (needM m) = needM m := by
  have k : ∀ m ∈ modes, strM m (needM m) = true ∧ needM (needM m) = needM m := by decide +kernel
  exact k m (needM_modes h)
theorem need_tog {m k : Int} (h : ¬ needM m < 0) (hk : modeB k = true) : togM (needM m) (needM k) = true := by
  have t : ∀ m ∈ modes, ∀ k ∈ modes, togM (needM m) (needM k) = true := by decide +kernel
  exact t m (needM_modes h) k (mem_modes hk)
theorem need_str {a b : Int} (h : strM a b = true) : strM (needM a) (needM b) = true := by
  have k : ∀ a ∈ modes, ∀ b ∈ modes, strM a b = true → strM (needM a) (needM b) = true := by decide +kernel
  exact k a (strM_modes h).1 b (strM_modes h).2 h
theorem need_join {a b : Int} (h : ¬ joinM a b < 0) : needM (joinM a b) = joinM (needM a) (needM b) := by
  have k : ∀ a ∈ modes, ∀ b ∈ modes, needM (joinM a b) = joinM (needM a) (needM b) := by decide +kernel
  exact k a (joinM_modes h).1 b (joinM_modes h).2
end Go.Proofs.YteoeojbeaehdpaaDoor
