/-
  Plain facts on conflicts: of a part, of reads alone, of the accesses in reverse.
-/
import Derived.Test.YtbbnibjnjmmmnaaEql
import Derived.Test.YtbbnibjnjmmmnaaPRead
namespace Go.Proofs.Ytbbnibjnjmmmnaa

theorem row_mem {f : Nat → Nat → Bool} {a : Nat} {x : Int × Int} : ∀ {n : Nat}, x ∈ rowP f a n ↔ ∃ b : Nat, b < n ∧ f a b = true ∧ x = ((a : Int), (b : Int))
  | 0 => by simp [rowP]
  | n + 1 => by
    rw [rowP, List.mem_append, row_mem]
    constructor
    · rintro (⟨b, h1, h2, h3⟩ | h)
      · exact ⟨b, by omega, h2, h3⟩
      · split at h
        · rename_i hf
          rw [List.mem_singleton] at h
          exact ⟨n, by omega, hf, h⟩
        · simp at h
    · rintro ⟨b, h1, h2, h3⟩
      by_cases e : b = n
      · subst e
        right
        rw [if_pos h2, List.mem_singleton]
        exact h3
      · exact .inl ⟨b, by omega, h2, h3⟩
theorem conf_mem {f : Nat → Nat → Bool} {x : Int × Int} : ∀ {n : Nat}, x ∈ confP f n ↔ ∃ a b : Nat, a < n ∧ b < 4 ∧ f a b = true ∧ x = ((a : Int), (b : Int))
  | 0 => by simp [confP]
  | n + 1 => by
    rw [confP, List.mem_append, conf_mem, row_mem]
    constructor
    · rintro (⟨a, b, h1, h2, h3, h4⟩ | ⟨b, h2, h3, h4⟩)
      · exact ⟨a, b, by omega, h2, h3, h4⟩
      · exact ⟨n, b, by omega, h2, h3, h4⟩
    · rintro ⟨a, b, h1, h2, h3, h4⟩
      by_cases e : a = n
      · subst e; exact .inr ⟨b, h2, h3, h4⟩
      · exact .inl ⟨a, b, by omega, h2, h3, h4⟩
theorem valid_take {ws : List Acc} (h : validAcc ws = true) (n : Nat) : validAcc (ws.take n) = true := by
  simp only [validAcc, Bool.and_eq_true, decide_eq_true_eq, List.all_eq_true] at h ⊢
  exact ⟨fun x hx => h.1 x (List.mem_of_mem_take hx), by rw [List.length_take]; omega⟩
theorem fol_take {ws : List Acc} {n : Nat} {a b : Int} (h : folB (ws.take n) a b = true) : folB ws a b = true := by
  simp only [folB, Bool.and_eq_true, decide_eq_true_eq] at h ⊢
  refine ⟨h.1, ?_⟩
  obtain ⟨i, k, x, y, hik, h1, h2, h3⟩ := h.2
  rw [List.getElem?_take] at h1 h2
  split at h1
  · split at h2
    · exact ⟨i, k, x, y, hik, h1, h2, h3⟩
    · cases h2
  · cases h1
theorem part_mem {ws : List Acc} (h : validAcc ws = true) {n : Nat} {x : Int × Int} (hx : x ∈ confF (ws.take n)) : x ∈ confF ws := by
  rw [confF, valid_take h, if_pos rfl, conf_mem] at hx
  rw [confF, h, if_pos rfl, conf_mem]
  obtain ⟨a, b, h1, h2, h3, h4⟩ := hx
  exact ⟨a, b, h1, h2, fol_take h3, h4⟩
theorem read_conf (ws : List Acc) : confF (ws.map readA) = [] := by
  unfold confF
  split
  · rw [List.eq_nil_iff_forall_not_mem]
    intro x hx
    rw [conf_mem] at hx
    obtain ⟨a, b, _, _, h3, _⟩ := hx
    rw [read_fol] at h3
    cases h3
  · rfl
theorem pe_yes {x y : P2} (h : (x.a, x.b) = (y.a, y.b)) : pe x y = true := by
  injection h with h1 h2
  rw [pe, h1, h2]; simp
theorem any_pe {Lp Lg : List P2} {i : Nat} (hi : i < Lp.length) (h : ∀ x, x ∈ prs Lp → x ∈ prs Lg) : Lg.any (pe Lp[i]) = true := by
  have := h (Lp[i].a, Lp[i].b) (List.mem_map.2 ⟨_, List.getElem_mem hi, rfl⟩)
  obtain ⟨y, hy, he⟩ := List.mem_map.1 this
  rw [List.any_eq_true]
  exact ⟨y, hy, pe_yes he.symm⟩

theorem rev_fol (ws : List Acc) (a b : Int) (h : folB ws a b = true) : folB ws.reverse b a = true := by
  simp only [folB, Bool.and_eq_true, decide_eq_true_eq] at h ⊢
  refine ⟨by have := h.1; rw [Bool.not_eq_true', beq_eq_false_iff_ne] at this ⊢; exact fun e => this e.symm, ?_⟩
  obtain ⟨i, k, x, y, hik, h1, h2, h3⟩ := h.2
  obtain ⟨hi, rfl⟩ := List.getElem?_eq_some_iff.1 h1
  obtain ⟨hk, rfl⟩ := List.getElem?_eq_some_iff.1 h2
  refine ⟨ws.length - 1 - k, ws.length - 1 - i, ws[k], ws[i], by omega, ?_, ?_, ?_⟩
  · rw [List.getElem?_reverse (by omega), show ws.length - 1 - (ws.length - 1 - k) = k by omega]; exact h2
  · rw [List.getElem?_reverse (by omega), show ws.length - 1 - (ws.length - 1 - i) = i by omega]; exact h1
  · simp only [pairB, Bool.and_eq_true, beq_iff_eq, Bool.or_eq_true] at h3 ⊢
    obtain ⟨⟨e1, e2⟩, e3, e4⟩ := h3
    exact ⟨⟨e2, e1⟩, e3.symm, e4.symm⟩
theorem rev_fol2 (ws : List Acc) (a b : Nat) : folS ws.reverse a b = folS ws b a := by
  rw [Bool.eq_iff_iff]
  constructor
  · intro h
    have := rev_fol _ _ _ h
    rwa [List.reverse_reverse] at this
  · exact fun h => rev_fol _ _ _ h
theorem rev_valid (ws : List Acc) : validAcc ws.reverse = validAcc ws := by
  simp [validAcc]
theorem rev_mem {ws : List Acc} {a b : Int} (h : (a, b) ∈ confF ws) : (b, a) ∈ confF ws.reverse := by
  unfold confF at h ⊢
  rw [rev_valid]
  split at h
  · rename_i hv
    rw [if_pos hv]
    rw [conf_mem] at h ⊢
    obtain ⟨x, y, h1, h2, h3, h4⟩ := h
    injection h4 with e1 e2
    exact ⟨y, x, h2, h1, by rw [rev_fol2]; exact h3, by rw [e1, e2]⟩
  · simp at h
def n1 (b : Bool) : Nat := if b then 1 else 0
theorem ite_len (b : Bool) (x : Int × Int) : (if b then [x] else []).length = n1 b := by cases b <;> rfl
theorem row_n (f : Nat → Nat → Bool) (a : Nat) : (rowP f a 4).length = n1 (f a 0) + n1 (f a 1) + n1 (f a 2) + n1 (f a 3) := by
  simp only [rowP, List.length_append, ite_len, List.length_nil]; omega
theorem conf_n (f : Nat → Nat → Bool) : (confP f 4).length = (confP (fun a b => f b a) 4).length := by
  simp only [confP, List.length_append, row_n, List.length_nil]; omega
theorem rev_len (ws : List Acc) : (confF ws.reverse).length = (confF ws).length := by
  unfold confF
  rw [rev_valid]
  split
  · rw [conf_n (folS ws.reverse)]
    exact congrArg List.length (confP_congr (fun i k _ _ => rev_fol2 ws k i))
  · rfl
end Go.Proofs.Ytbbnibjnjmmmnaa
