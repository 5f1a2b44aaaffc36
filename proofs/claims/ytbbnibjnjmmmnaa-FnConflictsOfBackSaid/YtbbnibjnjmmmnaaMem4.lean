/-
  One cell of one element of a slice of the call's own is written over.
-/
import Derived.Test.YtbbnibjnjmmmnaaMem2
namespace Go.Proofs.Ytbbnibjnjmmmnaa
open Go.RowKit
section
variable {α : Type} {E : Enc α}
theorem Enc.flat_put (E : Enc α) : ∀ (l : List α) (i : Nat) (hi : i < l.length) (j : Nat) (_ : j < E.sz) (x : α) (u : Value), E.cells x = (E.cells l[i]).set j u → E.flat (l.set i x) = (E.flat l).set (i * E.sz + j) u
  | [], i, hi, _, _, _, _, _ => by simp at hi
  | y :: l, 0, _, j, hj, x, u, hx => by
    have hx' : E.cells x = (E.cells y).set j u := hx
    rw [List.set_cons_zero, Enc.flat, Enc.flat, List.flatMap_cons, List.flatMap_cons, hx', Nat.zero_mul, Nat.zero_add, List.set_append_left _ _ (by rw [E.len]; exact hj)]
  | y :: l, i + 1, hi, j, hj, x, u, hx => by
    have ih := Enc.flat_put E l i (by simpa using hi) j hj x u (by simpa using hx)
    rw [List.set_cons_succ]
    simp only [Enc.flat, List.flatMap_cons] at ih ⊢
    rw [ih, List.set_append_right _ _ (by rw [E.len, Nat.add_mul]; omega), E.len]
    congr 2
    rw [Nat.add_mul]; omega
/-- a slice that is not empty lies at the head of a block -/
theorem Own.at {e : TypeId} {w : World} {base : Nat} {v : Value} {l : List α} (h : Own E e w base v l) {i : Nat} (hi : i < l.length) :
    ∃ g c cs, v = .slice (some ⟨g, 0, none⟩) l.length c ∧ base ≤ g ∧ Blk w g e cs ∧ l.length ≤ c ∧ (∀ j u, (E.cells l[i])[j]? = some u → w.cell? ⟨g, i * E.sz + j, none⟩ = some u) ∧
      (∀ j x u, j < E.sz → E.cells x = (E.cells l[i]).set j u → Own E e (w.setCell ⟨g, i * E.sz + j, none⟩ u) base v (l.set i x)) := by
  rcases h.block with ⟨_, rfl⟩ | ⟨g, c, cs, rfl, hb, hblk, hlc, hcm, hcs, htk⟩
  · simp at hi
  · refine ⟨g, c, cs, rfl, hb, hblk, hlc, fun j u hu => ?_, fun j x u hj hx => ?_⟩
    · have hr := h.rd.1
      rcases hr with h0 | ⟨b, o, e1, _, h2⟩
      · subst h0; simp at hi
      · injection e1 with e1
        injection e1 with e1 e2 _
        subst e1 e2
        have := h2 i l[i] (List.getElem?_eq_getElem hi) j u hu
        rwa [Nat.zero_add] at this
    · have h1 := own_blk (E := E) (hblk.set (i * E.sz + j) u) base hb (l.set i x) (n := l.length) (c := c) (by simp) hlc hcm (by simpa using hcs) (by
        rw [Array.toList_setIfInBounds, List.take_set, htk, Enc.flat_put E l i hi j hj x u hx])
      exact h1
end
end Go.Proofs.Ytbbnibjnjmmmnaa
