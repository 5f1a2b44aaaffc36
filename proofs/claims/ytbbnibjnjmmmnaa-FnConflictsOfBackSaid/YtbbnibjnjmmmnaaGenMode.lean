/-
  The contracts of the generators of modes: whatever the code, one or two numbers; nothing that was there turns.
-/
import Derived.Test.YtbbnibjnjmmmnaaGen
namespace Go.Proofs.Ytbbnibjnjmmmnaa
open Go.RowKit

theorem Rdr.alloc {w : World} {g : Nat} {l : List Int} {p : Nat} (h : Rdr w g l p) (o : Obj) : Rdr (w.alloc o) g l p :=
  h.below (B := w.heap.size) ((Below.refl _ _).alloc (Nat.le_refl _) o) h.lt
theorem Rdr.grown {w w' : World} {g : Nat} {l : List Int} {p : Nat} (h : Rdr w g l p) (hb : Below w.heap.size w w') : Rdr w' g l p := h.below hb h.lt

/-- 'one' of a list that the text writes out. -/
theorem one_lit (g : Nat) (l : List Int) (p : Nat) (hp : p < 100000) (w : World) (h : Rdr w g l p) (cs : Array Value) (T : TypeId) (n : Nat) (xs : List Int) (hn : 1 ≤ n) (hn2 : n ≤ 100000) (hlen : n ≤ xs.length) (hcs : cs = (xs.map (Value.int .i64)).toArray) :
    Calls Try.prog 79 #[.pointer (some ⟨g, 0, none⟩), .slice (some ⟨w.heap.size, 0, none⟩) n n] (w.alloc (.cells cs T)) fun e w' => ∃ x, x ∈ xs ∧ e = .returned (.int .i64 x) ∧ Rdr w' g l (p + 1) ∧ w.grownBy w' (some g) := by
  have hlt := h.lt
  refine (one_c g l p hp _ (h.alloc _) w.heap.size n n xs hn hn2 hlen (fun k x hx => ?_) (by omega) (by simp)).mono ?_
  · subst hcs
    rw [cell_of_row _ _ _ _ _ _ (heap_alloc_new w _)]
    simp [hx]
  · rintro e w' ⟨x, hx, rfl, hr, hg, hz⟩
    exact ⟨x, hx, rfl, hr, ⟨hg.os, hg.tape, hg.output, by have := hg.size; simp at this; omega, fun k hk hne => (hg.block k (by simp; omega) hne).trans (Below.heap_alloc w _ k hk)⟩⟩
end Go.Proofs.Ytbbnibjnjmmmnaa
