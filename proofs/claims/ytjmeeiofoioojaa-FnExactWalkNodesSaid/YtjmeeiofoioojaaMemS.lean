/-
  A slice of numbers of the call's own, handed to the library's sort or turned around by it.
-/
import Derived.Test.YtjmeeiofoioojaaTIn
import Derived.Sort.Grow
namespace Go.Proofs.Ytjmeeiofoioojaa
open Go.RowKit Go.Sort

theorem flat_in (l : List Int) : inE.flat l = l.map (Value.int .i64) := by
  induction l with
  | nil => rfl
  | cons x l ih => rw [Enc.flat, List.flatMap_cons, ← Enc.flat, ih]; rfl
theorem own_holds {α : Type} [Inhabited α] {enc : α → Value} {f : α → Int} (he : ∀ x, enc x = .int .i64 (f x)) {w : World} {base g c n : Nat} {l : List Int} {e : TypeId}
    (h : Own inE e w base (.slice (some ⟨g, 0, none⟩) n c) l) (d : Array α) (hd : d.toList.map f = l) : Holds enc w g 0 d := by
  rcases h.block with ⟨e1, _⟩ | ⟨g', c', cs, e1, hb, hblk, hc, hcm, hcs, htake⟩
  · cases e1
  · injection e1 with e1 _ _
    injection e1 with e1
    injection e1 with e1 _ _
    subst e1
    intro j hj
    refine ⟨?_, hblk.free _⟩
    rw [cell_of_row w g _ cs e (0, 0) hblk, Nat.zero_add]
    have h1 : (cs.toList.take (l.length * inE.sz))[j]? = ((d.toList.map f).map (Value.int .i64))[j]? := by rw [htake, flat_in, hd]
    rw [List.getElem?_take, if_pos (by rw [← hd]; simpa [inE] using hj)] at h1
    rw [← Array.getElem?_toList, h1, getElem!_pos d j hj, he]
    simp [hj]
theorem own_sorted {α : Type} [Inhabited α] {enc : α → Value} {f : α → Int} (he : ∀ x, enc x = .int .i64 (f x)) {w : World} {base g c n : Nat} {l : List Int} {e : TypeId}
    (h : Own inE e w base (.slice (some ⟨g, 0, none⟩) n c) l) (d : Array α) (hd : d.size = l.length) (m : Nat) (os : Array Obj) :
    Own inE e (grow (putRow enc (Go.Sort.ahead w m) g 0 d) os) base (.slice (some ⟨g, 0, none⟩) n c) (d.toList.map f) ∧ w.grownBy (grow (putRow enc (Go.Sort.ahead w m) g 0 d) os) (some g) := by
  rcases h.block with ⟨e1, _⟩ | ⟨g', c', cs, e1, hb, hblk, hc, hcm, hcs, htake⟩
  · cases e1
  · injection e1 with e1 e2 e3
    injection e1 with e1
    injection e1 with e1 _ _
    subst e1 e2 e3
    have hlt := hblk.lt
    have hh : (putRow enc (Go.Sort.ahead w m) g 0 d).heap[g]? = some (.cells (putCells enc 0 d cs) e (0, 0)) := by
      have : w.heap[g]? = some (.cells cs e (0, 0)) := hblk
      simp [putRow, mapBlock, Array.getElem?_modify, this, onCells]
    have hblk' : Blk (grow (putRow enc (Go.Sort.ahead w m) g 0 d) os) g e (putCells enc 0 d cs) := (heap_grow_old _ os (by simpa using hlt)).trans hh
    refine ⟨own_blk hblk' base hb _ (by simp [hd]) hc hcm (by simpa [putCells] using hcs) ?_, rfl, rfl, rfl, by simp, fun k hk hne => ?_⟩
    · rw [flat_in]
      apply List.ext_getElem?
      intro j
      simp only [List.getElem?_map, Array.getElem?_toList, List.getElem?_take, putCells, Array.getElem?_mapIdx]
      by_cases hj : j < l.length
      · rw [if_pos (by simpa [inE] using hj), Array.getElem?_eq_getElem (show j < d.size by omega)]
        have hcs' : cs.size = c * 1 := hcs
        rw [Array.getElem?_eq_getElem (show j < cs.size by omega)]
        simp only [Option.map_some, Nat.zero_le, true_and, Nat.zero_add, Nat.sub_zero]
        rw [if_pos (by omega), getElem!_pos d j (by omega), he]
      · rw [if_neg (by simpa [inE] using hj), Array.getElem?_eq_none (show d.size ≤ j by omega)]; rfl
    · rw [heap_grow_old _ os (by simpa using hk)]
      have hne2 : g ≠ k := fun e => hne (by rw [e])
      simp [putRow, mapBlock, Array.getElem?_modify, hne2]
end Go.Proofs.Ytjmeeiofoioojaa
