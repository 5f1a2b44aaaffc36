/-
  Cells of a block written over in a row; 'clear' on a slice of structs.
-/
import Derived.Test.YtfgcjdhcnalmmaaDoorMem2
import Derived.Laws.IdiomCopy
namespace Go.Proofs.YtfgcjdhcnalmmaaDoor
open Go.RowKit
theorem Blk.setCells {g : Nat} {e : TypeId} : ∀ (vs : List Value) {w : World} {cs : Array Value} (o : Nat), Blk w g e cs → Blk (w.setCells g o vs) g e (setAll cs o vs)
  | [], _, _, _, h => h
  | v :: vs, _, _, o, h => Blk.setCells vs (o + 1) (h.set o v)
theorem only_setCells {g : Nat} : ∀ (vs : List Value) {a w : World} (o : Nat), a.grownBy w (some g) → a.grownBy (w.setCells g o vs) (some g)
  | [], _, _, _, h => h
  | _ :: vs, _, _, o, h => only_setCells vs (o + 1) (only_set h)
theorem setAll_near (vs : List Value) : ∀ (cs : Array Value) (i : Nat), (setAll cs i vs).toList.take i = cs.toList.take i := by
  induction vs with
  | nil => intro cs i; rfl
  | cons v vs ih =>
    intro cs i
    rw [setAll]
    have h1 := ih (cs.setIfInBounds i v) (i + 1)
    have h2 : ∀ l : List Value, l.take i = (l.take (i + 1)).take i := fun l => by rw [List.take_take, Nat.min_eq_left (by omega)]
    rw [h2, h1, ← h2, Array.toList_setIfInBounds, List.take_set_of_le (Nat.le_refl _)]
theorem setAll_take_le (vs : List Value) (cs : Array Value) (i j : Nat) (h : j ≤ i) : (setAll cs i vs).toList.take j = cs.toList.take j := by
  have h2 : ∀ l : List Value, l.take j = (l.take i).take j := fun l => by rw [List.take_take, Nat.min_eq_left h]
  rw [h2, setAll_near, ← h2]
/-- 'clear(s)' at a slice of structs of one-cell fields -/
theorem run_clear_blk {P : Program} {t e ty : TypeId} {z : Value} {n : Nat} (ht : P.underlying t = some (.slice e)) (hv : ∀ w, (zeroValue e).run P w = .ok z w) (h1 : ∀ u ∈ (Builtin.zeroCells z.cells n).toList, u.oneCell' = true)
    {w : World} {g o c : Nat} {cs : Array Value} (hb : Blk w g e cs) (hn : 0 < n) (hs : o + n * z.cells.size ≤ cs.size) :
    (Builtin.clear_ #[t] ty #[.slice (some ⟨g, o, none⟩) n c]).run P w = .ok (.tuple #[]) (w.setCells g o (Builtin.zeroCells z.cells n).toList) := by
  have hlen : (Builtin.zeroCells z.cells n).toList.length = n * z.cells.size := by simp [Builtin.zeroCells]
  have hst := run_storeCells_cells (P := P) g o (Builtin.zeroCells z.cells n).toList 0 w (fun j hj => by
      obtain ⟨u, hu⟩ := hb.cell (o + j) (by omega)
      simp [hu]) (fun j _ => hb.free _) h1
  simp only [Nat.add_zero] at hst
  obtain ⟨m, rfl⟩ : ∃ m, n = m + 1 := ⟨n - 1, by omega⟩
  simp [Builtin.clear_, run_underlying ht, hv, hst]
theorem grown_below {w wr w2 : World} {row : Option Nat} (h : w.grownBy wr row) (hb : Below wr.heap.size wr w2) : w.grownBy w2 row :=
  ⟨hb.os.trans h.os, hb.tape.trans h.tape, hb.output.trans h.output, Nat.le_trans h.size hb.size, fun k hk hne => (hb.block k (Nat.lt_of_lt_of_le hk h.size)).trans (h.block k hk hne)⟩
end Go.Proofs.YtfgcjdhcnalmmaaDoor
