/-
  An append of one element to a slice of the call's own, as one step of a region that draws its order.
-/
import Derived.Test.YtbbnibjnjmmmnaaMem2
import Derived.Deep.RegionLaw
namespace Go.Proofs.Ytbbnibjnjmmmnaa
open Go.RowKit
theorem step_ap1 {α : Type} {E : Enc α} {P : Program} {t e : TypeId} {z : Value} {bytes : Nat} (T : SlT P E t e z bytes) {ops : Array Oper} {o : Oper} {a : Act} {K : Act → World → Prop} {Q : Exit → Act → World → Prop} {Z : Prop} (hgd : o.guard = none) (s x : Operand)
    (hop : o.op = .call { callee := .builtin .append, args := #[s, x], argTypes := #[t, t] })
    (wr : World) (cs : Array Value) (y : α) (hcs : cs.toList = E.cells y) (a0 : World) (B : Nat) (v : Value) (l : List α) (hs : a.eval s = v) (ho : Own E e wr B v l) (gx : Nat) (hgx : gx = wr.heap.size)
    (hx : a.eval x = .slice (some ⟨gx, 0, none⟩) 1 1) (hlen : l.length ≤ 10000000) (hb : Below B a0 wr) (hB : B ≤ a0.heap.size)
    (h : ∀ v' w', Own E e w' B v' (l ++ [y]) → Below B a0 w' → wr.grownBy w' v.ownBlock → (v'.ownBlock = v.ownBlock ∨ ∃ k, wr.heap.size ≤ k ∧ v'.ownBlock = some k) → K (a.put o.dst v') w') :
    if Region.wanted o (yielded ops a.tmps) = true then Oper.wp P o a (wr.alloc (.cells cs e)) K Q else Z := by
  subst hgx
  have hw : Region.wanted o (yielded ops a.tmps) = true := by simp [Region.wanted, hgd]
  rw [if_pos hw]
  have hsz : B ≤ wr.heap.size := Nat.le_trans hB hb.size
  obtain ⟨v', w', hrun, ho', hg, hat⟩ := run_ap T (wr.alloc (.cells cs e)) o.type B v l (ho.alloc _) _ _ 1 [y] (rd_new wr cs e [y] (by rw [hcs, E.flat_one])) (by simp; omega) (by simp; omega)
  unfold Oper.wp execOp
  rw [show ([y] : List α).length = 1 from rfl] at hrun
  simp only [hop, resolve, invoke, builtin, Sem.run_bind, Sem.run_pure, Result.andThen_ok, List.map_toArray, List.map_cons, List.map_nil, hs, hx, hrun]
  refine h v' w' ho' (below_own (hb.alloc hsz _) (ho.alloc _) hg (by simp; omega)) ⟨hg.os, hg.tape, hg.output, by have := hg.size; simp at this; omega, fun k hk hne => (hg.block k (by simp; omega) hne).trans (Below.heap_alloc wr _ k hk)⟩ ?_
  rcases hat with e | e
  · exact .inl e
  · exact .inr ⟨_, by simp, e⟩
end Go.Proofs.Ytbbnibjnjmmmnaa
