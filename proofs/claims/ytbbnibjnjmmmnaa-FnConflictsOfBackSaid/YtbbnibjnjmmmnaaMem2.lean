/-
  More words for memory.
-/
import Derived.Test.YtbbnibjnjmmmnaaMem
namespace Go.Proofs.Ytbbnibjnjmmmnaa
open Go.RowKit
theorem Own.setOther {α : Type} {E : Enc α} {e : TypeId} {w : World} {base g i : Nat} {v u : Value} {l : List α} (h : Own E e w base v l) (hne : v.ownBlock ≠ some g) : Own E e (w.setCell ⟨g, i, none⟩ u) base v l :=
  h.kept (only_set (World.grownBy.refl w _)) (.inr hne)
theorem ne_grown {v v' : Value} {g n : Nat} (h : v.ownBlock ≠ some g) (hg : g < n) (hat : v'.ownBlock = v.ownBlock ∨ ∃ k, n ≤ k ∧ v'.ownBlock = some k) : v'.ownBlock ≠ some g := by
  rcases hat with e | ⟨k, hk, e⟩
  · rw [e]; exact h
  · rw [e]; intro e'; injection e'; omega
/-- 'wpList_ap1' where the new block's number is spelt in another way -/
theorem wpList_ap1g {α : Type} {E : Enc α} {P : Program} {t e : TypeId} {z : Value} {bytes : Nat} (T : SlT P E t e z bytes) {ops : Array Oper} {rest : List Oper} {o : Oper} {a : Act} {Q : Exit → Act → World → Prop} (hgd : o.guard = none) (s x : Operand)
    (hop : o.op = .call { callee := .builtin .append, args := #[s, x], argTypes := #[t, t] })
    (wr : World) (cs : Array Value) (y : α) (hcs : cs.toList = E.cells y) (a0 : World) (B : Nat) (v : Value) (l : List α) (hs : a.eval s = v) (ho : Own E e wr B v l) (gx : Nat) (hgx : gx = wr.heap.size)
    (hx : a.eval x = .slice (some ⟨gx, 0, none⟩) 1 1) (hlen : l.length ≤ 10000000) (hb : Below B a0 wr) (hB : B ≤ a0.heap.size)
    (h : ∀ v' w', Own E e w' B v' (l ++ [y]) → Below B a0 w' → wr.grownBy w' v.ownBlock → (v'.ownBlock = v.ownBlock ∨ ∃ k, wr.heap.size ≤ k ∧ v'.ownBlock = some k) → wpList P ops Q rest (a.put o.dst v') w') : wpList P ops Q (o :: rest) a (wr.alloc (.cells cs e)) := by
  subst hgx
  exact wpList_ap1 T hgd s x hop wr cs y hcs a0 B v l hs ho hx hlen hb hB h
end Go.Proofs.Ytbbnibjnjmmmnaa
