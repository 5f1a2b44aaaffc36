/-
  More words for memory: a list that another slice of the call's own does not touch while it grows.
-/
import Derived.Test.YteoeojbeaehdpaaDoorMem2
namespace Go.Proofs.YteoeojbeaehdpaaDoor
open Go.RowKit
/-- The list l lies from A on, in a block other than that of the slice vo. -/
def RdA {α : Type} (E : Enc α) (w : World) (A : Option Addr) (l : List α) (vo : Value) : Prop :=
  l = [] ∨ ∃ b o, A = some ⟨b, o, none⟩ ∧ b < w.heap.size ∧ vo.ownBlock ≠ some b ∧ ∀ k x, l[k]? = some x → ∀ j v, (E.cells x)[j]? = some v → w.cell? ⟨b, o + k * E.sz + j, none⟩ = some v
section
variable {α : Type} {E : Enc α}
theorem RdA.rd {w : World} {A : Option Addr} {l : List α} {vo : Value} (h : RdA E w A l vo) : Rd E w w.heap.size A l := by
  rcases h with h | ⟨b, o, h1, h2, _, h3⟩
  · exact .inl h
  · exact .inr ⟨b, o, h1, h2, h3⟩
theorem RdA.push {w w' : World} {A : Option Addr} {l : List α} {vo vo' : Value} (h : RdA E w A l vo) (hg : w.grownBy w' vo.ownBlock) (hat : vo'.ownBlock = vo.ownBlock ∨ ∃ k, w.heap.size ≤ k ∧ vo'.ownBlock = some k) : RdA E w' A l vo' := by
  rcases h with h | ⟨b, o, h1, h2, h3, h4⟩
  · exact .inl h
  · refine .inr ⟨b, o, h1, Nat.lt_of_lt_of_le h2 hg.size, ?_, fun k x hx j v hv => ?_⟩
    · rcases hat with e | ⟨k, hk, e⟩
      · rw [e]; exact h3
      · rw [e]; intro e2; injection e2 with e2; omega
    · rw [World.cell?_of_block (w := w) (hg.block b h2 (fun e => h3 e.symm))]
      exact h4 k x hx j v hv
theorem RdA.grow {w w' : World} {A : Option Addr} {l : List α} {vo : Value} (h : RdA E w A l vo) (hb : Below w.heap.size w w') : RdA E w' A l vo := by
  rcases h with h | ⟨b, o, h1, h2, h3, h4⟩
  · exact .inl h
  · exact .inr ⟨b, o, h1, Nat.lt_of_lt_of_le h2 hb.size, h3, fun k x hx j v hv => by rw [World.cell?_of_block (w := w) (hb.block b h2)]; exact h4 k x hx j v hv⟩
/-- what lay there before the slice's blocks -/
theorem RdA.old {w : World} {B : Nat} {A : Option Addr} {l : List α} {vo : Value} (h : Rd E w B A l) (hB : B ≤ w.heap.size) (hvo : ∀ k, vo.ownBlock = some k → B ≤ k) : RdA E w A l vo := by
  rcases h with h | ⟨b, o, h1, h2, h3⟩
  · exact .inl h
  · exact .inr ⟨b, o, h1, by omega, fun e => by have := hvo b e; omega, h3⟩
/-- a slice of the call's own in another block -/
theorem RdA.own {w : World} {base : Nat} {A : Option Addr} {n c : Nat} {e : TypeId} {l : List α} {vo : Value} (h : Own E e w base (.slice A n c) l) (ha : ∀ k, vo.ownBlock = some k → k < base) : RdA E w A l vo := by
  rcases h.block with ⟨e1, rfl⟩ | ⟨g, c', cs, e1, hb, hblk, _, _, _, _⟩
  · exact .inl rfl
  · injection e1 with e1 e2 e3
    subst e1
    rcases h.rd.1 with h1 | ⟨b, o, h1, h2, h3⟩
    · exact .inl h1
    · injection h1 with h1
      injection h1 with h1 h4 _
      subst h1 h4
      exact .inr ⟨g, 0, rfl, h2, fun e => by have := ha g e; omega, h3⟩
end
end Go.Proofs.YteoeojbeaehdpaaDoor
