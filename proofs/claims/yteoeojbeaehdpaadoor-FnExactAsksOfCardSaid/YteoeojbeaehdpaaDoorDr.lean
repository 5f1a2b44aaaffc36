/-
  The world but for draws.
-/
import Derived.Test.YteoeojbeaehdpaaDoorMem
namespace Go.Proofs.YteoeojbeaehdpaaDoor
open Go.RowKit
def Dr (w w' : World) : Prop := ∃ n, w' = w.drewN n
theorem Dr.refl (w : World) : Dr w w := ⟨0, rfl⟩
theorem Dr.drewN {a w : World} (h : Dr a w) (n : Nat) : Dr a (w.drewN n) := by
  obtain ⟨m, rfl⟩ := h
  exact ⟨m + n, by simp [World.drewN, Nat.add_assoc]⟩
theorem Dr.trans {a b c : World} (h : Dr a b) (h2 : Dr b c) : Dr a c := by
  obtain ⟨n, rfl⟩ := h2; exact h.drewN n
theorem Dr.below {w w' : World} (h : Dr w w') (B : Nat) : Below B w w' := by
  obtain ⟨n, rfl⟩ := h; exact below_drewN (Below.refl _ _) n
theorem Rd.dr {α : Type} {E : Enc α} {w w' : World} {B : Nat} {A : Option Addr} {l : List α} (h : Rd E w B A l) (hd : Dr w w') : Rd E w' B A l := h.below (hd.below B) (Nat.le_refl _)
end Go.Proofs.YteoeojbeaehdpaaDoor
