/-
  The program's two tables stay as they lie; the mode functions in the form that a quiet region takes.
-/
import Derived.Test.YtfgcjdhcnalmmaaDoorMode2
import Derived.Test.YtfgcjdhcnalmmaaDoorRangeQ
namespace Go.Proofs.YtfgcjdhcnalmmaaDoor
open Go.RowKit
theorem JTab.below {w w' : World} (h : JTab w) (hb : Below w.heap.size w w') : JTab w' := fun i hi => by
  have := h i hi
  rw [hb.cell (p := ⟨0, i, none⟩) (cell_lt this)]; exact this
theorem TTab.below {w w' : World} (h : TTab w) (hb : Below w.heap.size w w') : TTab w' := fun i hi => by
  have := h i hi
  rw [hb.cell (p := ⟨1, i, none⟩) (cell_lt this)]; exact this
theorem goTogether_q (a b : Int) (ha : modeB a = true) (hb : modeB b = true) (v : Bool) (h : togI a b = v) (w : World) (k : Nat) : Calls Tryd.prog 75 #[.int .i64 a, .int .i64 b] (w.drewN k) fun e w' => e = .returned (.bool v) ∧ ∃ m, w' = w.drewN m := by
  subst h; exact quiet_left (goTogether_c a b ha hb _)
/-- the world but for draws -/
def Dr (w w' : World) : Prop := ∃ n, w' = w.drewN n
theorem Dr.refl (w : World) : Dr w w := ⟨0, rfl⟩
theorem Dr.drewN {a w : World} (h : Dr a w) (n : Nat) : Dr a (w.drewN n) := by
  obtain ⟨m, rfl⟩ := h
  exact ⟨m + n, by simp [World.drewN, Nat.add_assoc]⟩
theorem Dr.trans {a b c : World} (h : Dr a b) (h2 : Dr b c) : Dr a c := by
  obtain ⟨n, rfl⟩ := h2; exact h.drewN n
theorem Dr.below {w w' : World} (h : Dr w w') (B : Nat) : Below B w w' := by
  obtain ⟨n, rfl⟩ := h; exact below_drewN (Below.refl _ _) n
theorem Rd.dr {α : Type} {E : Enc α} {w w' : World} {B : Nat} {A : Option Addr} {l : List α} (h : Rd E w B A l) (hd : Dr w w') : Rd E w' B A l := h.below (hd.below B) (Nat.le_refl _)
end Go.Proofs.YtfgcjdhcnalmmaaDoor
