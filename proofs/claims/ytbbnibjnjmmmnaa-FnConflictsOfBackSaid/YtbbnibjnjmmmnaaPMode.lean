/-
  Plain facts on lock modes: what goes together, what two modes join to, which is stronger, what is needed above. No program in sight.
-/
namespace Go.Proofs.Ytbbnibjnjmmmnaa

/-- n lies between lo and hi. -/
def inR (n lo hi : Int) : Bool := decide (lo ≤ n) && decide (n ≤ hi)
def modeB (m : Int) : Bool := inR m 0 5
def joinTab : List Int := [0, 1, 2, 3, 4, 5, 1, 1, 2, 3, 4, 5, 2, 2, 2, 4, 4, 5, 3, 3, 4, 3, 4, 5, 4, 4, 4, 4, 4, 5, 5, 5, 5, 5, 5, 5]
def togTab : List Bool := [true, true, true, true, true, true, true, true, true, true, true, false, true, true, true, false, false, false, true, true, false, true, false, false, true, true, false, false, false, false, true, false, false, false, false, false]
/-- the two modes' join, of modes alone -/
def joinI (a b : Int) : Int := joinTab.getD (a.toNat * 6 + b.toNat) 0
def togI (a b : Int) : Bool := togTab.getD (a.toNat * 6 + b.toNat) false
def joinM (a b : Int) : Int := if modeB a && modeB b then joinI a b else -1
def togM (a b : Int) : Bool := modeB a && modeB b && togI a b
def strM (a b : Int) : Bool := modeB a && modeB b && (joinI a b == a)
def needI (m : Int) : Int := [0, 1, 2, 1, 2, 2].getD m.toNat 0
def needM (m : Int) : Int := if modeB m then needI m else -1

theorem modeB_iff {m : Int} : modeB m = true ↔ 0 ≤ m ∧ m ≤ 5 := by simp [modeB, inR]
theorem modeB_cases {m : Int} (h : modeB m = true) : m = 0 ∨ m = 1 ∨ m = 2 ∨ m = 3 ∨ m = 4 ∨ m = 5 := by
  have := modeB_iff.1 h; omega
end Go.Proofs.Ytbbnibjnjmmmnaa
