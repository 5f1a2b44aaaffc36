/-
  The contracts of 'inRange' and 'within', in the form that a quiet region takes.
-/
import Derived.Test.YtbbnibjnjmmmnaaRange
import Derived.BigQuiet
import Derived.Deep.QuietTactic
namespace Go.Proofs.Ytbbnibjnjmmmnaa
open Go.RowKit
theorem quiet_left {P : Program} {f : FuncId} {args : Array Value} {w : World} {n : Nat} {v : Value}
    (h : Calls P f args (w.drewN n) fun e w' => e = .returned v ∧ w.drewN n = w') : Calls P f args (w.drewN n) fun e w'' => e = .returned v ∧ ∃ m, w'' = w.drewN m :=
  h.mono fun _ _ ⟨he, hm⟩ => ⟨he, n, hm.symm⟩
theorem inRange_q (n lo hi : Int) (b : Bool) (h : inR n lo hi = b) (w : World) (k : Nat) : Calls Try.prog 78 #[.int .i64 n, .int .i64 lo, .int .i64 hi] (w.drewN k) fun e w' => e = .returned (.bool b) ∧ ∃ m, w' = w.drewN m := by
  subst h; exact quiet_left (inRange_c n lo hi _)
theorem within_q (n lo hi : Int) (b : Bool) (h : inR n lo hi = b) (w : World) (k : Nat) : Calls Try.prog 57 #[.int .i64 n, .int .i64 lo, .int .i64 hi] (w.drewN k) fun e w' => e = .returned (.bool b) ∧ ∃ m, w' = w.drewN m := by
  subst h; exact quiet_left (within_c n lo hi _)
end Go.Proofs.Ytbbnibjnjmmmnaa
