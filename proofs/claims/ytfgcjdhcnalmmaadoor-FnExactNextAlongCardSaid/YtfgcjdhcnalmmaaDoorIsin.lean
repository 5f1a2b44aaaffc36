/-
  The contracts of the small list functions over numbers: is a number in a list.
-/
import Derived.Test.YtfgcjdhcnalmmaaDoorTIn
import Derived.Test.YtfgcjdhcnalmmaaDoorPMark
namespace Go.Proofs.YtfgcjdhcnalmmaaDoor
open Go.RowKit
theorem quiet_left' {P : Program} {f : FuncId} {args : Array Value} {w : World} {n : Nat} {v : Value}
    (h : Calls P f args (w.drewN n) fun e w' => e = .returned v ∧ w.drewN n = w') : Calls P f args (w.drewN n) fun e w'' => e = .returned v ∧ ∃ m, w'' = w.drewN m :=
  h.mono fun _ _ ⟨he, hm⟩ => ⟨he, n, hm.symm⟩

set_option maxHeartbeats 1000000 in
theorem isIn_c (A : Option Addr) (c : Nat) (l : List Int) (x : Int) (B : Nat) (w : World) (h : Rd inE w B A l) (hl : l.length ≤ 1048576) :
    Calls Tryd.prog 89 #[.slice A l.length c, .int .i64 x] w fun e w' => e = .returned (.bool (hasI l x)) ∧ w = w' := by
  have H := Lib.hid h
  clear h
  go_enter Tryd.func89, Tryd.ntmps89
  go_wp2_with fail
  go_loop [5] (fun i => ∃ k : Nat, k ≤ l.length ∧ i = .int .i64 k ∧ (l.take k).any (· == x) = false) (fun i => l.length - (intOf i).toNat)
  case atStart => exact ⟨0, by omega, rfl, rfl⟩
  case round =>
    obtain ⟨k, hk, rfl, hno⟩ := hrel
    have R := Lib.hid hno
    clear hno
    by_cases hlt : k < l.length
    · obtain ⟨b, o, rfl, hb, c0⟩ := H.out.int hlt
      by_cases hx : (l[k] == x) = true
      · go_wp2_with fail
        go_ret
        exact ⟨ret_bool (by rw [eq_comm, hasI, List.any_eq_true]; exact ⟨l[k], List.getElem_mem _, hx⟩), rfl⟩
      · rw [Bool.not_eq_true] at hx
        go_wp2_with fail
        go_round
        case rel => exact ⟨k + 1, by omega, by go_num, by rw [List.take_succ_eq_append_getElem hlt, List.any_append, R.out]; simpa using hx⟩
        case measure => simp [intOf]; omega
    · go_wp2_with fail
      go_ret
      exact ⟨ret_bool (by have := R.out; rw [List.take_of_length_le (by omega)] at this; exact this.symm), rfl⟩
theorem isIn_q (A : Option Addr) (c : Nat) (l : List Int) (x : Int) (bb : Bool) (hx : hasI l x = bb) (B : Nat) (w : World) (h : Rd inE w B A l) (hl : l.length ≤ 1048576) (n : Nat) :
    Calls Tryd.prog 89 #[.slice A l.length c, .int .i64 x] (w.drewN n) fun e w' => e = .returned (.bool bb) ∧ ∃ m, w' = w.drewN m := by
  subst hx; exact quiet_left' (isIn_c A c l x B _ h hl)
end Go.Proofs.YtfgcjdhcnalmmaaDoor
