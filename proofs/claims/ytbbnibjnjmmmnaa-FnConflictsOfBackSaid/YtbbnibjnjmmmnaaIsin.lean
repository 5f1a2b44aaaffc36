/-
  The contracts of the small list functions over numbers: is a number in a list.
-/
import Derived.Test.YtbbnibjnjmmmnaaTIn
import Derived.Test.YtbbnibjnjmmmnaaPMark
namespace Go.Proofs.Ytbbnibjnjmmmnaa
open Go.RowKit
theorem quiet_left' {P : Program} {f : FuncId} {args : Array Value} {w : World} {n : Nat} {v : Value}
    (h : Calls P f args (w.drewN n) fun e w' => e = .returned v ∧ w.drewN n = w') : Calls P f args (w.drewN n) fun e w'' => e = .returned v ∧ ∃ m, w'' = w.drewN m :=
  h.mono fun _ _ ⟨he, hm⟩ => ⟨he, n, hm.symm⟩

set_option maxHeartbeats 1000000 in
theorem isIn_c (A : Option Addr) (c : Nat) (l : List Int) (x : Int) (B : Nat) (w : World) (h : Rd inE w B A l) (hl : l.length ≤ 1048576) :
    Calls Try.prog 70 #[.slice A l.length c, .int .i64 x] w fun e w' => e = .returned (.bool (hasI l x)) ∧ w = w' := by
  have H := Lib.hid h
  clear h
  go_enter Try.func70, Try.ntmps70
  go_wp2_with fail
  go_loop [5] (fun i => ∃ k : Nat, k ≤ l.length ∧ i = .int .i64 k ∧ (l.take k).any (· == x) = false) (fun i => l.length - (intOf i).toNat)
  case atStart => exact ⟨0, by omega, rfl, rfl⟩
  case round =>
    obtain ⟨k, hk, rfl, hno⟩ := hrel
    have R := Lib.hid hno
    clear hno
    by_cases hlt : k < l.length
    · obtain ⟨b, o, rfl, hb, c0⟩ := H.out.int hlt
      by_cases hx : (l[k] == x) = true
      · go_wp2_with fail
        go_ret
        exact ⟨ret_bool (by rw [eq_comm, hasI, List.any_eq_true]; exact ⟨l[k], List.getElem_mem _, hx⟩), rfl⟩
      · rw [Bool.not_eq_true] at hx
        go_wp2_with fail
        go_round
        case rel => exact ⟨k + 1, by omega, by go_num, by rw [List.take_succ_eq_append_getElem hlt, List.any_append, R.out]; simpa using hx⟩
        case measure => simp [intOf]; omega
    · go_wp2_with fail
      go_ret
      exact ⟨ret_bool (by have := R.out; rw [List.take_of_length_le (by omega)] at this; exact this.symm), rfl⟩
theorem isIn_q (A : Option Addr) (c : Nat) (l : List Int) (x : Int) (bb : Bool) (hx : hasI l x = bb) (B : Nat) (w : World) (h : Rd inE w B A l) (hl : l.length ≤ 1048576) (n : Nat) :
    Calls Try.prog 70 #[.slice A l.length c, .int .i64 x] (w.drewN n) fun e w' => e = .returned (.bool bb) ∧ ∃ m, w' = w.drewN m := by
  subst hx; exact quiet_left' (isIn_c A c l x B _ h hl)

set_option maxHeartbeats 2000000 in
theorem marked_c (b0 b1 b2 b3 : Bool) (w : World) :
    Calls Try.prog 72 #[.agg #[.bool b0, .bool b1, .bool b2, .bool b3]] w fun e w' => ∃ v, e = .returned v ∧ Own inE 3 w' w.heap.size v (markU (pick4 b0 b1 b2 b3) 4) ∧ Below w.heap.size w w' := by
  have ix : ∀ k : Nat, k < 4 → ∀ w, (Instr.index 79 (.agg #[.bool b0, .bool b1, .bool b2, .bool b3]) (.int .i64 (k : Int))).run Try.prog w = .ok (.bool (pick4 b0 b1 b2 b3 k)) w := by
    intro k hk w
    rcases (by omega : k = 0 ∨ k = 1 ∨ k = 2 ∨ k = 3) with rfl | rfl | rfl | rfl <;> kernel_rfl
  have IX := Lib.hid ix
  clear ix
  go_enter Try.func72, Try.ntmps72
  go_wp2_with fail
  go_loopw [3, 7] (fun v i wr => ∃ k : Nat, k ≤ 4 ∧ i = .int .i64 k ∧ Own inE 3 wr w.heap.size v (markU (pick4 b0 b1 b2 b3) k) ∧ Below w.heap.size w wr) (fun _ i _ => 4 - (intOf i).toNat)
  case atStart => exact ⟨0, by omega, rfl, Own.nil, (Below.refl _ _).alloc (Nat.le_refl _) _⟩
  case round =>
    obtain ⟨k, hk, rfl, ho, hbel⟩ := hrel
    obtain ⟨A, c, rfl, _, _, _⟩ := ho.form
    have R := Lib.hid (And.intro ho hbel)
    clear ho hbel
    by_cases hlt : k < 4
    · have hix := IX.out k hlt
      by_cases hb : pick4 b0 b1 b2 b3 k = true
      · go_wp2_with (at_builtin; refine wpList_ap1 slIn rfl (.tmp 12) (.tmp 14) rfl _ _ (k : Int) rfl w w.heap.size _ (markU (pick4 b0 b1 b2 b3) k) rfl R.out.1 rfl (by have := markU_len (pick4 b0 b1 b2 b3) k; omega) R.out.2 (Nat.le_refl _) ?_; intro v' w' ho' hb' _ _; have R' := Lib.hid (And.intro ho' hb'); clear ho' hb')
        go_roundw
        case rel => exact ⟨k + 1, by omega, by go_num, by rw [markU, if_pos hb]; exact R'.out.1, R'.out.2⟩
        case measure => simp [intOf]; omega
      · rw [Bool.not_eq_true] at hb
        go_wp2_with fail
        go_roundw
        case rel => exact ⟨k + 1, by omega, by go_num, by rw [markU, hb]; simpa using R.out.1, R.out.2⟩
        case measure => simp [intOf]; omega
    · obtain rfl : k = 4 := by omega
      go_wp2_with fail
      go_ret
      exact ⟨_, rfl, R.out.1, R.out.2⟩
end Go.Proofs.Ytbbnibjnjmmmnaa
