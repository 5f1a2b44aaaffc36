/-
  Valid accesses: the contracts of the reference's and the program's check, and the law that both agree.
-/
import Derived.Test.YtbbnibjnjmmmnaaTAcc
import Derived.Test.YtbbnibjnjmmmnaaRange
import Derived.Test.YtbbnibjnjmmmnaaPList
namespace Go.Proofs.Ytbbnibjnjmmmnaa
open Go.RowKit

def accOk (x : Acc) : Bool := inR x.who 0 3 && inR x.node 0 11
def validAcc (l : List Acc) : Bool := l.all accOk && decide (l.length ≤ 16)

set_option maxHeartbeats 1000000 in
theorem spec_validAccesses_c (A : Option Addr) (c : Nat) (l : List Acc) (w : World) (h : Rd accE w w.heap.size A l) (hl : l.length ≤ 1048576) :
    Calls Try.prog 58 #[.slice A l.length c] w fun e w' => e = .returned (.bool (validAcc l)) ∧ w = w' := by
  have H := Lib.hid h
  clear h
  go_enter Try.func58, Try.ntmps58
  go_wp2_with fail
  go_loop [3] (fun i => ∃ k : Nat, k ≤ l.length ∧ i = .int .i64 k ∧ (l.take k).all accOk = true) (fun i => l.length - (intOf i).toNat)
  case atStart => exact ⟨0, by omega, rfl, rfl⟩
  case round =>
    obtain ⟨k, hk, rfl, hall⟩ := hrel
    have R := Lib.hid hall
    clear hall
    by_cases hlt : k < l.length
    · obtain ⟨b, o, rfl, hb, c0, c1, c2⟩ := H.out.acc hlt
      by_cases h1 : inR l[k].who 0 3 = true
      · by_cases h2 : inR l[k].node 0 11 = true
        · go_wp2_with (go_at_call 78; refine (inRange_c _ _ _ _).mono ?_; rintro e w' ⟨rfl, rfl⟩)
          go_round
          case rel => exact ⟨k + 1, by omega, by go_num, all_snoc hlt R.out (by simp [accOk, h1, h2])⟩
          case measure => simp [intOf]; omega
        · rw [Bool.not_eq_true] at h2
          go_wp2_with (go_at_call 78; refine (inRange_c _ _ _ _).mono ?_; rintro e w' ⟨rfl, rfl⟩)
          go_ret
          exact ⟨ret_bool (by rw [validAcc, all_bad hlt (by simp [accOk, h2])]; rfl), rfl⟩
      · rw [Bool.not_eq_true] at h1
        go_wp2_with (go_at_call 78; refine (inRange_c _ _ _ _).mono ?_; rintro e w' ⟨rfl, rfl⟩)
        go_ret
        exact ⟨ret_bool (by rw [validAcc, all_bad hlt (by simp [accOk, h1])]; rfl), rfl⟩
    · go_wp2_with fail
      go_ret
      exact ⟨ret_bool (by rw [validAcc, all_done (by omega) R.out]; simp; omega), rfl⟩

set_option maxHeartbeats 400000 in
theorem spec_ValidAccesses_c (A : Option Addr) (c : Nat) (l : List Acc) (w : World) (h : Rd accE w w.heap.size A l) (hl : l.length ≤ 1048576) :
    Calls Try.prog 22 #[.slice A l.length c] w fun e w' => e = .returned (.bool (validAcc l)) ∧ w = w' := by
  have C := Lib.hid (spec_validAccesses_c A c l w h hl)
  clear h
  go_enter Try.func22, Try.ntmps22
  go_wp2_with fail
  refine C.out.mono ?_
  rintro e w' ⟨rfl, rfl⟩
  go_wp2_with fail
  go_ret
  exact ⟨rfl, rfl⟩

set_option maxHeartbeats 1000000 in
theorem impl_ValidAccesses_c (A : Option Addr) (c : Nat) (l : List Acc) (w : World) (h : Rd accE w w.heap.size A l) (hl : l.length ≤ 1048576) :
    Calls Try.prog 21 #[.slice A l.length c] w fun e w' => e = .returned (.bool (validAcc l)) ∧ Below w.heap.size w w' := by
  have H := Lib.hid h
  clear h
  by_cases hlong : 16 < l.length
  · go_enter Try.func21, Try.ntmps21
    go_wp2_with fail
    go_ret
    exact ⟨ret_bool (by rw [validAcc]; simp; omega), Below.refl _ _⟩
  go_enter Try.func21, Try.ntmps21
  go_wp2_with fail
  go_loopw [10] (fun i wr => ∃ k : Nat, k ≤ l.length ∧ i = .int .i64 k ∧ (l.take k).all accOk = true ∧ Below w.heap.size w wr) (fun i _ => l.length - (intOf i).toNat)
  case atStart => exact ⟨0, by omega, rfl, rfl, Below.refl _ _⟩
  case round =>
    obtain ⟨k, hk, rfl, hall, hbel⟩ := hrel
    by_cases hlt : k < l.length
    · obtain ⟨b, o, rfl, hb, c0, c1, c2⟩ := (H.out.below hbel (Nat.le_refl _)).acc hlt
      have R := Lib.hid (And.intro hall (hbel.alloc hbel.size (.cells #[.int .i64 l[k].who, .int .i64 l[k].node, .bool l[k].write] 46)))
      clear hall hbel
      by_cases h1 : inR l[k].who 0 3 = true
      · by_cases h2 : inR l[k].node 0 11 = true
        · go_wp2_with (go_at_call 57; refine (within_c _ _ _ _).mono ?_; rintro e w' ⟨rfl, rfl⟩)
          go_roundw
          case rel => exact ⟨k + 1, by omega, by go_num, all_snoc hlt R.out.1 (by simp [accOk, h1, h2]), R.out.2⟩
          case measure => simp [intOf]; omega
        · rw [Bool.not_eq_true] at h2
          go_wp2_with (go_at_call 57; refine (within_c _ _ _ _).mono ?_; rintro e w' ⟨rfl, rfl⟩)
          go_ret
          exact ⟨ret_bool (by rw [validAcc, all_bad hlt (by simp [accOk, h2])]; rfl), R.out.2⟩
      · rw [Bool.not_eq_true] at h1
        go_wp2_with (go_at_call 57; refine (within_c _ _ _ _).mono ?_; rintro e w' ⟨rfl, rfl⟩)
        go_ret
        exact ⟨ret_bool (by rw [validAcc, all_bad hlt (by simp [accOk, h1])]; rfl), R.out.2⟩
    · have R := Lib.hid (And.intro hall hbel)
      clear hall hbel
      go_wp2_with fail
      go_ret
      exact ⟨ret_bool (by rw [validAcc, all_done (by omega) R.out.1]; simp; omega), R.out.2⟩
end Go.Proofs.Ytbbnibjnjmmmnaa
