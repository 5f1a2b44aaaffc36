/-
  Valid waits: the contracts of the reference's and the program's check.
-/
import Derived.Test.YtbbnibjnjmmmnaaTWt
import Derived.Test.YtbbnibjnjmmmnaaRangeQ
import Derived.Test.YtbbnibjnjmmmnaaPList
namespace Go.Proofs.Ytbbnibjnjmmmnaa
open Go.RowKit

def wtOk (x : Wt) : Bool := (inR x.who 0 3 && inR x.wfor 0 3) && !(x.who == x.wfor)
def validWt (l : List Wt) : Bool := l.all wtOk && decide (l.length ≤ 12)

set_option maxHeartbeats 2000000 in
theorem spec_validWaits_c (A : Option Addr) (c : Nat) (l : List Wt) (w : World) (h : Rd wtE w w.heap.size A l) (hl : l.length ≤ 1048576) :
    Calls Try.prog 62 #[.slice A l.length c] w fun e w' => e = .returned (.bool (validWt l)) ∧ Below w.heap.size w w' := by
  have H := Lib.hid h
  clear h
  go_enter Try.func62, Try.ntmps62
  go_wp2_with fail
  go_loopw [3] (fun i wr => ∃ k : Nat, k ≤ l.length ∧ i = .int .i64 k ∧ (l.take k).all wtOk = true ∧ Below w.heap.size w wr) (fun i _ => l.length - (intOf i).toNat)
  case atStart => exact ⟨0, by omega, rfl, rfl, Below.refl _ _⟩
  case round =>
    obtain ⟨k, hk, rfl, hall, hbel⟩ := hrel
    by_cases hlt : k < l.length
    · obtain ⟨b, o, rfl, hb, c0, c1⟩ := (H.out.below hbel (Nat.le_refl _)).wt hlt
      have R := Lib.hid (And.intro hall hbel)
      clear hall hbel
      by_cases h1 : inR l[k].who 0 3 = true
      · by_cases h2 : inR l[k].wfor 0 3 = true
        · by_cases h3 : (l[k].who == l[k].wfor) = true
          · go_wp2_with fail
            go_quiet ((go_at_call 78; first | with_reducible exact inRange_q _ _ _ true h1 _ _ | with_reducible exact inRange_q _ _ _ true h2 _ _))
            go_wp2_with fail
            go_ret
            exact ⟨ret_bool (by rw [validWt, all_bad hlt (by simp [wtOk, h3])]; rfl), below_drewN R.out.2 _⟩
          · rw [Bool.not_eq_true] at h3
            go_wp2_with fail
            go_quiet ((go_at_call 78; first | with_reducible exact inRange_q _ _ _ true h1 _ _ | with_reducible exact inRange_q _ _ _ true h2 _ _))
            go_wp2_with fail
            go_roundw
            case rel => exact ⟨k + 1, by omega, by go_num, all_snoc hlt R.out.1 (by simp [wtOk, h1, h2, h3]), below_drewN R.out.2 _⟩
            case measure => simp [intOf]; omega
        · rw [Bool.not_eq_true] at h2
          go_wp2_with fail
          go_quiet ((go_at_call 78; first | with_reducible exact inRange_q _ _ _ true h1 _ _ | with_reducible exact inRange_q _ _ _ false h2 _ _))
          go_wp2_with fail
          go_ret
          exact ⟨ret_bool (by rw [validWt, all_bad hlt (by simp [wtOk, h2])]; rfl), below_drewN R.out.2 _⟩
      · rw [Bool.not_eq_true] at h1
        go_wp2_with fail
        go_quiet ((go_at_call 78; exact inRange_q _ _ _ false h1 _ _))
        go_wp2_with fail
        go_ret
        exact ⟨ret_bool (by rw [validWt, all_bad hlt (by simp [wtOk, h1])]; rfl), below_drewN R.out.2 _⟩
    · have R := Lib.hid (And.intro hall hbel)
      clear hall hbel
      go_wp2_with fail
      go_ret
      exact ⟨ret_bool (by rw [validWt, all_done (by omega) R.out.1]; simp; omega), R.out.2⟩

set_option maxHeartbeats 400000 in
theorem spec_ValidWaits_c (A : Option Addr) (c : Nat) (l : List Wt) (w : World) (h : Rd wtE w w.heap.size A l) (hl : l.length ≤ 1048576) :
    Calls Try.prog 28 #[.slice A l.length c] w fun e w' => e = .returned (.bool (validWt l)) ∧ Below w.heap.size w w' := by
  have C := Lib.hid (spec_validWaits_c A c l w h hl)
  clear h
  go_enter Try.func28, Try.ntmps28
  go_wp2_with fail
  refine C.out.mono ?_
  rintro e w' ⟨rfl, hb⟩
  have B := Lib.hid hb
  clear hb
  go_wp2_with fail
  go_ret
  exact ⟨rfl, B.out⟩

set_option maxHeartbeats 1000000 in
theorem impl_ValidWaits_c (A : Option Addr) (c : Nat) (l : List Wt) (w : World) (h : Rd wtE w w.heap.size A l) (hl : l.length ≤ 1048576) :
    Calls Try.prog 27 #[.slice A l.length c] w fun e w' => e = .returned (.bool (validWt l)) ∧ Below w.heap.size w w' := by
  have H := Lib.hid h
  clear h
  by_cases hlong : 12 < l.length
  · go_enter Try.func27, Try.ntmps27
    go_wp2_with fail
    go_ret
    exact ⟨ret_bool (by rw [validWt]; simp; omega), Below.refl _ _⟩
  go_enter Try.func27, Try.ntmps27
  go_wp2_with fail
  go_loopw [10] (fun i wr => ∃ k : Nat, k ≤ l.length ∧ i = .int .i64 k ∧ (l.take k).all wtOk = true ∧ Below w.heap.size w wr) (fun i _ => l.length - (intOf i).toNat)
  case atStart => exact ⟨0, by omega, rfl, rfl, Below.refl _ _⟩
  case round =>
    obtain ⟨k, hk, rfl, hall, hbel⟩ := hrel
    by_cases hlt : k < l.length
    · obtain ⟨b, o, rfl, hb, c0, c1⟩ := (H.out.below hbel (Nat.le_refl _)).wt hlt
      have R := Lib.hid (And.intro hall (hbel.alloc hbel.size (.cells #[.int .i64 l[k].who, .int .i64 l[k].wfor] 39)))
      clear hall hbel
      by_cases h1 : inR l[k].who 0 3 = true
      · by_cases h2 : inR l[k].wfor 0 3 = true
        · by_cases h3 : (l[k].who == l[k].wfor) = true
          · go_wp2_with (go_at_call 57; refine (within_c _ _ _ _).mono ?_; rintro e w' ⟨rfl, rfl⟩)
            go_ret
            exact ⟨ret_bool (by rw [validWt, all_bad hlt (by simp [wtOk, h3])]; rfl), R.out.2⟩
          · rw [Bool.not_eq_true] at h3
            go_wp2_with (go_at_call 57; refine (within_c _ _ _ _).mono ?_; rintro e w' ⟨rfl, rfl⟩)
            go_roundw
            case rel => exact ⟨k + 1, by omega, by go_num, all_snoc hlt R.out.1 (by simp [wtOk, h1, h2, h3]), R.out.2⟩
            case measure => simp [intOf]; omega
        · rw [Bool.not_eq_true] at h2
          go_wp2_with (go_at_call 57; refine (within_c _ _ _ _).mono ?_; rintro e w' ⟨rfl, rfl⟩)
          go_ret
          exact ⟨ret_bool (by rw [validWt, all_bad hlt (by simp [wtOk, h2])]; rfl), R.out.2⟩
      · rw [Bool.not_eq_true] at h1
        go_wp2_with (go_at_call 57; refine (within_c _ _ _ _).mono ?_; rintro e w' ⟨rfl, rfl⟩)
        go_ret
        exact ⟨ret_bool (by rw [validWt, all_bad hlt (by simp [wtOk, h1])]; rfl), R.out.2⟩
    · have R := Lib.hid (And.intro hall hbel)
      clear hall hbel
      go_wp2_with fail
      go_ret
      exact ⟨ret_bool (by rw [validWt, all_done (by omega) R.out.1]; simp; omega), R.out.2⟩
end Go.Proofs.Ytbbnibjnjmmmnaa
