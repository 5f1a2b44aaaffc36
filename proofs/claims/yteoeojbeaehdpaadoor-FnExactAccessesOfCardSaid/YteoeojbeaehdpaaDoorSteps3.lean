/-
  Schedules: the contracts of two phases and of lock points.
-/
import Derived.Test.YteoeojbeaehdpaaDoorSteps2
namespace Go.Proofs.YteoeojbeaehdpaaDoor
open Go.RowKit

theorem two_skip {who : Int} {fr : Bool} {r : List Stp} {k : Nat} (hk : k < r.length) (h : (r[k].who == who) = false) : twoL who fr (r.drop k) = twoL who fr (r.drop (k + 1)) := by
  rw [List.drop_eq_getElem_cons hk, twoL, h]; rfl
theorem two_bad {who : Int} {r : List Stp} {k : Nat} (hk : k < r.length) (h : (r[k].who == who) = true) (h2 : r[k].free = false) : twoL who true (r.drop k) = false := by
  rw [List.drop_eq_getElem_cons hk, twoL, h, h2]; rfl
theorem two_free {who : Int} {fr : Bool} {r : List Stp} {k : Nat} (hk : k < r.length) (h : (r[k].who == who) = true) (h2 : r[k].free = true) : twoL who fr (r.drop k) = twoL who true (r.drop (k + 1)) := by
  rw [List.drop_eq_getElem_cons hk, twoL, h, h2]; cases fr <;> rfl
theorem two_take {who : Int} {r : List Stp} {k : Nat} (hk : k < r.length) (h : (r[k].who == who) = true) (h2 : r[k].free = false) : twoL who false (r.drop k) = twoL who false (r.drop (k + 1)) := by
  rw [List.drop_eq_getElem_cons hk, twoL, h, h2]; rfl
theorem two_done {who : Int} {fr : Bool} {r : List Stp} {k : Nat} (hk : r.length ≤ k) : twoL who fr (r.drop k) = true := by
  rw [List.drop_eq_nil_of_le hk, twoL]
theorem step4 (x : Stp) (who : Int) : ((x.who == who) = false ∧ (x.who != who) = true) ∨ ((x.who == who) = true ∧ (x.who != who) = false ∧ x.free = true) ∨ ((x.who == who) = true ∧ (x.who != who) = false ∧ x.free = false) := by
  rw [bne]
  cases (x.who == who) <;> cases x.free <;> simp

set_option maxHeartbeats 2000000 in
theorem twoPhases_c (A : Option Addr) (c : Nat) (r : List Stp) (who : Int) (B : Nat) (w : World) (h : Rd stpE w B A r) (hl : r.length ≤ 1048576) :
    Calls Tryd.prog 77 #[.slice A r.length c, .int .i64 who] w fun e w' => e = .returned (.bool (twoL who false r)) ∧ w' = w := by
  have H := Lib.hid h
  clear h
  go_enter Tryd.func77, Tryd.ntmps77
  go_wp2_with fail
  go_loopw [5, 6] (fun fv i wr => ∃ (k : Nat) (fr : Bool), k ≤ r.length ∧ fv = .bool fr ∧ i = .int .i64 k ∧ Hid (twoL who false r = twoL who fr (r.drop k)) ∧ wr = w) (fun _ i _ => r.length - (intOf i).toNat)
  case atStart => exact ⟨0, false, by omega, rfl, rfl, Lib.hid rfl, rfl⟩
  case round =>
    obtain ⟨k, fr, hk, rfl, rfl, hrun, rfl⟩ := hrel
    by_cases hlt : k < r.length
    · obtain ⟨b, o, rfl, hb, c0, c1, c2, c3⟩ := H.out.stp hlt
      rcases step4 r[k] who with ⟨h1, _⟩ | ⟨h1, _, h2⟩ | ⟨h1, _, h2⟩
      · have S := Lib.hid (hrun.out.trans (two_skip hlt h1))
        clear hrun
        cases fr
        · go_wp2_with fail
          go_roundw
          case rel => exact ⟨k + 1, false, by omega, rfl, by go_num, S, by trivial⟩
          case measure => simp [intOf]; omega
        · go_wp2_with fail
          go_roundw
          case rel => exact ⟨k + 1, true, by omega, rfl, by go_num, S, by trivial⟩
          case measure => simp [intOf]; omega
      · have S := Lib.hid (hrun.out.trans (two_free hlt h1 h2))
        clear hrun
        cases fr
        · go_wp2_with fail
          go_roundw
          case rel => exact ⟨k + 1, true, by omega, rfl, by go_num, S, by trivial⟩
          case measure => simp [intOf]; omega
        · go_wp2_with fail
          go_roundw
          case rel => exact ⟨k + 1, true, by omega, rfl, by go_num, S, by trivial⟩
          case measure => simp [intOf]; omega
      · cases fr
        · have S := Lib.hid (hrun.out.trans (two_take hlt h1 h2))
          clear hrun
          go_wp2_with fail
          go_roundw
          case rel => exact ⟨k + 1, false, by omega, rfl, by go_num, S, by trivial⟩
          case measure => simp [intOf]; omega
        · have S := Lib.hid (hrun.out.trans (two_bad hlt h1 h2))
          clear hrun
          go_wp2_with fail
          go_ret
          exact ⟨ret_bool S.out.symm, rfl⟩
    · have S := Lib.hid (hrun.out.trans (two_done (by omega)))
      clear hrun
      go_wp2_with fail
      go_ret
      exact ⟨ret_bool S.out.symm, rfl⟩
set_option maxHeartbeats 1000000 in
theorem spec_IsTwoPhase_c (A : Option Addr) (c : Nat) (r : List Stp) (who : Int) (w : World) (h : Rd stpE w w.heap.size A r) (hl : r.length ≤ 1048576) :
    Calls Tryd.prog 46 #[.slice A r.length c, .int .i64 who] w fun e w' => e = .returned (.bool (twoF r who)) ∧ Below w.heap.size w w' := by
  have C := Lib.hid (validSteps_c A c r w h hl)
  have H := Lib.hid h
  clear h
  by_cases hv : stpOk r = true
  · have F := Lib.hid (show twoF r who = twoL who false r by rw [twoF, hv, Bool.true_and])
    have HV := Lib.hid hv
    clear hv
    go_enter Tryd.func46, Tryd.ntmps46
    go_wp2_with fail
    refine C.out.mono ?_
    rintro e w1 ⟨rfl, hb⟩
    have B := Lib.hid hb
    clear hb
    rw [HV.out]
    go_wp2_with fail
    refine (twoPhases_c A c r who _ _ (H.out.grow B.out) hl).mono ?_
    rintro e w2 ⟨rfl, rfl⟩
    go_wp2_with fail
    go_ret
    exact ⟨ret_bool F.out.symm, B.out⟩
  · rw [Bool.not_eq_true] at hv
    have F := Lib.hid (show twoF r who = false by rw [twoF, hv, Bool.false_and])
    have HV := Lib.hid hv
    clear hv
    go_enter Tryd.func46, Tryd.ntmps46
    go_wp2_with fail
    refine C.out.mono ?_
    rintro e w1 ⟨rfl, hb⟩
    have B := Lib.hid hb
    clear hb
    rw [HV.out]
    go_wp2_with fail
    go_ret
    exact ⟨ret_bool F.out.symm, B.out⟩
set_option maxRecDepth 100000 in
set_option maxHeartbeats 4000000 in
theorem impl_IsTwoPhase_c (A : Option Addr) (c : Nat) (r : List Stp) (who : Int) (w : World) (h : Rd stpE w w.heap.size A r) (hl : r.length ≤ 1048576) (ht : TTab w) (hj : JTab w) :
    Calls Tryd.prog 47 #[.slice A r.length c, .int .i64 who] w fun e w' => e = .returned (.bool (twoF r who)) ∧ Below w.heap.size w w' := by
  have C := Lib.hid (impl_ValidSteps_c A c r w h hl ht hj)
  have H := Lib.hid h
  clear h ht hj
  by_cases hv : stpOk r = true
  · have F := Lib.hid (show twoF r who = twoL who false r by rw [twoF, hv, Bool.true_and])
    have HV := Lib.hid hv
    clear hv
    go_enter Tryd.func47, Tryd.ntmps47
    go_wp2_with fail
    refine C.out.mono ?_
    rintro e w1 ⟨rfl, hb⟩
    have B := Lib.hid hb
    clear hb
    rw [HV.out]
    go_wp2_with fail
    go_loopw [5, 13] (fun fv i wr => ∃ (k : Nat) (fr : Bool), k ≤ r.length ∧ fv = .bool fr ∧ i = .int .i64 k ∧ Hid (twoF r who = twoL who fr (r.drop k)) ∧ Below w.heap.size w wr) (fun _ i _ => r.length - (intOf i).toNat)
    case atStart => exact ⟨0, false, by omega, rfl, rfl, F, B.out⟩
    case round =>
      obtain ⟨k, fr, hk, rfl, rfl, hrun, hbel⟩ := hrel
      by_cases hlt : k < r.length
      · obtain ⟨b, o, rfl, hb, c0, c1, c2, c3⟩ := (H.out.below hbel (Nat.le_refl _)).stp hlt
        have R := Lib.hid hbel
        clear hbel
        rcases step4 r[k] who with ⟨h1, h1'⟩ | ⟨h1, h1', h2⟩ | ⟨h1, h1', h2⟩
        · have S := Lib.hid (hrun.out.trans (two_skip hlt h1))
          clear hrun h1
          go_wp2_with fail
          go_roundw
          case rel => exact ⟨k + 1, fr, by omega, rfl, by go_num, S, R.out.alloc R.out.size _⟩
          case measure => simp [intOf]; omega
        · have S := Lib.hid (hrun.out.trans (two_free hlt h1 h2))
          clear hrun h1
          cases fr
          · go_wp2_with fail
            go_roundw
            case rel => exact ⟨k + 1, true, by omega, rfl, by go_num, S, R.out.alloc R.out.size _⟩
            case measure => simp [intOf]; omega
          · go_wp2_with fail
            go_roundw
            case rel => exact ⟨k + 1, true, by omega, rfl, by go_num, S, R.out.alloc R.out.size _⟩
            case measure => simp [intOf]; omega
        · cases fr
          · have S := Lib.hid (hrun.out.trans (two_take hlt h1 h2))
            clear hrun h1
            go_wp2_with fail
            go_roundw
            case rel => exact ⟨k + 1, false, by omega, rfl, by go_num, S, R.out.alloc R.out.size _⟩
            case measure => simp [intOf]; omega
          · have S := Lib.hid (hrun.out.trans (two_bad hlt h1 h2))
            clear hrun h1
            go_wp2_with fail
            go_ret
            exact ⟨ret_bool S.out.symm, R.out.alloc R.out.size _⟩
      · have S := Lib.hid (hrun.out.trans (two_done (by omega)))
        have R := Lib.hid hbel
        clear hrun hbel
        go_wp2_with fail
        go_ret
        exact ⟨ret_bool S.out.symm, R.out⟩
  · rw [Bool.not_eq_true] at hv
    have F := Lib.hid (show twoF r who = false by rw [twoF, hv, Bool.false_and])
    have HV := Lib.hid hv
    clear hv
    go_enter Tryd.func47, Tryd.ntmps47
    go_wp2_with fail
    refine C.out.mono ?_
    rintro e w1 ⟨rfl, hb⟩
    have B := Lib.hid hb
    clear hb
    rw [HV.out]
    go_wp2_with fail
    go_ret
    exact ⟨ret_bool F.out.symm, B.out⟩
theorem tk_no1 {x : Stp} {who : Int} (h : (x.who == who) = false) : takes who x = false := by rw [takes, h]; rfl
theorem tk_no2 {x : Stp} {who : Int} (h : x.free = true) : takes who x = false := by rw [takes, h]; simp
theorem tk_yes {x : Stp} {who : Int} (h : (x.who == who) = true) (h2 : x.free = false) : takes who x = true := by rw [takes, h, h2]; rfl
set_option maxHeartbeats 2000000 in
theorem lockPoint_c (A : Option Addr) (c : Nat) (r : List Stp) (who : Int) (B : Nat) (w : World) (h : Rd stpE w B A r) (hl : r.length ≤ 1048576) :
    Calls Tryd.prog 78 #[.slice A r.length c, .int .i64 who] w fun e w' => e = .returned (.int .i64 (lastL r who)) ∧ w' = w := by
  have H := Lib.hid h
  clear h
  go_enter Tryd.func78, Tryd.ntmps78
  go_wp2_with fail
  go_loopw [5, 6] (fun fv i wr => ∃ k : Nat, k ≤ r.length ∧ fv = .int .i64 (lastK r who k) ∧ i = .int .i64 k ∧ wr = w) (fun _ i _ => r.length - (intOf i).toNat)
  case atStart => exact ⟨0, by omega, rfl, rfl, rfl⟩
  case round =>
    obtain ⟨k, hk, rfl, rfl, rfl⟩ := hrel
    by_cases hlt : k < r.length
    · obtain ⟨b, o, rfl, hb, c0, c1, c2, c3⟩ := H.out.stp hlt
      rcases step4 r[k] who with ⟨h1, _⟩ | ⟨h1, _, h2⟩ | ⟨h1, _, h2⟩
      · have S := Lib.hid (lastK_no hlt (tk_no1 h1))
        go_wp2_with fail
        go_roundw
        case rel => exact ⟨k + 1, by omega, by rw [S.out], by go_num, by trivial⟩
        case measure => simp [intOf]; omega
      · have S := Lib.hid (lastK_no (who := who) hlt (tk_no2 h2))
        go_wp2_with fail
        go_roundw
        case rel => exact ⟨k + 1, by omega, by rw [S.out], by go_num, by trivial⟩
        case measure => simp [intOf]; omega
      · have S := Lib.hid (lastK_yes hlt (tk_yes h1 h2))
        go_wp2_with fail
        go_roundw
        case rel => exact ⟨k + 1, by omega, by rw [S.out], by go_num, by trivial⟩
        case measure => simp [intOf]; omega
    · have e : k = r.length := by omega
      subst e
      go_wp2_with fail
      go_ret
      exact ⟨rfl, rfl⟩
set_option maxHeartbeats 1000000 in
theorem spec_LockPoint_c (A : Option Addr) (c : Nat) (r : List Stp) (who : Int) (w : World) (h : Rd stpE w w.heap.size A r) (hl : r.length ≤ 1048576) :
    Calls Tryd.prog 48 #[.slice A r.length c, .int .i64 who] w fun e w' => e = .returned (.int .i64 (pointF r who)) ∧ Below w.heap.size w w' := by
  have C := Lib.hid (validSteps_c A c r w h hl)
  have H := Lib.hid h
  clear h
  by_cases hv : stpOk r = true
  · have F := Lib.hid (show pointF r who = lastL r who by rw [pointF, if_pos hv])
    have HV := Lib.hid hv
    clear hv
    go_enter Tryd.func48, Tryd.ntmps48
    go_wp2_with fail
    refine C.out.mono ?_
    rintro e w1 ⟨rfl, hb⟩
    have B := Lib.hid hb
    clear hb
    rw [HV.out]
    go_wp2_with fail
    refine (lockPoint_c A c r who _ _ (H.out.grow B.out) hl).mono ?_
    rintro e w2 ⟨rfl, rfl⟩
    go_wp2_with fail
    go_ret
    exact ⟨by rw [F.out]; rfl, B.out⟩
  · rw [Bool.not_eq_true] at hv
    have F := Lib.hid (show pointF r who = -1 by rw [pointF, if_neg (by rw [hv]; simp)])
    have HV := Lib.hid hv
    clear hv
    go_enter Tryd.func48, Tryd.ntmps48
    go_wp2_with fail
    refine C.out.mono ?_
    rintro e w1 ⟨rfl, hb⟩
    have B := Lib.hid hb
    clear hb
    rw [HV.out]
    go_wp2_with fail
    go_ret
    exact ⟨by rw [F.out]; rfl, B.out⟩
set_option maxRecDepth 100000 in
set_option maxHeartbeats 4000000 in
theorem impl_LockPoint_c (A : Option Addr) (c : Nat) (r : List Stp) (who : Int) (w : World) (h : Rd stpE w w.heap.size A r) (hl : r.length ≤ 1048576) (ht : TTab w) (hj : JTab w) :
    Calls Tryd.prog 49 #[.slice A r.length c, .int .i64 who] w fun e w' => e = .returned (.int .i64 (pointF r who)) ∧ Below w.heap.size w w' := by
  have C := Lib.hid (impl_ValidSteps_c A c r w h hl ht hj)
  have H := Lib.hid h
  clear h ht hj
  by_cases hv : stpOk r = true
  · have F := Lib.hid (show pointF r who = lastK r who r.length by rw [pointF, if_pos hv, lastL])
    have HV := Lib.hid hv
    clear hv
    go_enter Tryd.func49, Tryd.ntmps49
    go_wp2_with fail
    refine C.out.mono ?_
    rintro e w1 ⟨rfl, hb⟩
    have B := Lib.hid hb
    clear hb
    rw [HV.out]
    go_wp2_with fail
    go_loopw [5] (fun i wr => ∃ k : Nat, k ≤ r.length ∧ i = .int .i64 ((k : Int) - 1) ∧ Hid (pointF r who = lastK r who k) ∧ Below w.heap.size w wr) (fun i _ => (intOf i + 1).toNat)
    case atStart => exact ⟨r.length, by omega, by go_num, F, B.out⟩
    case round =>
      obtain ⟨k, hk, hi, hrun, hbel⟩ := hrel
      have R := Lib.hid hbel
      rcases k with _ | m
      · have hi2 := hi.trans (show (Value.int .i64 (((0 : Nat) : Int) - 1)) = .int .i64 (-1) from rfl)
        subst hi2
        clear hi hbel
        go_wp2_with fail
        go_ret
        exact ⟨by rw [hrun.out]; rfl, R.out⟩
      · have hi2 := hi.trans (show (Value.int .i64 (((m + 1 : Nat) : Int) - 1)) = .int .i64 (m : Int) by congr 1; omega)
        subst hi2
        clear hi
        have hlt : m < r.length := by omega
        obtain ⟨b, o, rfl, hb, c0, c1, c2, c3⟩ := (H.out.below hbel (Nat.le_refl _)).stp hlt
        clear hbel
        rcases step4 r[m] who with ⟨h1, _⟩ | ⟨h1, _, h2⟩ | ⟨h1, _, h2⟩
        · have S := Lib.hid (hrun.out.trans (lastK_no hlt (tk_no1 h1)))
          clear hrun
          go_wp2_with fail
          go_roundw
          case rel => exact ⟨m, by omega, by go_num, S, R.out⟩
          case measure => simp [intOf]
        · have S := Lib.hid (hrun.out.trans (lastK_no (who := who) hlt (tk_no2 h2)))
          clear hrun
          go_wp2_with fail
          go_roundw
          case rel => exact ⟨m, by omega, by go_num, S, R.out⟩
          case measure => simp [intOf]
        · have S := Lib.hid (hrun.out.trans (lastK_yes hlt (tk_yes h1 h2)))
          clear hrun
          go_wp2_with fail
          go_ret
          exact ⟨by rw [S.out]; rfl, R.out⟩
  · rw [Bool.not_eq_true] at hv
    have F := Lib.hid (show pointF r who = -1 by rw [pointF, if_neg (by rw [hv]; simp)])
    have HV := Lib.hid hv
    clear hv
    go_enter Tryd.func49, Tryd.ntmps49
    go_wp2_with fail
    refine C.out.mono ?_
    rintro e w1 ⟨rfl, hb⟩
    have B := Lib.hid hb
    clear hb
    rw [HV.out]
    go_wp2_with fail
    go_ret
    exact ⟨by rw [F.out]; rfl, B.out⟩
end Go.Proofs.YteoeojbeaehdpaaDoor
