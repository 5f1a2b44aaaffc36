/-
  The calls of the laws on modes that draw their modes out of a code.
-/
import Derived.Test.YtbfaaolbdgpnoaaDoorMode2
import Derived.Test.YtbfaaolbdgpnoaaDoorGenMode
import Derived.Test.YtbfaaolbdgpnoaaDoorNeed
import Derived.Test.YtbfaaolbdgpnoaaDoorPMode2
namespace Go.Proofs.YtbfaaolbdgpnoaaDoor
open Go.RowKit

theorem cell_lt {w : World} {b o : Nat} {v : Value} (h : w.cell? ⟨b, o, none⟩ = some v) : b < w.heap.size := by
  rcases Nat.lt_or_ge b w.heap.size with h1 | h1
  · exact h1
  · simp [World.cell?, Array.getElem?_eq_none h1] at h
theorem JTab.below {w w' : World} (h : JTab w) (hb : Below w.heap.size w w') : JTab w' := fun i hi => by
  have := h i hi
  rw [hb.cell (p := ⟨0, i, none⟩) (cell_lt this)]; exact this
theorem TTab.below {w w' : World} (h : TTab w) (hb : Below w.heap.size w w') : TTab w' := fun i hi => by
  have := h i hi
  rw [hb.cell (p := ⟨1, i, none⟩) (cell_lt this)]; exact this

set_option maxHeartbeats 1000000 in
theorem FnIsStrongerThree_c (A : Option Addr) (c : Nat) (l : List Int) (w : World) (h : BytesAt w w.heap.size A l) (hl : l.length ≤ c ∧ c ≤ maxLen) (ht : JTab w) :
    Calls Tryd.prog 6 #[.slice A l.length c] w fun e w' => e = .returned (.bool true) ∧ Below w.heap.size w w' := by
  have hm := hl.2
  unfold maxLen at hm
  have H := Lib.hid (And.intro h (And.intro hl ht))
  clear h hl ht
  by_cases hlong : 1048576 < l.length
  · go_enter Tryd.func6, Tryd.ntmps6
    go_wp2
    go_ret
    exact ⟨rfl, Below.refl _ _⟩
  · go_enter Tryd.func6, Tryd.ntmps6
    go_wp2_with fail
    refine (DrawIsStronger_c A c l w H.out.1 H.out.2.1.1).mono ?_
    rintro e w1 ⟨x, y, hx, hy, rfl, hb⟩
    have J1 := Lib.hid (H.out.2.2.below hb)
    have Hb := Lib.hid hb
    clear hx hy hb H
    by_cases hs : strM x y = true
    · go_wp2_with (first | (go_at_call 19; refine (spec_IsStronger_c _ _ _).mono ?_; rintro e w' ⟨rfl, rfl⟩) | (go_at_call 20; refine (impl_IsStronger_c _ _ _ J1.out).mono ?_; rintro e w' ⟨rfl, rfl⟩))
      go_loop [6] (fun m => ∃ k : Nat, k ≤ 6 ∧ m = .int .i64 k) (fun m => 6 - (intOf m).toNat)
      case atStart => exact ⟨0, by omega, rfl⟩
      case round =>
        obtain ⟨k, hk, rfl⟩ := hrel
        by_cases hlt : k ≤ 5
        · by_cases h2 : strM y k = true
          · have h3 := str_trans hs h2
            go_wp2_with (go_at_call 20; refine (impl_IsStronger_c _ _ _ J1.out).mono ?_; rintro e w' ⟨rfl, rfl⟩)
            go_round
            case rel => exact ⟨k + 1, by omega, by go_num⟩
            case measure => simp [intOf]; omega
          · rw [Bool.not_eq_true] at h2
            go_wp2_with (go_at_call 20; refine (impl_IsStronger_c _ _ _ J1.out).mono ?_; rintro e w' ⟨rfl, rfl⟩)
            go_round
            case rel => exact ⟨k + 1, by omega, by go_num⟩
            case measure => simp [intOf]; omega
        · go_wp2
          go_ret
          exact ⟨rfl, Hb.out⟩
    · rw [Bool.not_eq_true] at hs
      go_wp2_with (first | (go_at_call 19; refine (spec_IsStronger_c _ _ _).mono ?_; rintro e w' ⟨rfl, rfl⟩) | (go_at_call 20; refine (impl_IsStronger_c _ _ _ J1.out).mono ?_; rintro e w' ⟨rfl, rfl⟩))
      go_ret
      exact ⟨rfl, Hb.out⟩


set_option maxHeartbeats 1000000 in
theorem FnGoTogetherNone_c (A : Option Addr) (c : Nat) (l : List Int) (w : World) (h : BytesAt w w.heap.size A l) (hl : l.length ≤ c ∧ c ≤ maxLen) (ht : TTab w) :
    Calls Tryd.prog 7 #[.slice A l.length c] w fun e w' => e = .returned (.bool true) ∧ Below w.heap.size w w' := by
  have hm := hl.2
  unfold maxLen at hm
  have H := Lib.hid (And.intro h hl)
  have HT := Lib.hid ht
  clear h hl ht
  by_cases hlong : 1048576 < l.length
  · go_enter Tryd.func7, Tryd.ntmps7
    go_wp2
    go_ret
    exact ⟨rfl, Below.refl _ _⟩
  · go_enter Tryd.func7, Tryd.ntmps7
    go_wp2_with fail
    refine (DrawGoTogether_c A c l w H.out.1 H.out.2.1).mono ?_
    rintro e w1 ⟨x, y, _, _, rfl, hb⟩
    have T1 := Lib.hid (HT.out.below hb)
    have Hb := Lib.hid hb
    clear hb H HT
    have e1 : togM 3 3 = true := by decide +kernel
    have e2 : togM 4 4 = false := by decide +kernel
    have e3 : togM 2 2 = true := by decide +kernel
    have e4 : togM 5 1 = false := by decide +kernel
    go_wp2_with (first | (go_at_call 23; refine (spec_GoTogether_c _ _ _).mono ?_; rintro e w' ⟨rfl, rfl⟩) | (go_at_call 24; refine (impl_GoTogether_c _ _ _ T1.out).mono ?_; rintro e w' ⟨rfl, rfl⟩))
    go_ret
    exact ⟨rfl, Hb.out⟩


set_option maxHeartbeats 1000000 in
theorem FnJoinModesBound_c (A : Option Addr) (c : Nat) (l : List Int) (w : World) (h : BytesAt w w.heap.size A l) (hl : l.length ≤ c ∧ c ≤ maxLen) (ht : JTab w) :
    Calls Tryd.prog 8 #[.slice A l.length c] w fun e w' => e = .returned (.bool true) ∧ Below w.heap.size w w' := by
  have hm := hl.2
  unfold maxLen at hm
  have H := Lib.hid (And.intro h hl)
  have HJ := Lib.hid ht
  clear h hl ht
  by_cases hlong : 1048576 < l.length
  · go_enter Tryd.func8, Tryd.ntmps8
    go_wp2
    go_ret
    exact ⟨rfl, Below.refl _ _⟩
  · go_enter Tryd.func8, Tryd.ntmps8
    go_wp2_with fail
    refine (DrawJoinModes_c A c l w H.out.1 H.out.2.1).mono ?_
    rintro e w1 ⟨x, y, _, _, rfl, hb⟩
    have J1 := Lib.hid (HJ.out.below hb)
    have Hb := Lib.hid hb
    clear hb H HJ
    by_cases hneg : joinM x y < 0
    · go_wp2_with (first | (go_at_call 21; refine (spec_JoinModes_c _ _ _).mono ?_; rintro e w' ⟨rfl, rfl⟩) | (go_at_call 22; refine (impl_JoinModes_c _ _ _ J1.out).mono ?_; rintro e w' ⟨rfl, rfl⟩))
      go_ret
      exact ⟨rfl, Hb.out⟩
    · rcases join_bound hneg with e | e | ⟨rfl, rfl⟩ | ⟨rfl, rfl⟩
      · have e1 : (joinM x y == x) = true := beq_iff_eq.2 e
        have E := Lib.hid e
        clear e
        go_wp2_with (first | (go_at_call 21; refine (spec_JoinModes_c _ _ _).mono ?_; rintro e w' ⟨rfl, rfl⟩) | (go_at_call 22; refine (impl_JoinModes_c _ _ _ J1.out).mono ?_; rintro e w' ⟨rfl, rfl⟩))
        go_ret
        exact ⟨rfl, Hb.out⟩
      · have e1 : (joinM x y == y) = true := beq_iff_eq.2 e
        have E := Lib.hid e
        clear e
        by_cases e2 : (joinM x y == x) = true
        · go_wp2_with (first | (go_at_call 21; refine (spec_JoinModes_c _ _ _).mono ?_; rintro e w' ⟨rfl, rfl⟩) | (go_at_call 22; refine (impl_JoinModes_c _ _ _ J1.out).mono ?_; rintro e w' ⟨rfl, rfl⟩))
          go_ret
          exact ⟨rfl, Hb.out⟩
        · rw [Bool.not_eq_true] at e2
          go_wp2_with (first | (go_at_call 21; refine (spec_JoinModes_c _ _ _).mono ?_; rintro e w' ⟨rfl, rfl⟩) | (go_at_call 22; refine (impl_JoinModes_c _ _ _ J1.out).mono ?_; rintro e w' ⟨rfl, rfl⟩))
          go_ret
          exact ⟨rfl, Hb.out⟩
      · have e1 : joinM 2 3 = 4 := by decide +kernel
        clear hneg
        go_wp2_with (first | (go_at_call 21; refine (spec_JoinModes_c _ _ _).mono ?_; rintro e w' ⟨rfl, rfl⟩) | (go_at_call 22; refine (impl_JoinModes_c _ _ _ J1.out).mono ?_; rintro e w' ⟨rfl, rfl⟩))
        go_ret
        exact ⟨rfl, Hb.out⟩
      · have e1 : joinM 3 2 = 4 := by decide +kernel
        clear hneg
        go_wp2_with (first | (go_at_call 21; refine (spec_JoinModes_c _ _ _).mono ?_; rintro e w' ⟨rfl, rfl⟩) | (go_at_call 22; refine (impl_JoinModes_c _ _ _ J1.out).mono ?_; rintro e w' ⟨rfl, rfl⟩))
        go_ret
        exact ⟨rfl, Hb.out⟩


set_option maxHeartbeats 1000000 in
theorem FnJoinModesThree_c (A : Option Addr) (c : Nat) (l : List Int) (w : World) (h : BytesAt w w.heap.size A l) (hl : l.length ≤ c ∧ c ≤ maxLen) (ht : JTab w) :
    Calls Tryd.prog 9 #[.slice A l.length c] w fun e w' => e = .returned (.bool true) ∧ Below w.heap.size w w' := by
  have hm := hl.2
  unfold maxLen at hm
  have H := Lib.hid (And.intro h hl)
  have HJ := Lib.hid ht
  clear h hl ht
  by_cases hlong : 1048576 < l.length
  · go_enter Tryd.func9, Tryd.ntmps9
    go_wp2
    go_ret
    exact ⟨rfl, Below.refl _ _⟩
  · go_enter Tryd.func9, Tryd.ntmps9
    go_wp2_with fail
    refine (DrawJoinModes_c A c l w H.out.1 H.out.2.1).mono ?_
    rintro e w1 ⟨x, y, _, _, rfl, hb⟩
    have J1 := Lib.hid (HJ.out.below hb)
    have Hb := Lib.hid hb
    clear hb H HJ
    by_cases hneg : joinM x y < 0
    · go_wp2_with (first | (go_at_call 21; refine (spec_JoinModes_c _ _ _).mono ?_; rintro e w' ⟨rfl, rfl⟩) | (go_at_call 22; refine (impl_JoinModes_c _ _ _ J1.out).mono ?_; rintro e w' ⟨rfl, rfl⟩))
      go_ret
      exact ⟨rfl, Hb.out⟩
    · have e1 : (joinM x x == x) = true := beq_iff_eq.2 (join_self hneg).1
      have e2 : (joinM x 0 == x) = true := beq_iff_eq.2 (join_self hneg).2
      have Hneg := Lib.hid hneg
      go_wp2_with (first | (go_at_call 21; refine (spec_JoinModes_c _ _ _).mono ?_; rintro e w' ⟨rfl, rfl⟩) | (go_at_call 22; refine (impl_JoinModes_c _ _ _ J1.out).mono ?_; rintro e w' ⟨rfl, rfl⟩))
      go_loop [6] (fun m => ∃ k : Nat, k ≤ 6 ∧ m = .int .i64 k) (fun m => 6 - (intOf m).toNat)
      case atStart => exact ⟨0, by omega, rfl⟩
      case round =>
        obtain ⟨k, hk, rfl⟩ := hrel
        by_cases hlt : k ≤ 5
        · have e3 : (joinM (joinM x y) k != joinM x (joinM y k)) = false := by rw [join_assoc (a := x) (b := y) (by have := Hneg.out; omega) (modeB_iff.2 ⟨by omega, by omega⟩)]; simp
          go_wp2_with (go_at_call 22; refine (impl_JoinModes_c _ _ _ J1.out).mono ?_; rintro e w' ⟨rfl, rfl⟩)
          go_round
          case rel => exact ⟨k + 1, by omega, by go_num⟩
          case measure => simp [intOf]; omega
        · go_wp2_with (go_at_call 22; refine (impl_JoinModes_c _ _ _ J1.out).mono ?_; rintro e w' ⟨rfl, rfl⟩)
          go_ret
          exact ⟨rfl, Hb.out⟩


set_option maxHeartbeats 1000000 in
theorem FnIsStronger_c (A : Option Addr) (c : Nat) (l : List Int) (w : World) (h : BytesAt w w.heap.size A l) (hl : l.length ≤ c ∧ c ≤ maxLen) (ht : JTab w) :
    Calls Tryd.prog 10 #[.slice A l.length c] w fun e w' => e = .returned (.bool true) ∧ Below w.heap.size w w' := by
  have hm := hl.2
  unfold maxLen at hm
  have H := Lib.hid (And.intro h hl)
  have HJ := Lib.hid ht
  clear h hl ht
  by_cases hlong : 1048576 < l.length
  · go_enter Tryd.func10, Tryd.ntmps10
    go_wp2
    go_ret
    exact ⟨rfl, Below.refl _ _⟩
  · go_enter Tryd.func10, Tryd.ntmps10
    go_wp2_with fail
    refine (DrawIsStronger_c A c l w H.out.1 H.out.2.1).mono ?_
    rintro e w1 ⟨x, y, _, _, rfl, hb⟩
    have J1 := Lib.hid (HJ.out.below hb)
    have Hb := Lib.hid hb
    clear hb H HJ
    by_cases hneg : joinM x y < 0
    · go_wp2_with (first | (go_at_call 19; refine (spec_IsStronger_c _ _ _).mono ?_; rintro e w' ⟨rfl, rfl⟩) | (go_at_call 20; refine (impl_IsStronger_c _ _ _ J1.out).mono ?_; rintro e w' ⟨rfl, rfl⟩) | (go_at_call 22; refine (impl_JoinModes_c _ _ _ J1.out).mono ?_; rintro e w' ⟨rfl, rfl⟩))
      go_ret
      exact ⟨rfl, Hb.out⟩
    · have hends := str_ends hneg
      have e1 : strM 5 x = true := hends.1
      have e2 : strM x 0 = true := hends.2.1
      have H3 := Lib.hid hends.2.2
      clear hends
      by_cases hs : strM x y = true
      · have e3 : (joinM x y == x) = true := by rw [← H3.out.1]; exact hs
        by_cases hq : strM y x = true
        · have e4 : (x == y) = true := by rw [← H3.out.2]; simp [hs, hq]
          go_wp2_with (first | (go_at_call 19; refine (spec_IsStronger_c _ _ _).mono ?_; rintro e w' ⟨rfl, rfl⟩) | (go_at_call 20; refine (impl_IsStronger_c _ _ _ J1.out).mono ?_; rintro e w' ⟨rfl, rfl⟩) | (go_at_call 22; refine (impl_JoinModes_c _ _ _ J1.out).mono ?_; rintro e w' ⟨rfl, rfl⟩))
          go_ret
          exact ⟨rfl, Hb.out⟩
        · rw [Bool.not_eq_true] at hq
          have e4 : (x == y) = false := by rw [← H3.out.2]; simp [hq]
          go_wp2_with (first | (go_at_call 19; refine (spec_IsStronger_c _ _ _).mono ?_; rintro e w' ⟨rfl, rfl⟩) | (go_at_call 20; refine (impl_IsStronger_c _ _ _ J1.out).mono ?_; rintro e w' ⟨rfl, rfl⟩) | (go_at_call 22; refine (impl_JoinModes_c _ _ _ J1.out).mono ?_; rintro e w' ⟨rfl, rfl⟩))
          go_ret
          exact ⟨rfl, Hb.out⟩
      · rw [Bool.not_eq_true] at hs
        have e3 : (joinM x y == x) = false := by rw [← H3.out.1]; exact hs
        have e4 : (x == y) = false := by rw [← H3.out.2]; simp [hs]
        go_wp2_with (first | (go_at_call 19; refine (spec_IsStronger_c _ _ _).mono ?_; rintro e w' ⟨rfl, rfl⟩) | (go_at_call 20; refine (impl_IsStronger_c _ _ _ J1.out).mono ?_; rintro e w' ⟨rfl, rfl⟩) | (go_at_call 22; refine (impl_JoinModes_c _ _ _ J1.out).mono ?_; rintro e w' ⟨rfl, rfl⟩))
        go_ret
        exact ⟨rfl, Hb.out⟩


set_option maxHeartbeats 1000000 in
theorem FnGoTogetherWeaker_c (A : Option Addr) (c : Nat) (l : List Int) (w : World) (h : BytesAt w w.heap.size A l) (hl : l.length ≤ c ∧ c ≤ maxLen) (ht : TTab w) (hj : JTab w) :
    Calls Tryd.prog 11 #[.slice A l.length c] w fun e w' => e = .returned (.bool true) ∧ Below w.heap.size w w' := by
  have hm := hl.2
  unfold maxLen at hm
  have H := Lib.hid (And.intro h hl)
  have HJ := Lib.hid hj
  have HT := Lib.hid ht
  clear h hl hj ht
  by_cases hlong : 1048576 < l.length
  · go_enter Tryd.func11, Tryd.ntmps11
    go_wp2
    go_ret
    exact ⟨rfl, Below.refl _ _⟩
  · go_enter Tryd.func11, Tryd.ntmps11
    go_wp2_with fail
    refine (DrawGoTogether_c A c l w H.out.1 H.out.2.1).mono ?_
    rintro e w1 ⟨x, y, _, _, rfl, hb⟩
    have J1 := Lib.hid (HJ.out.below hb)
    have T1 := Lib.hid (HT.out.below hb)
    have Hb := Lib.hid hb
    clear hb H HJ HT
    by_cases hs : togM x y = true
    · go_wp2_with (first | (go_at_call 23; refine (spec_GoTogether_c _ _ _).mono ?_; rintro e w' ⟨rfl, rfl⟩) | (go_at_call 24; refine (impl_GoTogether_c _ _ _ T1.out).mono ?_; rintro e w' ⟨rfl, rfl⟩))
      go_loop [6] (fun m => ∃ k : Nat, k ≤ 6 ∧ m = .int .i64 k) (fun m => 6 - (intOf m).toNat)
      case atStart => exact ⟨0, by omega, rfl⟩
      case round =>
        obtain ⟨k, hk, rfl⟩ := hrel
        by_cases hlt : k ≤ 5
        · by_cases h2 : strM y k = true
          · have h3 := tog_weaker hs h2
            go_wp2_with (first | (go_at_call 20; refine (impl_IsStronger_c _ _ _ J1.out).mono ?_; rintro e w' ⟨rfl, rfl⟩) | (go_at_call 24; refine (impl_GoTogether_c _ _ _ T1.out).mono ?_; rintro e w' ⟨rfl, rfl⟩))
            go_round
            case rel => exact ⟨k + 1, by omega, by go_num⟩
            case measure => simp [intOf]; omega
          · rw [Bool.not_eq_true] at h2
            go_wp2_with (first | (go_at_call 20; refine (impl_IsStronger_c _ _ _ J1.out).mono ?_; rintro e w' ⟨rfl, rfl⟩) | (go_at_call 24; refine (impl_GoTogether_c _ _ _ T1.out).mono ?_; rintro e w' ⟨rfl, rfl⟩))
            go_round
            case rel => exact ⟨k + 1, by omega, by go_num⟩
            case measure => simp [intOf]; omega
        · go_wp2
          go_ret
          exact ⟨rfl, Hb.out⟩
    · rw [Bool.not_eq_true] at hs
      go_wp2_with (first | (go_at_call 23; refine (spec_GoTogether_c _ _ _).mono ?_; rintro e w' ⟨rfl, rfl⟩) | (go_at_call 24; refine (impl_GoTogether_c _ _ _ T1.out).mono ?_; rintro e w' ⟨rfl, rfl⟩))
      go_ret
      exact ⟨rfl, Hb.out⟩


set_option maxHeartbeats 1000000 in
theorem FnJoinModes_c (A : Option Addr) (c : Nat) (l : List Int) (w : World) (h : BytesAt w w.heap.size A l) (hl : l.length ≤ c ∧ c ≤ maxLen) (ht : JTab w) :
    Calls Tryd.prog 12 #[.slice A l.length c] w fun e w' => e = .returned (.bool true) ∧ Below w.heap.size w w' := by
  have hm := hl.2
  unfold maxLen at hm
  have H := Lib.hid (And.intro h hl)
  have HJ := Lib.hid ht
  clear h hl ht
  by_cases hlong : 1048576 < l.length
  · go_enter Tryd.func12, Tryd.ntmps12
    go_wp2
    go_ret
    exact ⟨rfl, Below.refl _ _⟩
  · go_enter Tryd.func12, Tryd.ntmps12
    go_wp2_with fail
    refine (DrawJoinModes_c A c l w H.out.1 H.out.2.1).mono ?_
    rintro e w1 ⟨x, y, _, _, rfl, hb⟩
    have J1 := Lib.hid (HJ.out.below hb)
    have Hb := Lib.hid hb
    clear hb H HJ
    by_cases hneg : joinM x y < 0
    · go_wp2_with (first | (go_at_call 21; refine (spec_JoinModes_c _ _ _).mono ?_; rintro e w' ⟨rfl, rfl⟩) | (go_at_call 22; refine (impl_JoinModes_c _ _ _ J1.out).mono ?_; rintro e w' ⟨rfl, rfl⟩))
      go_ret
      exact ⟨rfl, Hb.out⟩
    · have hj := join_strong hneg
      have e1 := hj.1
      have e2 := hj.2.1
      have e3 : (joinM y x == joinM x y) = true := beq_iff_eq.2 hj.2.2
      clear hj
      go_wp2_with (first | (go_at_call 21; refine (spec_JoinModes_c _ _ _).mono ?_; rintro e w' ⟨rfl, rfl⟩) | (go_at_call 22; refine (impl_JoinModes_c _ _ _ J1.out).mono ?_; rintro e w' ⟨rfl, rfl⟩))
      go_loop [6] (fun m => ∃ k : Nat, k ≤ 6 ∧ m = .int .i64 k) (fun m => 6 - (intOf m).toNat)
      case atStart => exact ⟨0, by omega, rfl⟩
      case round =>
        obtain ⟨k, hk, rfl⟩ := hrel
        by_cases hlt : k ≤ 5
        · by_cases h1 : strM k x = true
          · by_cases h2 : strM k y = true
            · have h3 := join_least h1 h2
              go_wp2_with (go_at_call 20; refine (impl_IsStronger_c _ _ _ J1.out).mono ?_; rintro e w' ⟨rfl, rfl⟩)
              go_round
              case rel => exact ⟨k + 1, by omega, by go_num⟩
              case measure => simp [intOf]; omega
            · rw [Bool.not_eq_true] at h2
              go_wp2_with (go_at_call 20; refine (impl_IsStronger_c _ _ _ J1.out).mono ?_; rintro e w' ⟨rfl, rfl⟩)
              go_round
              case rel => exact ⟨k + 1, by omega, by go_num⟩
              case measure => simp [intOf]; omega
          · rw [Bool.not_eq_true] at h1
            go_wp2_with (go_at_call 20; refine (impl_IsStronger_c _ _ _ J1.out).mono ?_; rintro e w' ⟨rfl, rfl⟩)
            go_round
            case rel => exact ⟨k + 1, by omega, by go_num⟩
            case measure => simp [intOf]; omega
        · go_wp2_with (first | (go_at_call 20; refine (impl_IsStronger_c _ _ _ J1.out).mono ?_; rintro e w' ⟨rfl, rfl⟩) | (go_at_call 22; refine (impl_JoinModes_c _ _ _ J1.out).mono ?_; rintro e w' ⟨rfl, rfl⟩))
          go_ret
          exact ⟨rfl, Hb.out⟩


set_option maxHeartbeats 1000000 in
theorem FnJoinModesTogether_c (A : Option Addr) (c : Nat) (l : List Int) (w : World) (h : BytesAt w w.heap.size A l) (hl : l.length ≤ c ∧ c ≤ maxLen) (hj : JTab w) (ht : TTab w) :
    Calls Tryd.prog 13 #[.slice A l.length c] w fun e w' => e = .returned (.bool true) ∧ Below w.heap.size w w' := by
  have hm := hl.2
  unfold maxLen at hm
  have H := Lib.hid (And.intro h hl)
  have HJ := Lib.hid hj
  have HT := Lib.hid ht
  clear h hl hj ht
  by_cases hlong : 1048576 < l.length
  · go_enter Tryd.func13, Tryd.ntmps13
    go_wp2
    go_ret
    exact ⟨rfl, Below.refl _ _⟩
  · go_enter Tryd.func13, Tryd.ntmps13
    go_wp2_with fail
    refine (DrawJoinModes_c A c l w H.out.1 H.out.2.1).mono ?_
    rintro e w1 ⟨x, y, _, _, rfl, hb⟩
    have J1 := Lib.hid (HJ.out.below hb)
    have T1 := Lib.hid (HT.out.below hb)
    have Hb := Lib.hid hb
    clear hb H HJ HT
    by_cases hneg : joinM x y < 0
    · go_wp2_with (first | (go_at_call 21; refine (spec_JoinModes_c _ _ _).mono ?_; rintro e w' ⟨rfl, rfl⟩) | (go_at_call 22; refine (impl_JoinModes_c _ _ _ J1.out).mono ?_; rintro e w' ⟨rfl, rfl⟩))
      go_ret
      exact ⟨rfl, Hb.out⟩
    · have Hneg := Lib.hid hneg
      go_wp2_with (first | (go_at_call 21; refine (spec_JoinModes_c _ _ _).mono ?_; rintro e w' ⟨rfl, rfl⟩) | (go_at_call 22; refine (impl_JoinModes_c _ _ _ J1.out).mono ?_; rintro e w' ⟨rfl, rfl⟩))
      go_loop [6] (fun m => ∃ k : Nat, k ≤ 6 ∧ m = .int .i64 k) (fun m => 6 - (intOf m).toNat)
      case atStart => exact ⟨0, by omega, rfl⟩
      case round =>
        obtain ⟨k, hk, rfl⟩ := hrel
        by_cases hlt : k ≤ 5
        · have h3 := join_together (a := x) (b := y) (by have := Hneg.out; omega) (m := k) (modeB_iff.2 ⟨by omega, by omega⟩)
          by_cases h1 : togM k x = true
          · by_cases h2 : togM k y = true
            · have h4 : togM k (joinM x y) = true := by rw [h3, h1, h2]; rfl
              clear h3
              go_wp2_with (go_at_call 24; refine (impl_GoTogether_c _ _ _ T1.out).mono ?_; rintro e w' ⟨rfl, rfl⟩)
              go_round
              case rel => exact ⟨k + 1, by omega, by go_num⟩
              case measure => simp [intOf]; omega
            · rw [Bool.not_eq_true] at h2
              have h4 : togM k (joinM x y) = false := by rw [h3, h1, h2]; rfl
              clear h3
              go_wp2_with (go_at_call 24; refine (impl_GoTogether_c _ _ _ T1.out).mono ?_; rintro e w' ⟨rfl, rfl⟩)
              go_round
              case rel => exact ⟨k + 1, by omega, by go_num⟩
              case measure => simp [intOf]; omega
          · rw [Bool.not_eq_true] at h1
            have h4 : togM k (joinM x y) = false := by rw [h3, h1]; rfl
            clear h3
            go_wp2_with (go_at_call 24; refine (impl_GoTogether_c _ _ _ T1.out).mono ?_; rintro e w' ⟨rfl, rfl⟩)
            go_round
            case rel => exact ⟨k + 1, by omega, by go_num⟩
            case measure => simp [intOf]; omega
        · go_wp2
          go_ret
          exact ⟨rfl, Hb.out⟩


set_option maxHeartbeats 1000000 in
theorem FnGoTogether_c (A : Option Addr) (c : Nat) (l : List Int) (w : World) (h : BytesAt w w.heap.size A l) (hl : l.length ≤ c ∧ c ≤ maxLen) (ht : TTab w) (hj : JTab w) :
    Calls Tryd.prog 14 #[.slice A l.length c] w fun e w' => e = .returned (.bool true) ∧ Below w.heap.size w w' := by
  have hm := hl.2
  unfold maxLen at hm
  have H := Lib.hid (And.intro h hl)
  have HJ := Lib.hid hj
  have HT := Lib.hid ht
  clear h hl hj ht
  by_cases hlong : 1048576 < l.length
  · go_enter Tryd.func14, Tryd.ntmps14
    go_wp2
    go_ret
    exact ⟨rfl, Below.refl _ _⟩
  · go_enter Tryd.func14, Tryd.ntmps14
    go_wp2_with fail
    refine (DrawGoTogether_c A c l w H.out.1 H.out.2.1).mono ?_
    rintro e w1 ⟨x, y, _, _, rfl, hb⟩
    have J1 := Lib.hid (HJ.out.below hb)
    have T1 := Lib.hid (HT.out.below hb)
    have Hb := Lib.hid hb
    clear hb H HJ HT
    by_cases hneg : joinM x y < 0
    · go_wp2_with (first | (go_at_call 23; refine (spec_GoTogether_c _ _ _).mono ?_; rintro e w' ⟨rfl, rfl⟩) | (go_at_call 24; refine (impl_GoTogether_c _ _ _ T1.out).mono ?_; rintro e w' ⟨rfl, rfl⟩) | (go_at_call 22; refine (impl_JoinModes_c _ _ _ J1.out).mono ?_; rintro e w' ⟨rfl, rfl⟩))
      go_ret
      exact ⟨rfl, Hb.out⟩
    · have hj := tog_mutual hneg
      have e1 : (togM y x == togM x y) = true := beq_iff_eq.2 hj.1
      have e2 := hj.2.1
      have e3 : (togM x 5 == (x == 0)) = true := beq_iff_eq.2 hj.2.2
      clear hj
      go_wp2_with (first | (go_at_call 23; refine (spec_GoTogether_c _ _ _).mono ?_; rintro e w' ⟨rfl, rfl⟩) | (go_at_call 24; refine (impl_GoTogether_c _ _ _ T1.out).mono ?_; rintro e w' ⟨rfl, rfl⟩) | (go_at_call 22; refine (impl_JoinModes_c _ _ _ J1.out).mono ?_; rintro e w' ⟨rfl, rfl⟩))
      go_ret
      exact ⟨rfl, Hb.out⟩


set_option maxHeartbeats 1000000 in
theorem FnNeedAbove_c (A : Option Addr) (c : Nat) (l : List Int) (w : World) (h : BytesAt w w.heap.size A l) (hl : l.length ≤ c ∧ c ≤ maxLen) (ht : JTab w) :
    Calls Tryd.prog 15 #[.slice A l.length c] w fun e w' => e = .returned (.bool true) ∧ Below w.heap.size w w' := by
  have hm := hl.2
  unfold maxLen at hm
  have H := Lib.hid (And.intro h hl)
  have HJ := Lib.hid ht
  clear h hl ht
  by_cases hlong : 1048576 < l.length
  · go_enter Tryd.func15, Tryd.ntmps15
    go_wp2
    go_ret
    exact ⟨rfl, Below.refl _ _⟩
  · go_enter Tryd.func15, Tryd.ntmps15
    go_wp2_with fail
    refine (DrawNeedAbove_c A c l w H.out.1 H.out.2.1).mono ?_
    rintro e w1 ⟨x, _, rfl, hb⟩
    have J1 := Lib.hid (HJ.out.below hb)
    have Hb := Lib.hid hb
    clear hb H HJ
    by_cases hneg : needM x < 0
    · go_wp2_with (first | (go_at_call 30; refine (spec_NeedAbove_c _ _).mono ?_; rintro e w' ⟨rfl, rfl⟩) | (go_at_call 29; refine (impl_NeedAbove_c _ _).mono ?_; rintro e w' ⟨rfl, rfl⟩))
      go_ret
      exact ⟨rfl, Hb.out⟩
    · have hj := need_less hneg
      have e1 := hj.1
      have e2 : (needM (needM x) == needM x) = true := beq_iff_eq.2 hj.2
      clear hj
      go_wp2_with (first | (go_at_call 30; refine (spec_NeedAbove_c _ _).mono ?_; rintro e w' ⟨rfl, rfl⟩) | (go_at_call 29; refine (impl_NeedAbove_c _ _).mono ?_; rintro e w' ⟨rfl, rfl⟩) | (go_at_call 20; refine (impl_IsStronger_c _ _ _ J1.out).mono ?_; rintro e w' ⟨rfl, rfl⟩))
      go_ret
      exact ⟨rfl, Hb.out⟩


set_option maxHeartbeats 1000000 in
theorem FnNeedAboveTogether_c (A : Option Addr) (c : Nat) (l : List Int) (w : World) (h : BytesAt w w.heap.size A l) (hl : l.length ≤ c ∧ c ≤ maxLen) (ht : TTab w) :
    Calls Tryd.prog 16 #[.slice A l.length c] w fun e w' => e = .returned (.bool true) ∧ Below w.heap.size w w' := by
  have hm := hl.2
  unfold maxLen at hm
  have H := Lib.hid (And.intro h hl)
  have HT := Lib.hid ht
  clear h hl ht
  by_cases hlong : 1048576 < l.length
  · go_enter Tryd.func16, Tryd.ntmps16
    go_wp2
    go_ret
    exact ⟨rfl, Below.refl _ _⟩
  · go_enter Tryd.func16, Tryd.ntmps16
    go_wp2_with fail
    refine (DrawNeedAbove_c A c l w H.out.1 H.out.2.1).mono ?_
    rintro e w1 ⟨x, _, rfl, hb⟩
    have T1 := Lib.hid (HT.out.below hb)
    have Hb := Lib.hid hb
    clear hb H HT
    by_cases hneg : needM x < 0
    · go_wp2_with (first | (go_at_call 30; refine (spec_NeedAbove_c _ _).mono ?_; rintro e w' ⟨rfl, rfl⟩) | (go_at_call 29; refine (impl_NeedAbove_c _ _).mono ?_; rintro e w' ⟨rfl, rfl⟩))
      go_ret
      exact ⟨rfl, Hb.out⟩
    · have Hneg := Lib.hid hneg
      go_wp2_with (first | (go_at_call 30; refine (spec_NeedAbove_c _ _).mono ?_; rintro e w' ⟨rfl, rfl⟩) | (go_at_call 29; refine (impl_NeedAbove_c _ _).mono ?_; rintro e w' ⟨rfl, rfl⟩))
      go_loop [5] (fun m => ∃ k : Nat, k ≤ 6 ∧ m = .int .i64 k) (fun m => 6 - (intOf m).toNat)
      case atStart => exact ⟨0, by omega, rfl⟩
      case round =>
        obtain ⟨k, hk, rfl⟩ := hrel
        by_cases hlt : k ≤ 5
        · have h3 := need_tog (m := x) (by have := Hneg.out; omega) (k := k) (modeB_iff.2 ⟨by omega, by omega⟩)
          go_wp2_with (first | (go_at_call 29; refine (impl_NeedAbove_c _ _).mono ?_; rintro e w' ⟨rfl, rfl⟩) | (go_at_call 24; refine (impl_GoTogether_c _ _ _ T1.out).mono ?_; rintro e w' ⟨rfl, rfl⟩))
          go_round
          case rel => exact ⟨k + 1, by omega, by go_num⟩
          case measure => simp [intOf]; omega
        · go_wp2
          go_ret
          exact ⟨rfl, Hb.out⟩


set_option maxHeartbeats 1000000 in
theorem FnIsStrongerAbove_c (A : Option Addr) (c : Nat) (l : List Int) (w : World) (h : BytesAt w w.heap.size A l) (hl : l.length ≤ c ∧ c ≤ maxLen) (ht : JTab w) :
    Calls Tryd.prog 17 #[.slice A l.length c] w fun e w' => e = .returned (.bool true) ∧ Below w.heap.size w w' := by
  have hm := hl.2
  unfold maxLen at hm
  have H := Lib.hid (And.intro h hl)
  have HJ := Lib.hid ht
  clear h hl ht
  by_cases hlong : 1048576 < l.length
  · go_enter Tryd.func17, Tryd.ntmps17
    go_wp2
    go_ret
    exact ⟨rfl, Below.refl _ _⟩
  · go_enter Tryd.func17, Tryd.ntmps17
    go_wp2_with fail
    refine (DrawIsStronger_c A c l w H.out.1 H.out.2.1).mono ?_
    rintro e w1 ⟨x, y, _, _, rfl, hb⟩
    have J1 := Lib.hid (HJ.out.below hb)
    have Hb := Lib.hid hb
    clear hb H HJ
    by_cases hs : strM x y = true
    · have e1 := need_str hs
      go_wp2_with (first | (go_at_call 19; refine (spec_IsStronger_c _ _ _).mono ?_; rintro e w' ⟨rfl, rfl⟩) | (go_at_call 20; refine (impl_IsStronger_c _ _ _ J1.out).mono ?_; rintro e w' ⟨rfl, rfl⟩) | (go_at_call 29; refine (impl_NeedAbove_c _ _).mono ?_; rintro e w' ⟨rfl, rfl⟩))
      go_ret
      exact ⟨rfl, Hb.out⟩
    · rw [Bool.not_eq_true] at hs
      go_wp2_with (first | (go_at_call 19; refine (spec_IsStronger_c _ _ _).mono ?_; rintro e w' ⟨rfl, rfl⟩) | (go_at_call 20; refine (impl_IsStronger_c _ _ _ J1.out).mono ?_; rintro e w' ⟨rfl, rfl⟩) | (go_at_call 29; refine (impl_NeedAbove_c _ _).mono ?_; rintro e w' ⟨rfl, rfl⟩))
      go_ret
      exact ⟨rfl, Hb.out⟩


set_option maxHeartbeats 1000000 in
theorem FnNeedAboveJoin_c (A : Option Addr) (c : Nat) (l : List Int) (w : World) (h : BytesAt w w.heap.size A l) (hl : l.length ≤ c ∧ c ≤ maxLen) (ht : JTab w) :
    Calls Tryd.prog 18 #[.slice A l.length c] w fun e w' => e = .returned (.bool true) ∧ Below w.heap.size w w' := by
  have hm := hl.2
  unfold maxLen at hm
  have H := Lib.hid (And.intro h hl)
  have HJ := Lib.hid ht
  clear h hl ht
  by_cases hlong : 1048576 < l.length
  · go_enter Tryd.func18, Tryd.ntmps18
    go_wp2
    go_ret
    exact ⟨rfl, Below.refl _ _⟩
  · go_enter Tryd.func18, Tryd.ntmps18
    go_wp2_with fail
    refine (DrawJoinModes_c A c l w H.out.1 H.out.2.1).mono ?_
    rintro e w1 ⟨x, y, _, _, rfl, hb⟩
    have J1 := Lib.hid (HJ.out.below hb)
    have Hb := Lib.hid hb
    clear hb H HJ
    by_cases hneg : joinM x y < 0
    · go_wp2_with (first | (go_at_call 21; refine (spec_JoinModes_c _ _ _).mono ?_; rintro e w' ⟨rfl, rfl⟩) | (go_at_call 22; refine (impl_JoinModes_c _ _ _ J1.out).mono ?_; rintro e w' ⟨rfl, rfl⟩))
      go_ret
      exact ⟨rfl, Hb.out⟩
    · have e1 : (needM (joinM x y) == joinM (needM x) (needM y)) = true := beq_iff_eq.2 (need_join hneg)
      go_wp2_with (first | (go_at_call 21; refine (spec_JoinModes_c _ _ _).mono ?_; rintro e w' ⟨rfl, rfl⟩) | (go_at_call 22; refine (impl_JoinModes_c _ _ _ J1.out).mono ?_; rintro e w' ⟨rfl, rfl⟩) | (go_at_call 29; refine (impl_NeedAbove_c _ _).mono ?_; rintro e w' ⟨rfl, rfl⟩))
      go_ret
      exact ⟨rfl, Hb.out⟩
end Go.Proofs.YtbfaaolbdgpnoaaDoor
