/-
  Valid names, kids, depths: the contracts of functions that only read.
-/
import Derived.Test.YtfgcjdhcnalmmaaDoorPPath
import Derived.Test.YtfgcjdhcnalmmaaDoorPTree2
import Derived.Test.YtfgcjdhcnalmmaaDoorPList
import Derived.Test.YtfgcjdhcnalmmaaDoorRangeQ
import Derived.WalkSpells
namespace Go.Proofs.YtfgcjdhcnalmmaaDoor
open Go.RowKit

theorem bytes_snoc (s : ByteArray) {k : Nat} (h : k < s.size) : s.data.toList.take (k + 1) = s.data.toList.take k ++ [s[k]] := by
  rw [List.take_succ_eq_append_getElem (by simpa using h)]; rfl
theorem letters_snoc {s : ByteArray} {k : Nat} (h : k < s.size) (h1 : (s.data.toList.take k).all letter = true) (h2 : letter s[k] = true) : (s.data.toList.take (k + 1)).all letter = true := by
  rw [bytes_snoc s h, List.all_append, h1]; simp [h2]
theorem letters_bad {s : ByteArray} {k : Nat} (h : k < s.size) (h2 : letter s[k] = false) : nameOk s = false := by
  have : s.data.toList.all letter = false := by
    rw [List.all_eq_false]
    refine ⟨s[k], ?_, by simp [h2]⟩
    have hm : s.data.toList[k]'(by simpa using h) ∈ s.data.toList := List.getElem_mem _
    exact hm
  simp [nameOk, this]
theorem letters_done {s : ByteArray} (h1 : (s.data.toList.take s.size).all letter = true) : nameOk s = inR (s.size : Int) 1 4 := by
  have e : s.data.toList.take s.size = s.data.toList := List.take_of_length_le (by rw [Array.length_toList]; exact Nat.le_refl _)
  rw [e] at h1
  simp [nameOk, h1]

set_option maxHeartbeats 1000000 in
theorem validName_c (s : ByteArray) (hs : s.size ≤ maxLen) (w : World) :
    Calls Tryd.prog 97 #[.string s] w fun e w' => e = .returned (.bool (nameOk s)) ∧ w = w' := by
  unfold maxLen at hs
  go_enter Tryd.func97, Tryd.ntmps97
  go_wp2_with fail
  go_loop [3] (fun i => ∃ k : Nat, k ≤ s.size ∧ i = .int .i64 k ∧ Hid ((s.data.toList.take k).all letter = true)) (fun i => s.size - (intOf i).toNat)
  case atStart => exact ⟨0, Nat.zero_le _, rfl, Lib.hid rfl⟩
  case round =>
    obtain ⟨k, hk, rfl, hno⟩ := hrel
    by_cases hlt : k < s.size
    · have hb0 : (s[k].toNat : Int) ≤ 255 := by have := s[k].toNat_lt; omega
      by_cases hl : letter s[k] = true
      · have F := Lib.hid (letters_snoc hlt hno.out hl)
        have hl2 : inR (s[k].toNat : Int) 97 122 = true := hl
        clear hl
        go_wp2_with (go_at_call 49; refine (inRange_c _ _ _ _).mono ?_; rintro e w' ⟨rfl, rfl⟩)
        go_round
        case rel => exact ⟨k + 1, by omega, by go_num, F⟩
        case measure => simp [intOf]; omega
      · rw [Bool.not_eq_true] at hl
        have F := Lib.hid (letters_bad hlt hl)
        have hl2 : inR (s[k].toNat : Int) 97 122 = false := hl
        clear hl
        go_wp2_with (go_at_call 49; refine (inRange_c _ _ _ _).mono ?_; rintro e w' ⟨rfl, rfl⟩)
        go_ret
        exact ⟨ret_bool F.out.symm, rfl⟩
    · obtain rfl : k = s.size := by omega
      have F := Lib.hid (letters_done hno.out)
      go_wp2_with (go_at_call 49; refine (inRange_c _ _ _ _).mono ?_; rintro e w' ⟨rfl, rfl⟩)
      go_ret
      exact ⟨ret_bool F.out.symm, rfl⟩
set_option maxHeartbeats 1000000 in
theorem isName_c (s : ByteArray) (hs : s.size ≤ maxLen) (w : World) :
    Calls Tryd.prog 84 #[.string s] w fun e w' => e = .returned (.bool (nameOk s)) ∧ w = w' := by
  unfold maxLen at hs
  by_cases hr : inR (s.size : Int) 1 4 = true
  · have HR := Lib.hid hr
    go_enter Tryd.func84, Tryd.ntmps84
    go_wp2_with (go_at_call 72; refine (within_c _ _ _ _).mono ?_; rintro e w' ⟨rfl, rfl⟩)
    clear hr
    go_loop [10] (fun i => ∃ k : Nat, k ≤ s.size ∧ i = .int .i64 k ∧ Hid ((s.data.toList.take k).all letter = true)) (fun i => s.size - (intOf i).toNat)
    case atStart => exact ⟨0, Nat.zero_le _, rfl, Lib.hid rfl⟩
    case round =>
      obtain ⟨k, hk, rfl, hno⟩ := hrel
      by_cases hlt : k < s.size
      · by_cases h1 : (s[k].toNat : Int) < 97
        · have F := Lib.hid (letters_bad hlt (show letter s[k] = false by simp [letter, inR]; omega))
          go_wp2_with fail
          go_ret
          exact ⟨ret_bool F.out.symm, rfl⟩
        · by_cases h2 : 122 < (s[k].toNat : Int)
          · have F := Lib.hid (letters_bad hlt (show letter s[k] = false by simp [letter, inR]; omega))
            go_wp2_with fail
            go_ret
            exact ⟨ret_bool F.out.symm, rfl⟩
          · have F := Lib.hid (letters_snoc hlt hno.out (show letter s[k] = true by simp [letter, inR]; omega))
            go_wp2_with fail
            go_round
            case rel => exact ⟨k + 1, by omega, by go_num, F⟩
            case measure => simp [intOf]; omega
      · obtain rfl : k = s.size := by omega
        have F := Lib.hid (show nameOk s = true by rw [letters_done hno.out]; exact HR.out)
        go_wp2_with fail
        go_ret
        exact ⟨ret_bool F.out.symm, rfl⟩
  · rw [Bool.not_eq_true] at hr
    have F := Lib.hid (show nameOk s = false by simp [nameOk, hr])
    go_enter Tryd.func84, Tryd.ntmps84
    go_wp2_with (go_at_call 72; refine (within_c _ _ _ _).mono ?_; rintro e w' ⟨rfl, rfl⟩)
    go_ret
    exact ⟨ret_bool F.out.symm, rfl⟩

/-- the first kid below k, with number k0 or above, is not there -/
theorem kid_to {t : List Nd} {a : Int} {name : ByteArray} {i : Nat} (hi : i < t.length) (h : isK a name t[i] = true) (h2 : ∀ k (hk : k < t.length), k < i → isK a name t[k] = false) : kidL t a name = (i : Int) :=
  kidL_some hi h fun k hk => h2 k (by omega) hk
theorem kid_more {t : List Nd} {a : Int} {name : ByteArray} {i : Nat} (hi : i < t.length) (h : isK a name t[i] = false) (h2 : ∀ k (hk : k < t.length), k < i → isK a name t[k] = false) : ∀ k (hk : k < t.length), k < i + 1 → isK a name t[k] = false := fun k hk hlt => by
  rcases Nat.lt_or_ge k i with h3 | h3
  · exact h2 k hk h3
  · obtain rfl : k = i := by omega
    exact h

set_option maxRecDepth 100000 in
set_option maxHeartbeats 1000000 in
theorem kid_c (A : Option Addr) (c : Nat) (t : List Nd) (a : Int) (name : ByteArray) (B : Nat) (w : World) (h : Rd ndE w B A t) (hl : t.length ≤ 1048577) (h0 : ∀ (hk : 0 < t.length), t[0].par ≠ a) :
    Calls Tryd.prog 98 #[.slice A t.length c, .int .i64 a, .string name] w fun e w' => e = .returned (.int .i64 (kidL t a name)) ∧ w = w' := by
  have H := Lib.hid (And.intro h h0)
  clear h h0
  go_enter Tryd.func98, Tryd.ntmps98
  go_wp2_with fail
  go_loop [7] (fun i => ∃ k : Nat, i = .int .i64 k ∧ k ≤ t.length + 1 ∧ Hid (∀ j (hj : j < t.length), j < k → isK a name t[j] = false)) (fun i => t.length + 1 - (intOf i).toNat)
  case atStart =>
    refine ⟨1, rfl, by omega, Lib.hid fun j hj hlt => ?_⟩
    obtain rfl : j = 0 := by omega
    have := H.out.2 hj
    simp [isK, this]
  case round =>
    obtain ⟨k, rfl, hk, hno⟩ := hrel
    by_cases hlt : k < t.length
    · obtain ⟨b, o, rfl, hb, c0, c1, c2⟩ := H.out.1.nd hlt
      by_cases h1 : (t[k].par == a) = true
      · by_cases h2 : (t[k].name.toList == name.toList) = true
        · have F := Lib.hid (kid_to hlt (show isK a name t[k] = true by simp only [isK, h1, h2]; rfl) hno.out)
          go_wp2_with fail
          go_ret
          exact ⟨ret_int F.out.symm, rfl⟩
        · rw [Bool.not_eq_true] at h2
          have F := Lib.hid (kid_more hlt (show isK a name t[k] = false by simp only [isK, h2, Bool.and_false]) hno.out)
          go_wp2_with fail
          go_round
          case rel => exact ⟨k + 1, by go_num, by omega, F⟩
          case measure => simp [intOf]; omega
      · rw [Bool.not_eq_true] at h1
        have F := Lib.hid (kid_more hlt (show isK a name t[k] = false by simp only [isK, h1, Bool.false_and]) hno.out)
        go_wp2_with fail
        go_round
        case rel => exact ⟨k + 1, by go_num, by omega, F⟩
        case measure => simp [intOf]; omega
    · have F := Lib.hid (kidL_none fun j hj => hno.out j hj (by omega))
      go_wp2_with fail
      go_ret
      exact ⟨ret_int F.out.symm, rfl⟩
set_option maxRecDepth 100000 in
set_option maxHeartbeats 1000000 in
theorem kidIn_c (A : Option Addr) (c : Nat) (t : List Nd) (a : Int) (name : ByteArray) (w : World) (h : Rd ndE w w.heap.size A t) (hl : t.length ≤ 1048577) :
    Calls Tryd.prog 85 #[.slice A t.length c, .int .i64 a, .string name] w fun e w' => e = .returned (.int .i64 (kidL t a name)) ∧ Below w.heap.size w w' := by
  have H := Lib.hid h
  clear h
  go_enter Tryd.func85, Tryd.ntmps85
  go_wp2_with fail
  go_loopw [11] (fun i wr => ∃ k : Nat, i = .int .i64 k ∧ k ≤ t.length ∧ Hid (∀ j (hj : j < t.length), j < k → isK a name t[j] = false) ∧ Below w.heap.size w wr) (fun i _ => t.length - (intOf i).toNat)
  case atStart => exact ⟨0, rfl, by omega, Lib.hid fun j hj hlt => by omega, Below.refl _ _⟩
  case round =>
    obtain ⟨k, rfl, hk, hno, hbel⟩ := hrel
    by_cases hlt : k < t.length
    · obtain ⟨b, o, rfl, hb, c0, c1, c2⟩ := (H.out.below hbel (Nat.le_refl _)).nd hlt
      have R := Lib.hid hbel
      clear hbel
      by_cases h1 : (t[k].par == a) = true
      · by_cases h2 : (t[k].name.toList == name.toList) = true
        · have F := Lib.hid (kid_to hlt (show isK a name t[k] = true by simp only [isK, h1, h2]; rfl) hno.out)
          go_wp2_with fail
          go_ret
          exact ⟨ret_int F.out.symm, R.out.alloc R.out.size _⟩
        · rw [Bool.not_eq_true] at h2
          have F := Lib.hid (kid_more hlt (show isK a name t[k] = false by simp only [isK, h2, Bool.and_false]) hno.out)
          go_wp2_with fail
          go_roundw
          case rel => exact ⟨k + 1, by go_num, by omega, F, R.out.alloc R.out.size _⟩
          case measure => simp [intOf]; omega
      · rw [Bool.not_eq_true] at h1
        have F := Lib.hid (kid_more hlt (show isK a name t[k] = false by simp only [isK, h1, Bool.false_and]) hno.out)
        go_wp2_with fail
        go_roundw
        case rel => exact ⟨k + 1, by go_num, by omega, F, R.out.alloc R.out.size _⟩
        case measure => simp [intOf]; omega
    · have F := Lib.hid (kidL_none fun j hj => hno.out j hj (by omega))
      have R := Lib.hid hbel
      clear hbel
      go_wp2_with fail
      go_ret
      exact ⟨ret_int F.out.symm, R.out⟩

set_option maxRecDepth 100000 in
set_option maxHeartbeats 1000000 in
theorem depth_c (A : Option Addr) (c : Nat) (t : List Nd) (i p : Nat) (B : Nat) (w : World) (h : Rd ndE w B A t) (hl : t.length ≤ 1048577) (hi : i < t.length) (ho : OkTo t i) (hp : t[i].par = (p : Int)) (hlt : p < i) :
    Calls Tryd.prog 99 #[.slice A t.length c, .int .i64 i] w fun e w' => e = .returned (.int .i64 (dep t i : Nat)) ∧ w = w' := by
  have H := Lib.hid (And.intro h (And.intro ho hp))
  clear h ho hp
  go_enter Tryd.func99, Tryd.ntmps99
  go_wp2_with fail
  go_loop [1, 5] (fun jv nv => ∃ j n : Nat, jv = .int .i64 j ∧ nv = .int .i64 n ∧ j ≤ i ∧ n + j ≤ i ∧ Hid (n + dep t j = dep t i)) (fun jv _ => (intOf jv).toNat)
  case atStart => exact ⟨i, 0, rfl, rfl, Nat.le_refl _, by omega, Lib.hid (by omega)⟩
  case round =>
    obtain ⟨j, n, rfl, rfl, hj, hnj, hd⟩ := hrel
    obtain ⟨b, o, rfl, hb, c0, c1, c2⟩ := H.out.1.nd (show j < t.length by omega)
    rcases Nat.eq_zero_or_pos j with e | e
    · have hr : t[j].par = -1 := by subst e; exact H.out.2.1.root (by omega) (by omega)
      have F := Lib.hid (show n = dep t i by have := hd.out; subst e; rw [dep_root (by omega) hr] at this; omega)
      rw [hr] at c0
      clear hr e
      go_wp2_with fail
      go_ret
      exact ⟨ret_int (by rw [F.out]), rfl⟩
    · obtain ⟨q, hq, hqj⟩ : ∃ q : Nat, t[j].par = (q : Int) ∧ q < j := by
        rcases Nat.eq_or_lt_of_le hj with e2 | e2
        · subst e2; exact ⟨p, H.out.2.2, hlt⟩
        · have := H.out.2.1.par (show j < t.length by omega) e2 e
          exact ⟨t[j].par.toNat, by omega, by omega⟩
      have F := Lib.hid (show (n + 1) + dep t q = dep t i by
        have := hd.out
        rw [dep_par (H.out.2.1.le hj) (by omega) hq hqj] at this; omega)
      rw [hq] at c0
      clear hq
      go_wp2_with fail
      go_round
      case rel => exact ⟨q, n + 1, rfl, by go_num, by omega, by omega, F⟩
      case measure => simp [intOf]; omega
end Go.Proofs.YtfgcjdhcnalmmaaDoor
