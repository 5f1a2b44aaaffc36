/-
  A number looked for in a list by the library.
-/
import Derived.Test.YtfgcjdhcnalmmaaDoorIsin
namespace Go.Proofs.YtfgcjdhcnalmmaaDoor
open Go.RowKit

def idxI (l : List Int) (x : Int) : Int := match l.findIdx? (· == x) with
  | some i => (i : Int)
  | none => -1
theorem idxI_has (l : List Int) (x : Int) : decide (0 ≤ idxI l x) = hasI l x := by
  unfold idxI hasI
  cases h : l.findIdx? (· == x) with
  | none =>
    rw [List.findIdx?_eq_none_iff] at h
    simp only [show ¬ (0 : Int) ≤ -1 by omega, decide_false]
    rw [eq_comm, List.any_eq_false]
    intro y hy; simpa using h y hy
  | some i =>
    rw [List.findIdx?_eq_some_iff_getElem] at h
    obtain ⟨hi, h1, _⟩ := h
    simp only [show (0 : Int) ≤ (i : Int) by omega, decide_true]
    rw [eq_comm, List.any_eq_true]
    exact ⟨l[i], List.getElem_mem hi, h1⟩
theorem idxI_at {l : List Int} {x : Int} {k : Nat} (hk : k < l.length) (h : (l[k] == x) = true) (h2 : (l.take k).any (· == x) = false) : idxI l x = (k : Int) := by
  have : l.findIdx? (· == x) = some k := by
    rw [List.findIdx?_eq_some_iff_getElem]
    refine ⟨hk, h, fun j hj => ?_⟩
    rw [List.any_eq_false] at h2
    have := h2 l[j] (by rw [List.mem_iff_getElem]; exact ⟨j, by simp; omega, by simp⟩)
    simpa using this
  simp [idxI, this]
theorem idxI_no {l : List Int} {x : Int} (h2 : l.any (· == x) = false) : idxI l x = -1 := by
  have : l.findIdx? (· == x) = none := by
    rw [List.findIdx?_eq_none_iff]
    rw [List.any_eq_false] at h2
    intro y hy; simpa using h2 y hy
  simp [idxI, this]

set_option maxHeartbeats 1000000 in
theorem index_c (A : Option Addr) (c : Nat) (l : List Int) (x : Int) (B : Nat) (w : World) (h : Rd inE w B A l) (hl : l.length ≤ 1048576) :
    Calls Tryd.prog 100 #[.slice A l.length c, .int .i64 x] w fun e w' => e = .returned (.int .i64 (idxI l x)) ∧ w = w' := by
  have H := Lib.hid h
  clear h
  go_enter Tryd.func100, Tryd.ntmps100
  go_wp2_with fail
  go_loop [8] (fun i => ∃ k : Nat, k ≤ l.length ∧ i = .int .i64 k ∧ Hid ((l.take k).any (· == x) = false)) (fun i => l.length - (intOf i).toNat)
  case atStart => exact ⟨0, by omega, rfl, Lib.hid rfl⟩
  case round =>
    obtain ⟨k, hk, rfl, hno⟩ := hrel
    by_cases hlt : k < l.length
    · obtain ⟨b, o, rfl, hb, c0⟩ := H.out.int hlt
      by_cases hx : (x == l[k]) = true
      · have hfin := Lib.hid (idxI_at hlt (by rw [BEq.comm]; exact hx) hno.out)
        go_wp2_with fail
        go_ret
        exact ⟨ret_int hfin.out.symm, rfl⟩
      · rw [Bool.not_eq_true] at hx
        go_wp2_with fail
        go_round
        case rel => exact ⟨k + 1, by omega, by go_num, Lib.hid (by rw [List.take_succ_eq_append_getElem hlt, List.any_append, hno.out]; rw [BEq.comm] at hx; simpa using hx)⟩
        case measure => simp [intOf]; omega
    · have hfin := Lib.hid (idxI_no (l := l) (x := x) (by have := hno.out; rwa [List.take_of_length_le (by omega)] at this))
      go_wp2_with fail
      go_ret
      exact ⟨ret_int hfin.out.symm, rfl⟩
set_option maxHeartbeats 1000000 in
theorem contains_c (A : Option Addr) (c : Nat) (l : List Int) (x : Int) (B : Nat) (w : World) (h : Rd inE w B A l) (hl : l.length ≤ 1048576) :
    Calls Tryd.prog 90 #[.slice A l.length c, .int .i64 x] w fun e w' => e = .returned (.bool (hasI l x)) ∧ w = w' := by
  have C := Lib.hid (index_c A c l x B w h hl)
  have F := Lib.hid (idxI_has l x)
  clear h
  go_enter Tryd.func90, Tryd.ntmps90
  go_wp2_with fail
  refine C.out.mono ?_
  rintro e w' ⟨rfl, rfl⟩
  go_wp2_with fail
  go_ret
  exact ⟨ret_bool F.out, rfl⟩
end Go.Proofs.YtfgcjdhcnalmmaaDoor
