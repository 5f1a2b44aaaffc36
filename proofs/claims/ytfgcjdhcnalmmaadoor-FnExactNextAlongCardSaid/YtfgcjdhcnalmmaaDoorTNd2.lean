/-
  Nodes: what the laws count of them.
-/
import Derived.Test.YtfgcjdhcnalmmaaDoorTNd
namespace Go.Proofs.YtfgcjdhcnalmmaaDoor
open Go.RowKit

def szNd (l : List Nd) : Nat := l.length + (l.map fun x => x.name.size).sum
theorem szNd_le (l : List Nd) : l.length ≤ szNd l := Nat.le_add_right _ _
def szTo (l : List Nd) (k : Nat) : Nat := l.length + ((l.take k).map fun x => x.name.size).sum
theorem szTo_next (l : List Nd) {k : Nat} (hk : k < l.length) : szTo l (k + 1) = szTo l k + l[k].name.size := by
  unfold szTo; rw [List.take_succ_eq_append_getElem hk, List.map_append, List.sum_append]; simp; omega
theorem szTo_le (l : List Nd) (k : Nat) : szTo l k ≤ szNd l := by
  unfold szTo szNd
  have h : (l.map (fun x => x.name.size)).sum = ((l.take k).map (fun x => x.name.size)).sum + ((l.drop k).map (fun x => x.name.size)).sum := by
    rw [← List.sum_append, ← List.map_append, List.take_append_drop]
  omega
theorem szTo_all (l : List Nd) {k : Nat} (hk : l.length ≤ k) : szTo l k = szNd l := by unfold szTo szNd; rw [List.take_of_length_le hk]

set_option maxHeartbeats 400000 in
theorem szNode_c (x : Nd) (left : Int) (hl : 0 ≤ left) (hl2 : left ≤ 1048576) (w : World) :
    Calls Tryd.prog 47 #[.agg #[.int .i64 x.par, .string x.name, .int .i64 x.val], .int .i64 left] w fun e w' => e = .returned (.int .i64 (if left < x.name.size then -1 else left - x.name.size)) ∧ Below w.heap.size w w' := by
  have hn := x.small
  unfold maxLen at hn
  by_cases hlt : left < x.name.size
  · have h1 : left - (x.name.size : Int) < 0 := by omega
    have Hf := Lib.hid (show (if left < (x.name.size : Int) then (-1 : Int) else left - x.name.size) = -1 from if_pos hlt)
    clear hlt
    go_enter Tryd.func47, Tryd.ntmps47
    go_wp2
    go_ret
    first | exact ⟨rfl, (Below.refl _ _).alloc (Nat.le_refl _) _⟩ | exact ⟨ret_int Hf.out.symm, (Below.refl _ _).alloc (Nat.le_refl _) _⟩
  · have h1 : ¬ left - (x.name.size : Int) < 0 := by omega
    have Hf := Lib.hid (show (if left < (x.name.size : Int) then (-1 : Int) else left - x.name.size) = left - x.name.size from if_neg hlt)
    go_enter Tryd.func47, Tryd.ntmps47
    go_wp2
    go_ret
    first | exact ⟨rfl, (Below.refl _ _).alloc (Nat.le_refl _) _⟩ | exact ⟨ret_int Hf.out.symm, (Below.refl _ _).alloc (Nat.le_refl _) _⟩
set_option maxRecDepth 100000 in
set_option maxHeartbeats 1000000 in
theorem szNodeS_c (A : Option Addr) (c : Nat) (l : List Nd) (left : Int) (hl : 0 ≤ left) (hl2 : left ≤ 1048576) (hn : l.length ≤ maxLen) (w : World) (h : Rd ndE w w.heap.size A l) :
    Calls Tryd.prog 17 #[.slice A l.length c, .int .i64 left] w fun e w' => e = .returned (.int .i64 (if left < (szNd l : Int) then -1 else left - szNd l)) ∧ Below w.heap.size w w' := by
  unfold maxLen at hn
  have H := Lib.hid h
  clear h
  obtain ⟨rv, hrv⟩ : ∃ rv : Int, (if left < (szNd l : Int) then (-1 : Int) else left - szNd l) = rv := ⟨_, rfl⟩
  rw [hrv]
  have HR := Lib.hid hrv
  clear hrv
  by_cases hlt0 : left < l.length
  · have h1 : left - (l.length : Int) < 0 := by omega
    have Hf := Lib.hid (show rv = -1 by rw [← HR.out, if_pos (by have := szNd_le l; omega)])
    clear hlt0
    go_enter Tryd.func17, Tryd.ntmps17
    go_wp2_with fail
    go_ret
    exact ⟨ret_int Hf.out.symm, Below.refl _ _⟩
  · have h1 : ¬ left - (l.length : Int) < 0 := by omega
    go_enter Tryd.func17, Tryd.ntmps17
    go_wp2_with fail
    go_loopw [1, 5] (fun lv i wr => ∃ (k : Nat) (m : Int), k ≤ l.length ∧ i = .int .i64 k ∧ lv = .int .i64 m ∧ 0 ≤ m ∧ m ≤ 1048576 ∧ Hid (m = left - szTo l k) ∧ Below w.heap.size w wr) (fun _ i _ => l.length - (intOf i).toNat)
    case atStart => exact ⟨0, left - l.length, by omega, rfl, rfl, by omega, by omega, Lib.hid (by simp [szTo]), Below.refl _ _⟩
    case round =>
      obtain ⟨k, m, hk, rfl, rfl, hm0, hm1, hm, hbel⟩ := hrel
      by_cases hlt : k < l.length
      · obtain ⟨b, o, rfl, hb, c0, c1, c2⟩ := (H.out.below hbel (Nat.le_refl _)).nd hlt
        have R := Lib.hid hbel
        clear hbel
        by_cases hs : m < l[k].name.size
        · have Hf := Lib.hid (show rv = -1 by
            rw [← HR.out, if_pos (by have e1 := hm.out; have e2 := szTo_next l hlt; have e3 := szTo_le l (k + 1); omega)])
          have HS := Lib.hid hs
          clear hs
          go_wp2_with fail
          refine (szNode_c l[k] m hm0 hm1 _).mono ?_
          rintro e w1 ⟨rfl, hb1⟩
          have R1 := Lib.hid hb1
          clear hb1
          rw [if_pos HS.out]
          go_wp2_with fail
          go_ret
          exact ⟨ret_int Hf.out.symm, R.out.trans (R1.out.mono R.out.size)⟩
        · have h3 : 0 ≤ m - (l[k].name.size : Int) := by omega
          have HS := Lib.hid hs
          clear hs
          go_wp2_with fail
          refine (szNode_c l[k] m hm0 hm1 _).mono ?_
          rintro e w1 ⟨rfl, hb1⟩
          have R1 := Lib.hid hb1
          clear hb1
          rw [if_neg (by have := HS.out; omega)]
          go_wp2_with fail
          go_roundw
          case rel => exact ⟨k + 1, m - l[k].name.size, by omega, by go_num, rfl, by omega, by omega, Lib.hid (by have e1 := hm.out; have e2 := szTo_next l hlt; omega), R.out.trans (R1.out.mono R.out.size)⟩
          case measure => simp [intOf]; omega
      · have hfin : rv = m := by
          have e1 := hm.out
          rw [szTo_all l (by omega)] at e1
          rw [← HR.out, if_neg (by omega)]; omega
        have Hf := Lib.hid hfin
        have R := Lib.hid hbel
        clear hbel hfin
        go_wp2_with fail
        go_ret
        exact ⟨ret_int Hf.out.symm, R.out⟩
end Go.Proofs.YtfgcjdhcnalmmaaDoor
