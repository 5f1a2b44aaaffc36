/-
  Steps: their lists in memory, and the laws' own helpers over them.
-/
import Derived.Test.YtfgcjdhcnalmmaaDoorProg
import Derived.Test.YtfgcjdhcnalmmaaDoorMem
import Derived.StillTailTactics
namespace Go.Proofs.YtfgcjdhcnalmmaaDoor
open Go.RowKit

structure Stp where
  who : Int
  free : Bool
  node : Int
  mode : Int

def stpE : Enc Stp := { cells := fun x => [.int .i64 x.who, .bool x.free, .int .i64 x.node, .int .i64 x.mode], sz := 4, pos := by omega, len := fun _ => rfl, one := fun x u hu => by simp at hu; rcases hu with rfl | rfl | rfl | rfl <;> rfl }

theorem Rd.stp {w : World} {B : Nat} {A : Option Addr} {l : List Stp} (h : Rd stpE w B A l) {k : Nat} (hk : k < l.length) :
    ∃ b o, A = some ⟨b, o, none⟩ ∧ b < B ∧ w.cell? ⟨b, o + k * 4, none⟩ = some (.int .i64 l[k].who) ∧ w.cell? ⟨b, o + k * 4 + 1, none⟩ = some (.bool l[k].free) ∧ w.cell? ⟨b, o + k * 4 + 2, none⟩ = some (.int .i64 l[k].node) ∧ w.cell? ⟨b, o + k * 4 + 3, none⟩ = some (.int .i64 l[k].mode) := by
  rcases h with rfl | ⟨b, o, rfl, hb, hc⟩
  · simp at hk
  · have h1 := hc k l[k] (List.getElem?_eq_getElem hk)
    exact ⟨b, o, rfl, hb, h1 0 _ rfl, h1 1 _ rfl, h1 2 _ rfl, h1 3 _ rfl⟩

set_option maxRecDepth 100000 in
set_option maxHeartbeats 400000 in
theorem toStep_c (x : Stp) (w : World) :
    Calls Tryd.prog 64 #[.agg #[.int .i64 x.who, .bool x.free, .int .i64 x.node, .int .i64 x.mode]] w fun e w' => e = .returned (.agg #[.int .i64 x.who, .bool x.free, .int .i64 x.node, .int .i64 x.mode]) ∧ Below w.heap.size w w' := by
  go_enter Tryd.func64, Tryd.ntmps64
  go_wp2
  exact bodyPost_ret (v := .agg #[.int .i64 x.who, .bool x.free, .int .i64 x.node, .int .i64 x.mode]) (by simp [results, Tryd.results64, go_sem]) rfl ⟨rfl, (((Below.refl _ _).alloc (Nat.le_refl _) _).alloc (by simp) _).alloc (by simp; omega) _⟩
set_option maxRecDepth 100000 in
set_option maxHeartbeats 400000 in
theorem eqStep_c (x : Stp) (w : World) :
    Calls Tryd.prog 68 #[.agg #[.int .i64 x.who, .bool x.free, .int .i64 x.node, .int .i64 x.mode], .agg #[.int .i64 x.who, .bool x.free, .int .i64 x.node, .int .i64 x.mode]] w fun e w' => e = .returned (.bool true) ∧ Below w.heap.size w w' := by
  go_enter Tryd.func68, Tryd.ntmps68
  go_wp2
  go_ret
  exact ⟨rfl, ((Below.refl _ _).alloc (Nat.le_refl _) _).alloc (by simp) _⟩

theorem slStp : SlT Tryd.prog stpE 43 78 (.agg #[.int .i64 0, .bool false, .int .i64 0, .int .i64 0]) 32 := ⟨Tryd.underlying43, by kernel_rfl, rfl, by omega⟩

set_option maxRecDepth 100000 in
set_option maxHeartbeats 1000000 in
theorem toStepS_c (A : Option Addr) (c : Nat) (l : List Stp) (w : World) (h : Rd stpE w w.heap.size A l) (hl : l.length ≤ 1048576) :
    Calls Tryd.prog 28 #[.slice A l.length c] w fun e w' => ∃ v, e = .returned v ∧ Own stpE 78 w' w.heap.size v l ∧ Below w.heap.size w w' := by
  obtain ⟨i, hi, hz, hs, hby⟩ := info_parts slStp.info
  have hmk := fun W => run_make_rowN (P := Tryd.prog) 43 78 i _ slStp.und hi hz .i64 .i64 l.length l.length (Nat.le_refl _) (by rw [hby]; omega) (by omega) W
  have H := Lib.hid h
  have hnew : Blk (w.alloc (.cells (madeCells (Value.agg #[.int .i64 0, .bool false, .int .i64 0, .int .i64 0]).cells (l.length * i.size)) 78)) w.heap.size 78 (madeCells (Value.agg #[.int .i64 0, .bool false, .int .i64 0, .int .i64 0]).cells (l.length * i.size)) := Blk.new _ _ _
  have Hnew := Lib.hid hnew
  have Hs := Lib.hid hs
  clear hnew hs h hi hz hby
  go_enter Tryd.func28, Tryd.ntmps28
  go_wp2_with fail
  go_loopw [4] (fun i wr => ∃ (k : Nat) (cs : Array Value), k ≤ l.length ∧ i = .int .i64 k ∧ Blk wr w.heap.size 78 cs ∧ cs.size = l.length * stpE.sz ∧ cs.toList.take (k * stpE.sz) = stpE.flat (l.take k) ∧ Below w.heap.size w wr)
    (fun i _ => l.length - (intOf i).toNat)
  case atStart => exact ⟨0, _, by omega, rfl, Hnew.out, by rw [size_madeCells, Hs.out], by simp [Enc.flat], (Below.refl _ _).alloc (Nat.le_refl _) _⟩
  case round =>
    obtain ⟨k, cs, hk, rfl, hblk, hsz, htake, hbel⟩ := hrel
    by_cases hlt : k < l.length
    · obtain ⟨b, o, rfl, hb, c0, c1, c2, c3⟩ := (H.out.below hbel (Nat.le_refl _)).stp hlt
      have R := Lib.hid (And.intro hblk (And.intro hsz (And.intro htake hbel)))
      clear hblk hsz htake hbel hmk
      go_wp2_with fail
      refine (toStep_c l[k] _).mono ?_
      rintro e w1 ⟨rfl, hb1⟩
      have hblk1 : Blk w1 w.heap.size 78 cs := R.out.1.grow hb1
      have hsz : cs.size = l.length * 4 := R.out.2.1
      obtain ⟨u0, d0⟩ := hblk1.cell (k * 4) (by omega)
      obtain ⟨u1, d1⟩ := hblk1.cell (k * 4 + 1) (by omega)
      obtain ⟨u2, d2⟩ := hblk1.cell (k * 4 + 2) (by omega)
      obtain ⟨u3, d3⟩ := hblk1.cell (k * 4 + 3) (by omega)
      have f0 := hblk1.free (k * 4)
      have f1 := hblk1.free (k * 4 + 1)
      have f2 := hblk1.free (k * 4 + 2)
      have f3 := hblk1.free (k * 4 + 3)
      have R2 := Lib.hid (And.intro hblk1 (And.intro hsz hb1))
      clear hblk1 hsz hb1
      go_wp2_with fail
      go_roundw
      case rel =>
        have F := fill_step cs l k l.length hlt rfl R.out.2.1 R.out.2.2.1
        exact ⟨k + 1, _, by omega, by go_num, ((((R2.out.1.set (k * 4) _).set (k * 4 + 1) _).set (k * 4 + 2) _).set (k * 4 + 3) _), F.1, F.2, (((((R.out.2.2.2.trans (R2.out.2.2.mono R.out.2.2.2.size)).setCell (Nat.le_refl _) _).setCell (Nat.le_refl _) _).setCell (Nat.le_refl _) _).setCell (Nat.le_refl _) _)⟩
      case measure => simp [intOf]; omega
    · have e : k = l.length := by omega
      subst e
      have R := Lib.hid (And.intro hblk (And.intro hsz (And.intro htake hbel)))
      clear hblk hsz htake hbel hmk
      go_wp2_with fail
      go_ret
      exact ⟨_, rfl, own_full R.out.1 _ (Nat.le_refl _) l l.length rfl (by unfold maxLen; omega) R.out.2.1 (by rw [R.out.2.2.1, List.take_length]), R.out.2.2.2⟩
set_option maxRecDepth 100000 in
set_option maxHeartbeats 1000000 in
theorem eqStepS_c (A A' : Option Addr) (c c' : Nat) (l : List Stp) (w : World) (h : Rd stpE w w.heap.size A l) (h' : Rd stpE w w.heap.size A' l) (hl : l.length ≤ 1048576) :
    Calls Tryd.prog 30 #[.slice A l.length c, .slice A' l.length c'] w fun e w' => e = .returned (.bool true) ∧ Below w.heap.size w w' := by
  have H := Lib.hid (And.intro h h')
  clear h h'
  go_enter Tryd.func30, Tryd.ntmps30
  go_wp2_with fail
  go_loopw [5] (fun i wr => ∃ k : Nat, k ≤ l.length ∧ i = .int .i64 k ∧ Below w.heap.size w wr) (fun i _ => l.length - (intOf i).toNat)
  case atStart => exact ⟨0, by omega, rfl, Below.refl _ _⟩
  case round =>
    obtain ⟨k, hk, rfl, hbel⟩ := hrel
    by_cases hlt : k < l.length
    · obtain ⟨b, o, rfl, hb, c0, c1, c2, c3⟩ := (H.out.1.below hbel (Nat.le_refl _)).stp hlt
      obtain ⟨b', o', rfl, hb', c0', c1', c2', c3'⟩ := (H.out.2.below hbel (Nat.le_refl _)).stp hlt
      have R := Lib.hid hbel
      clear hbel
      go_wp2_with fail
      go_still_tail 8, (by kernel_rfl)
      go_wp2_with fail
      refine (eqStep_c l[k] _).mono ?_
      rintro e w1 ⟨rfl, hb1⟩
      have R1 := Lib.hid hb1
      clear hb1
      go_wp2_with fail
      go_roundw
      case rel => exact ⟨k + 1, by omega, by go_num, R.out.drew.trans (R1.out.mono R.out.size)⟩
      case measure => simp [intOf]; omega
    · have R := Lib.hid hbel
      clear hbel
      go_wp2_with fail
      go_ret
      exact ⟨rfl, R.out⟩
set_option maxRecDepth 100000 in
set_option maxHeartbeats 400000 in
theorem szStepS_c (A : Option Addr) (c n : Nat) (left : Int) (hl : 0 ≤ left) (hl2 : left ≤ 1048576) (hn : n ≤ maxLen) (w : World) :
    Calls Tryd.prog 26 #[.slice A n c, .int .i64 left] w fun e w' => e = .returned (.int .i64 (if left < n then -1 else left - n)) ∧ w = w' := by
  unfold maxLen at hn
  by_cases hlt : left < n
  · have h1 : left - (n : Int) < 0 := by omega
    have Hf := Lib.hid (show (if left < (n : Int) then (-1 : Int) else left - n) = -1 from if_pos hlt)
    clear hlt
    go_enter Tryd.func26, Tryd.ntmps26
    go_wp2
    go_ret
    first | exact ⟨rfl, rfl⟩ | exact ⟨ret_int Hf.out.symm, rfl⟩
  · have h1 : ¬ left - (n : Int) < 0 := by omega
    have Hf := Lib.hid (show (if left < (n : Int) then (-1 : Int) else left - n) = left - n from if_neg hlt)
    go_enter Tryd.func26, Tryd.ntmps26
    go_wp2
    go_ret
    first | exact ⟨rfl, rfl⟩ | exact ⟨ret_int Hf.out.symm, rfl⟩
def stpMk (K : Int) : Stp := ⟨K, (K + 1) % 3 == 0, K + 1 + 1, K + 1 + 1 + 1⟩
def stpMarks (K : Int) (n : Nat) : List Stp := (List.range n).map fun (i : Nat) => stpMk (K + 4 * (i : Int))
theorem stpMarks_len (K : Int) (n : Nat) : (stpMarks K n).length = n := by simp [stpMarks]
theorem stpMarks_at (K : Int) (n k : Nat) (h : k < (stpMarks K n).length) : (stpMarks K n)[k] = stpMk (K + 4 * (k : Int)) := by simp [stpMarks]

set_option maxRecDepth 100000 in
set_option maxHeartbeats 1000000 in
theorem markStepS_c (v : Value) (l : List Stp) (base : Nat) (K : Int) (hK : 0 ≤ K) (hK2 : K ≤ 100000000) (w : World) (h : Own stpE 78 w base v l) (hl : l.length ≤ 10000000) :
    Calls Tryd.prog 37 #[v, .int .i64 K] w fun e w' => e = .returned (.int .i64 (K + 4 * (l.length : Int))) ∧ Own stpE 78 w' base v (stpMarks K l.length) ∧ w.grownBy w' v.ownBlock ∧ w'.heap.size = w.heap.size := by
  rcases h.block with ⟨rfl, rfl⟩ | ⟨g, c, cs, rfl, hbg, hblk, hc, hcm, hcs, htake⟩
  · clear h
    go_enter Tryd.func37, Tryd.ntmps37
    go_wp2_with fail
    go_loop [1, 5] (fun k i => k = .int .i64 K ∧ i = .int .i64 0) (fun _ _ => 0)
    case atStart => exact ⟨rfl, rfl⟩
    case round =>
      obtain ⟨rfl, rfl⟩ := hrel
      go_wp2_with fail
      go_ret
      exact ⟨by simp, Own.nil, World.grownBy.refl w _, rfl⟩
  · have R0 := Lib.hid (And.intro hblk (And.intro hcs hbg))
    clear h htake hblk hcs
    go_enter Tryd.func37, Tryd.ntmps37
    go_wp2_with fail
    go_loopw [1, 5] (fun kv i wr => ∃ (k : Nat) (cs' : Array Value), k ≤ l.length ∧ i = .int .i64 k ∧ kv = .int .i64 (K + 4 * (k : Int)) ∧ Blk wr g 78 cs' ∧ cs'.size = c * stpE.sz ∧ cs'.toList.take (k * stpE.sz) = stpE.flat ((stpMarks K l.length).take k) ∧ w.grownBy wr (some g) ∧ wr.heap.size = w.heap.size)
      (fun _ i _ => l.length - (intOf i).toNat)
    case atStart => exact ⟨0, cs, by omega, rfl, by simp, R0.out.1, R0.out.2.1, by simp [Enc.flat], World.grownBy.refl w _, rfl⟩
    case round =>
      obtain ⟨k, cs', hk, rfl, rfl, hblk, hsz, htake, hgr, hhs⟩ := hrel
      by_cases hlt : k < l.length
      · have hsz3 : cs'.size = c * 4 := hsz
        obtain ⟨u0, d0⟩ := hblk.cell (k * 4) (by omega)
        obtain ⟨u1, d1⟩ := hblk.cell (k * 4 + 1) (by omega)
        obtain ⟨u2, d2⟩ := hblk.cell (k * 4 + 2) (by omega)
        obtain ⟨u3, d3⟩ := hblk.cell (k * 4 + 3) (by omega)
        have f0 := hblk.free (k * 4)
        have f1 := hblk.free (k * 4 + 1)
        have f2 := hblk.free (k * 4 + 2)
        have f3 := hblk.free (k * 4 + 3)
        have R := Lib.hid (And.intro hblk (And.intro hsz (And.intro htake (And.intro hgr hhs))))
        clear hblk hsz htake hgr hhs hsz3
        go_wp2_with fail
        go_roundw
        case rel =>
          have F := mark_step cs' (stpMarks K l.length) k c (by rw [stpMarks_len]; exact hlt) (by omega) R.out.2.1 R.out.2.2.1
          rw [stpMarks_at] at F
          exact ⟨k + 1, _, by omega, by go_num, by go_num, ((((R.out.1.set (k * 4) _).set (k * 4 + 1) _).set (k * 4 + 2) _).set (k * 4 + 3) _), F.1, F.2, (only_set (only_set (only_set (only_set R.out.2.2.2.1)))), by simp [World.setCell]; exact R.out.2.2.2.2⟩
        case measure => simp [intOf]; omega
      · have e : k = l.length := by omega
        subst e
        have R := Lib.hid (And.intro hblk (And.intro hsz (And.intro htake (And.intro hgr hhs))))
        clear hblk hsz htake hgr hhs
        go_wp2_with fail
        go_ret
        refine ⟨rfl, own_blk R.out.1 _ R0.out.2.2 _ (stpMarks_len K l.length).symm hc hcm R.out.2.1 (by rw [R.out.2.2.1, List.take_of_length_le (by rw [stpMarks_len]; exact Nat.le_refl _)]), R.out.2.2.2.1, R.out.2.2.2.2⟩
end Go.Proofs.YtfgcjdhcnalmmaaDoor
