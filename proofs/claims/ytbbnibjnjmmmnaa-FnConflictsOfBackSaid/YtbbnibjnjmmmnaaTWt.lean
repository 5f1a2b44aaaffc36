/-
  Waits: their lists in memory, and the laws' own helpers over them.
-/
import Derived.Test.YtbbnibjnjmmmnaaProg
import Derived.Test.YtbbnibjnjmmmnaaMem
import Derived.StillTailTactics
namespace Go.Proofs.Ytbbnibjnjmmmnaa
open Go.RowKit

structure Wt where
  who : Int
  wfor : Int

def wtE : Enc Wt := { cells := fun x => [.int .i64 x.who, .int .i64 x.wfor], sz := 2, pos := by omega, len := fun _ => rfl, one := fun x u hu => by simp at hu; rcases hu with rfl | rfl <;> rfl }

theorem Rd.wt {w : World} {B : Nat} {A : Option Addr} {l : List Wt} (h : Rd wtE w B A l) {k : Nat} (hk : k < l.length) :
    ∃ b o, A = some ⟨b, o, none⟩ ∧ b < B ∧ w.cell? ⟨b, o + k * 2, none⟩ = some (.int .i64 l[k].who) ∧ w.cell? ⟨b, o + k * 2 + 1, none⟩ = some (.int .i64 l[k].wfor) := by
  rcases h with rfl | ⟨b, o, rfl, hb, hc⟩
  · simp at hk
  · have h1 := hc k l[k] (List.getElem?_eq_getElem hk)
    exact ⟨b, o, rfl, hb, h1 0 _ rfl, h1 1 _ rfl⟩

set_option maxRecDepth 100000 in
set_option maxHeartbeats 400000 in
theorem toWait_c (x : Wt) (w : World) :
    Calls Try.prog 63 #[.agg #[.int .i64 x.who, .int .i64 x.wfor]] w fun e w' => e = .returned (.agg #[.int .i64 x.who, .int .i64 x.wfor]) ∧ Below w.heap.size w w' := by
  go_enter Try.func63, Try.ntmps63
  go_wp2
  exact bodyPost_ret (v := .agg #[.int .i64 x.who, .int .i64 x.wfor]) (by simp [results, Try.results63, go_sem]) rfl ⟨rfl, (((Below.refl _ _).alloc (Nat.le_refl _) _).alloc (by simp) _).alloc (by simp; omega) _⟩
set_option maxRecDepth 100000 in
set_option maxHeartbeats 400000 in
theorem eqWait_c (x : Wt) (w : World) :
    Calls Try.prog 64 #[.agg #[.int .i64 x.who, .int .i64 x.wfor], .agg #[.int .i64 x.who, .int .i64 x.wfor]] w fun e w' => e = .returned (.bool true) ∧ Below w.heap.size w w' := by
  go_enter Try.func64, Try.ntmps64
  go_wp2
  go_ret
  exact ⟨rfl, ((Below.refl _ _).alloc (Nat.le_refl _) _).alloc (by simp) _⟩

theorem slWt : SlT Try.prog wtE 35 39 (.agg #[.int .i64 0, .int .i64 0]) 16 := ⟨Try.underlying35, by kernel_rfl, rfl, by omega⟩

set_option maxRecDepth 100000 in
set_option maxHeartbeats 1000000 in
theorem toWaitS_c (A : Option Addr) (c : Nat) (l : List Wt) (w : World) (h : Rd wtE w w.heap.size A l) (hl : l.length ≤ 1048576) :
    Calls Try.prog 30 #[.slice A l.length c] w fun e w' => ∃ v, e = .returned v ∧ Own wtE 39 w' w.heap.size v l ∧ Below w.heap.size w w' := by
  obtain ⟨i, hi, hz, hs, hby⟩ := info_parts slWt.info
  have hmk := fun W => run_make_rowN (P := Try.prog) 35 39 i _ slWt.und hi hz .i64 .i64 l.length l.length (Nat.le_refl _) (by rw [hby]; omega) (by omega) W
  have H := Lib.hid h
  have hnew : Blk (w.alloc (.cells (madeCells (Value.agg #[.int .i64 0, .int .i64 0]).cells (l.length * i.size)) 39)) w.heap.size 39 (madeCells (Value.agg #[.int .i64 0, .int .i64 0]).cells (l.length * i.size)) := Blk.new _ _ _
  have Hnew := Lib.hid hnew
  have Hs := Lib.hid hs
  clear hnew hs h hi hz hby
  go_enter Try.func30, Try.ntmps30
  go_wp2_with fail
  go_loopw [4] (fun i wr => ∃ (k : Nat) (cs : Array Value), k ≤ l.length ∧ i = .int .i64 k ∧ Blk wr w.heap.size 39 cs ∧ cs.size = l.length * wtE.sz ∧ cs.toList.take (k * wtE.sz) = wtE.flat (l.take k) ∧ Below w.heap.size w wr)
    (fun i _ => l.length - (intOf i).toNat)
  case atStart => exact ⟨0, _, by omega, rfl, Hnew.out, by rw [size_madeCells, Hs.out], by simp [Enc.flat], (Below.refl _ _).alloc (Nat.le_refl _) _⟩
  case round =>
    obtain ⟨k, cs, hk, rfl, hblk, hsz, htake, hbel⟩ := hrel
    by_cases hlt : k < l.length
    · obtain ⟨b, o, rfl, hb, c0, c1⟩ := (H.out.below hbel (Nat.le_refl _)).wt hlt
      have R := Lib.hid (And.intro hblk (And.intro hsz (And.intro htake hbel)))
      clear hblk hsz htake hbel hmk
      go_wp2_with fail
      refine (toWait_c l[k] _).mono ?_
      rintro e w1 ⟨rfl, hb1⟩
      have hblk1 : Blk w1 w.heap.size 39 cs := R.out.1.grow hb1
      have hsz : cs.size = l.length * 2 := R.out.2.1
      obtain ⟨u0, d0⟩ := hblk1.cell (k * 2) (by omega)
      obtain ⟨u1, d1⟩ := hblk1.cell (k * 2 + 1) (by omega)
      have f0 := hblk1.free (k * 2)
      have f1 := hblk1.free (k * 2 + 1)
      have R2 := Lib.hid (And.intro hblk1 (And.intro hsz hb1))
      clear hblk1 hsz hb1
      go_wp2_with fail
      go_roundw
      case rel =>
        have F := fill_step cs l k l.length hlt rfl R.out.2.1 R.out.2.2.1
        exact ⟨k + 1, _, by omega, by go_num, ((R2.out.1.set (k * 2) _).set (k * 2 + 1) _), F.1, F.2, (((R.out.2.2.2.trans (R2.out.2.2.mono R.out.2.2.2.size)).setCell (Nat.le_refl _) _).setCell (Nat.le_refl _) _)⟩
      case measure => simp [intOf]; omega
    · have e : k = l.length := by omega
      subst e
      have R := Lib.hid (And.intro hblk (And.intro hsz (And.intro htake hbel)))
      clear hblk hsz htake hbel hmk
      go_wp2_with fail
      go_ret
      exact ⟨_, rfl, own_full R.out.1 _ (Nat.le_refl _) l l.length rfl (by unfold maxLen; omega) R.out.2.1 (by rw [R.out.2.2.1, List.take_length]), R.out.2.2.2⟩
set_option maxRecDepth 100000 in
set_option maxHeartbeats 1000000 in
theorem eqWaitS_c (A A' : Option Addr) (c c' : Nat) (l : List Wt) (w : World) (h : Rd wtE w w.heap.size A l) (h' : Rd wtE w w.heap.size A' l) (hl : l.length ≤ 1048576) :
    Calls Try.prog 31 #[.slice A l.length c, .slice A' l.length c'] w fun e w' => e = .returned (.bool true) ∧ Below w.heap.size w w' := by
  have H := Lib.hid (And.intro h h')
  clear h h'
  go_enter Try.func31, Try.ntmps31
  go_wp2_with fail
  go_loopw [5] (fun i wr => ∃ k : Nat, k ≤ l.length ∧ i = .int .i64 k ∧ Below w.heap.size w wr) (fun i _ => l.length - (intOf i).toNat)
  case atStart => exact ⟨0, by omega, rfl, Below.refl _ _⟩
  case round =>
    obtain ⟨k, hk, rfl, hbel⟩ := hrel
    by_cases hlt : k < l.length
    · obtain ⟨b, o, rfl, hb, c0, c1⟩ := (H.out.1.below hbel (Nat.le_refl _)).wt hlt
      obtain ⟨b', o', rfl, hb', c0', c1'⟩ := (H.out.2.below hbel (Nat.le_refl _)).wt hlt
      have R := Lib.hid hbel
      clear hbel
      go_wp2_with fail
      go_still_tail 8, (by kernel_rfl)
      go_wp2_with fail
      refine (eqWait_c l[k] _).mono ?_
      rintro e w1 ⟨rfl, hb1⟩
      have R1 := Lib.hid hb1
      clear hb1
      go_wp2_with fail
      go_roundw
      case rel => exact ⟨k + 1, by omega, by go_num, R.out.drew.trans (R1.out.mono R.out.size)⟩
      case measure => simp [intOf]; omega
    · have R := Lib.hid hbel
      clear hbel
      go_wp2_with fail
      go_ret
      exact ⟨rfl, R.out⟩
set_option maxRecDepth 100000 in
set_option maxHeartbeats 400000 in
theorem szWaitS_c (A : Option Addr) (c n : Nat) (left : Int) (hl : 0 ≤ left) (hl2 : left ≤ 1048576) (hn : n ≤ maxLen) (w : World) :
    Calls Try.prog 29 #[.slice A n c, .int .i64 left] w fun e w' => e = .returned (.int .i64 (if left < n then -1 else left - n)) ∧ w = w' := by
  unfold maxLen at hn
  by_cases hlt : left < n
  · have h1 : left - (n : Int) < 0 := by omega
    have Hf := Lib.hid (show (if left < (n : Int) then (-1 : Int) else left - n) = -1 from if_pos hlt)
    clear hlt
    go_enter Try.func29, Try.ntmps29
    go_wp2
    go_ret
    first | exact ⟨rfl, rfl⟩ | exact ⟨ret_int Hf.out.symm, rfl⟩
  · have h1 : ¬ left - (n : Int) < 0 := by omega
    have Hf := Lib.hid (show (if left < (n : Int) then (-1 : Int) else left - n) = left - n from if_neg hlt)
    go_enter Try.func29, Try.ntmps29
    go_wp2
    go_ret
    first | exact ⟨rfl, rfl⟩ | exact ⟨ret_int Hf.out.symm, rfl⟩
def wtMk (K : Int) : Wt := ⟨K, K + 1⟩
def wtMarks (K : Int) (n : Nat) : List Wt := (List.range n).map fun (i : Nat) => wtMk (K + 2 * (i : Int))
theorem wtMarks_len (K : Int) (n : Nat) : (wtMarks K n).length = n := by simp [wtMarks]
theorem wtMarks_at (K : Int) (n k : Nat) (h : k < (wtMarks K n).length) : (wtMarks K n)[k] = wtMk (K + 2 * (k : Int)) := by simp [wtMarks]

set_option maxRecDepth 100000 in
set_option maxHeartbeats 1000000 in
theorem markWaitS_c (v : Value) (l : List Wt) (base : Nat) (K : Int) (hK : 0 ≤ K) (hK2 : K ≤ 100000000) (w : World) (h : Own wtE 39 w base v l) (hl : l.length ≤ 10000000) :
    Calls Try.prog 48 #[v, .int .i64 K] w fun e w' => e = .returned (.int .i64 (K + 2 * (l.length : Int))) ∧ Own wtE 39 w' base v (wtMarks K l.length) ∧ w.grownBy w' v.ownBlock ∧ w'.heap.size = w.heap.size := by
  rcases h.block with ⟨rfl, rfl⟩ | ⟨g, c, cs, rfl, hbg, hblk, hc, hcm, hcs, htake⟩
  · clear h
    go_enter Try.func48, Try.ntmps48
    go_wp2_with fail
    go_loop [1, 5] (fun k i => k = .int .i64 K ∧ i = .int .i64 0) (fun _ _ => 0)
    case atStart => exact ⟨rfl, rfl⟩
    case round =>
      obtain ⟨rfl, rfl⟩ := hrel
      go_wp2_with fail
      go_ret
      exact ⟨by simp, Own.nil, World.grownBy.refl w _, rfl⟩
  · have R0 := Lib.hid (And.intro hblk (And.intro hcs hbg))
    clear h htake hblk hcs
    go_enter Try.func48, Try.ntmps48
    go_wp2_with fail
    go_loopw [1, 5] (fun kv i wr => ∃ (k : Nat) (cs' : Array Value), k ≤ l.length ∧ i = .int .i64 k ∧ kv = .int .i64 (K + 2 * (k : Int)) ∧ Blk wr g 39 cs' ∧ cs'.size = c * wtE.sz ∧ cs'.toList.take (k * wtE.sz) = wtE.flat ((wtMarks K l.length).take k) ∧ w.grownBy wr (some g) ∧ wr.heap.size = w.heap.size)
      (fun _ i _ => l.length - (intOf i).toNat)
    case atStart => exact ⟨0, cs, by omega, rfl, by simp, R0.out.1, R0.out.2.1, by simp [Enc.flat], World.grownBy.refl w _, rfl⟩
    case round =>
      obtain ⟨k, cs', hk, rfl, rfl, hblk, hsz, htake, hgr, hhs⟩ := hrel
      by_cases hlt : k < l.length
      · have hsz3 : cs'.size = c * 2 := hsz
        obtain ⟨u0, d0⟩ := hblk.cell (k * 2) (by omega)
        obtain ⟨u1, d1⟩ := hblk.cell (k * 2 + 1) (by omega)
        have f0 := hblk.free (k * 2)
        have f1 := hblk.free (k * 2 + 1)
        have R := Lib.hid (And.intro hblk (And.intro hsz (And.intro htake (And.intro hgr hhs))))
        clear hblk hsz htake hgr hhs hsz3
        go_wp2_with fail
        go_roundw
        case rel =>
          have F := mark_step cs' (wtMarks K l.length) k c (by rw [wtMarks_len]; exact hlt) (by omega) R.out.2.1 R.out.2.2.1
          rw [wtMarks_at] at F
          exact ⟨k + 1, _, by omega, by go_num, by go_num, ((R.out.1.set (k * 2) _).set (k * 2 + 1) _), F.1, F.2, (only_set (only_set R.out.2.2.2.1)), by simp [World.setCell]; exact R.out.2.2.2.2⟩
        case measure => simp [intOf]; omega
      · have e : k = l.length := by omega
        subst e
        have R := Lib.hid (And.intro hblk (And.intro hsz (And.intro htake (And.intro hgr hhs))))
        clear hblk hsz htake hgr hhs
        go_wp2_with fail
        go_ret
        refine ⟨rfl, own_blk R.out.1 _ R0.out.2.2 _ (wtMarks_len K l.length).symm hc hcm R.out.2.1 (by rw [R.out.2.2.1, List.take_of_length_le (by rw [wtMarks_len]; exact Nat.le_refl _)]), R.out.2.2.2.1, R.out.2.2.2.2⟩
end Go.Proofs.Ytbbnibjnjmmmnaa
