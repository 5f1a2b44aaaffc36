/-
  Accesses: their lists in memory, and the laws' own helpers over them.
-/
import Derived.Test.YtbbnibjnjmmmnaaProg
import Derived.Test.YtbbnibjnjmmmnaaMem
import Derived.StillTailTactics
namespace Go.Proofs.Ytbbnibjnjmmmnaa
open Go.RowKit

structure Acc where
  who : Int
  node : Int
  write : Bool

def accE : Enc Acc := { cells := fun x => [.int .i64 x.who, .int .i64 x.node, .bool x.write], sz := 3, pos := by omega, len := fun _ => rfl, one := fun x u hu => by simp at hu; rcases hu with rfl | rfl | rfl <;> rfl }

theorem Rd.acc {w : World} {B : Nat} {A : Option Addr} {l : List Acc} (h : Rd accE w B A l) {k : Nat} (hk : k < l.length) :
    ∃ b o, A = some ⟨b, o, none⟩ ∧ b < B ∧ w.cell? ⟨b, o + k * 3, none⟩ = some (.int .i64 l[k].who) ∧ w.cell? ⟨b, o + k * 3 + 1, none⟩ = some (.int .i64 l[k].node) ∧ w.cell? ⟨b, o + k * 3 + 2, none⟩ = some (.bool l[k].write) := by
  rcases h with rfl | ⟨b, o, rfl, hb, hc⟩
  · simp at hk
  · have h1 := hc k l[k] (List.getElem?_eq_getElem hk)
    exact ⟨b, o, rfl, hb, h1 0 _ rfl, h1 1 _ rfl, h1 2 _ rfl⟩

set_option maxRecDepth 100000 in
set_option maxHeartbeats 400000 in
theorem toAccess_c (x : Acc) (w : World) :
    Calls Try.prog 59 #[.agg #[.int .i64 x.who, .int .i64 x.node, .bool x.write]] w fun e w' => e = .returned (.agg #[.int .i64 x.who, .int .i64 x.node, .bool x.write]) ∧ Below w.heap.size w w' := by
  go_enter Try.func59, Try.ntmps59
  go_wp2
  exact bodyPost_ret (v := .agg #[.int .i64 x.who, .int .i64 x.node, .bool x.write]) (by simp [results, Try.results59, go_sem]) rfl ⟨rfl, (((Below.refl _ _).alloc (Nat.le_refl _) _).alloc (by simp) _).alloc (by simp; omega) _⟩
set_option maxRecDepth 100000 in
set_option maxHeartbeats 400000 in
theorem eqAccess_c (x : Acc) (w : World) :
    Calls Try.prog 60 #[.agg #[.int .i64 x.who, .int .i64 x.node, .bool x.write], .agg #[.int .i64 x.who, .int .i64 x.node, .bool x.write]] w fun e w' => e = .returned (.bool true) ∧ Below w.heap.size w w' := by
  go_enter Try.func60, Try.ntmps60
  go_wp2
  go_ret
  exact ⟨rfl, ((Below.refl _ _).alloc (Nat.le_refl _) _).alloc (by simp) _⟩

theorem slAcc : SlT Try.prog accE 26 46 (.agg #[.int .i64 0, .int .i64 0, .bool false]) 24 := ⟨Try.underlying26, by kernel_rfl, rfl, by omega⟩

set_option maxRecDepth 100000 in
set_option maxHeartbeats 1000000 in
theorem toAccessS_c (A : Option Addr) (c : Nat) (l : List Acc) (w : World) (h : Rd accE w w.heap.size A l) (hl : l.length ≤ 1048576) :
    Calls Try.prog 24 #[.slice A l.length c] w fun e w' => ∃ v, e = .returned v ∧ Own accE 46 w' w.heap.size v l ∧ Below w.heap.size w w' := by
  obtain ⟨i, hi, hz, hs, hby⟩ := info_parts slAcc.info
  have hmk := fun W => run_make_rowN (P := Try.prog) 26 46 i _ slAcc.und hi hz .i64 .i64 l.length l.length (Nat.le_refl _) (by rw [hby]; omega) (by omega) W
  have H := Lib.hid h
  have hnew : Blk (w.alloc (.cells (madeCells (Value.agg #[.int .i64 0, .int .i64 0, .bool false]).cells (l.length * i.size)) 46)) w.heap.size 46 (madeCells (Value.agg #[.int .i64 0, .int .i64 0, .bool false]).cells (l.length * i.size)) := Blk.new _ _ _
  have Hnew := Lib.hid hnew
  have Hs := Lib.hid hs
  clear hnew hs h hi hz hby
  go_enter Try.func24, Try.ntmps24
  go_wp2_with fail
  go_loopw [4] (fun i wr => ∃ (k : Nat) (cs : Array Value), k ≤ l.length ∧ i = .int .i64 k ∧ Blk wr w.heap.size 46 cs ∧ cs.size = l.length * accE.sz ∧ cs.toList.take (k * accE.sz) = accE.flat (l.take k) ∧ Below w.heap.size w wr)
    (fun i _ => l.length - (intOf i).toNat)
  case atStart => exact ⟨0, _, by omega, rfl, Hnew.out, by rw [size_madeCells, Hs.out], by simp [Enc.flat], (Below.refl _ _).alloc (Nat.le_refl _) _⟩
  case round =>
    obtain ⟨k, cs, hk, rfl, hblk, hsz, htake, hbel⟩ := hrel
    by_cases hlt : k < l.length
    · obtain ⟨b, o, rfl, hb, c0, c1, c2⟩ := (H.out.below hbel (Nat.le_refl _)).acc hlt
      have R := Lib.hid (And.intro hblk (And.intro hsz (And.intro htake hbel)))
      clear hblk hsz htake hbel hmk
      go_wp2_with fail
      refine (toAccess_c l[k] _).mono ?_
      rintro e w1 ⟨rfl, hb1⟩
      have hblk1 : Blk w1 w.heap.size 46 cs := R.out.1.grow hb1
      have hsz : cs.size = l.length * 3 := R.out.2.1
      obtain ⟨u0, d0⟩ := hblk1.cell (k * 3) (by omega)
      obtain ⟨u1, d1⟩ := hblk1.cell (k * 3 + 1) (by omega)
      obtain ⟨u2, d2⟩ := hblk1.cell (k * 3 + 2) (by omega)
      have f0 := hblk1.free (k * 3)
      have f1 := hblk1.free (k * 3 + 1)
      have f2 := hblk1.free (k * 3 + 2)
      have R2 := Lib.hid (And.intro hblk1 (And.intro hsz hb1))
      clear hblk1 hsz hb1
      go_wp2_with fail
      go_roundw
      case rel =>
        have F := fill_step cs l k l.length hlt rfl R.out.2.1 R.out.2.2.1
        exact ⟨k + 1, _, by omega, by go_num, (((R2.out.1.set (k * 3) _).set (k * 3 + 1) _).set (k * 3 + 2) _), F.1, F.2, ((((R.out.2.2.2.trans (R2.out.2.2.mono R.out.2.2.2.size)).setCell (Nat.le_refl _) _).setCell (Nat.le_refl _) _).setCell (Nat.le_refl _) _)⟩
      case measure => simp [intOf]; omega
    · have e : k = l.length := by omega
      subst e
      have R := Lib.hid (And.intro hblk (And.intro hsz (And.intro htake hbel)))
      clear hblk hsz htake hbel hmk
      go_wp2_with fail
      go_ret
      exact ⟨_, rfl, own_full R.out.1 _ (Nat.le_refl _) l l.length rfl (by unfold maxLen; omega) R.out.2.1 (by rw [R.out.2.2.1, List.take_length]), R.out.2.2.2⟩
set_option maxRecDepth 100000 in
set_option maxHeartbeats 1000000 in
theorem eqAccessS_c (A A' : Option Addr) (c c' : Nat) (l : List Acc) (w : World) (h : Rd accE w w.heap.size A l) (h' : Rd accE w w.heap.size A' l) (hl : l.length ≤ 1048576) :
    Calls Try.prog 25 #[.slice A l.length c, .slice A' l.length c'] w fun e w' => e = .returned (.bool true) ∧ Below w.heap.size w w' := by
  have H := Lib.hid (And.intro h h')
  clear h h'
  go_enter Try.func25, Try.ntmps25
  go_wp2_with fail
  go_loopw [5] (fun i wr => ∃ k : Nat, k ≤ l.length ∧ i = .int .i64 k ∧ Below w.heap.size w wr) (fun i _ => l.length - (intOf i).toNat)
  case atStart => exact ⟨0, by omega, rfl, Below.refl _ _⟩
  case round =>
    obtain ⟨k, hk, rfl, hbel⟩ := hrel
    by_cases hlt : k < l.length
    · obtain ⟨b, o, rfl, hb, c0, c1, c2⟩ := (H.out.1.below hbel (Nat.le_refl _)).acc hlt
      obtain ⟨b', o', rfl, hb', c0', c1', c2'⟩ := (H.out.2.below hbel (Nat.le_refl _)).acc hlt
      have R := Lib.hid hbel
      clear hbel
      go_wp2_with fail
      go_still_tail 8, (by kernel_rfl)
      go_wp2_with fail
      refine (eqAccess_c l[k] _).mono ?_
      rintro e w1 ⟨rfl, hb1⟩
      have R1 := Lib.hid hb1
      clear hb1
      go_wp2_with fail
      go_roundw
      case rel => exact ⟨k + 1, by omega, by go_num, R.out.drew.trans (R1.out.mono R.out.size)⟩
      case measure => simp [intOf]; omega
    · have R := Lib.hid hbel
      clear hbel
      go_wp2_with fail
      go_ret
      exact ⟨rfl, R.out⟩
set_option maxRecDepth 100000 in
set_option maxHeartbeats 400000 in
theorem szAccessS_c (A : Option Addr) (c n : Nat) (left : Int) (hl : 0 ≤ left) (hl2 : left ≤ 1048576) (hn : n ≤ maxLen) (w : World) :
    Calls Try.prog 23 #[.slice A n c, .int .i64 left] w fun e w' => e = .returned (.int .i64 (if left < n then -1 else left - n)) ∧ w = w' := by
  unfold maxLen at hn
  by_cases hlt : left < n
  · have h1 : left - (n : Int) < 0 := by omega
    have Hf := Lib.hid (show (if left < (n : Int) then (-1 : Int) else left - n) = -1 from if_pos hlt)
    clear hlt
    go_enter Try.func23, Try.ntmps23
    go_wp2
    go_ret
    first | exact ⟨rfl, rfl⟩ | exact ⟨ret_int Hf.out.symm, rfl⟩
  · have h1 : ¬ left - (n : Int) < 0 := by omega
    have Hf := Lib.hid (show (if left < (n : Int) then (-1 : Int) else left - n) = left - n from if_neg hlt)
    go_enter Try.func23, Try.ntmps23
    go_wp2
    go_ret
    first | exact ⟨rfl, rfl⟩ | exact ⟨ret_int Hf.out.symm, rfl⟩
def accMk (K : Int) : Acc := ⟨K, K + 1, (K + 1 + 1) % 3 == 0⟩
def accMarks (K : Int) (n : Nat) : List Acc := (List.range n).map fun (i : Nat) => accMk (K + 3 * (i : Int))
theorem accMarks_len (K : Int) (n : Nat) : (accMarks K n).length = n := by simp [accMarks]
theorem accMarks_at (K : Int) (n k : Nat) (h : k < (accMarks K n).length) : (accMarks K n)[k] = accMk (K + 3 * (k : Int)) := by simp [accMarks]

set_option maxRecDepth 100000 in
set_option maxHeartbeats 1000000 in
theorem markAccessS_c (v : Value) (l : List Acc) (base : Nat) (K : Int) (hK : 0 ≤ K) (hK2 : K ≤ 100000000) (w : World) (h : Own accE 46 w base v l) (hl : l.length ≤ 10000000) :
    Calls Try.prog 39 #[v, .int .i64 K] w fun e w' => e = .returned (.int .i64 (K + 3 * (l.length : Int))) ∧ Own accE 46 w' base v (accMarks K l.length) ∧ w.grownBy w' v.ownBlock ∧ w'.heap.size = w.heap.size := by
  rcases h.block with ⟨rfl, rfl⟩ | ⟨g, c, cs, rfl, hbg, hblk, hc, hcm, hcs, htake⟩
  · clear h
    go_enter Try.func39, Try.ntmps39
    go_wp2_with fail
    go_loop [1, 5] (fun k i => k = .int .i64 K ∧ i = .int .i64 0) (fun _ _ => 0)
    case atStart => exact ⟨rfl, rfl⟩
    case round =>
      obtain ⟨rfl, rfl⟩ := hrel
      go_wp2_with fail
      go_ret
      exact ⟨by simp, Own.nil, World.grownBy.refl w _, rfl⟩
  · have R0 := Lib.hid (And.intro hblk (And.intro hcs hbg))
    clear h htake hblk hcs
    go_enter Try.func39, Try.ntmps39
    go_wp2_with fail
    go_loopw [1, 5] (fun kv i wr => ∃ (k : Nat) (cs' : Array Value), k ≤ l.length ∧ i = .int .i64 k ∧ kv = .int .i64 (K + 3 * (k : Int)) ∧ Blk wr g 46 cs' ∧ cs'.size = c * accE.sz ∧ cs'.toList.take (k * accE.sz) = accE.flat ((accMarks K l.length).take k) ∧ w.grownBy wr (some g) ∧ wr.heap.size = w.heap.size)
      (fun _ i _ => l.length - (intOf i).toNat)
    case atStart => exact ⟨0, cs, by omega, rfl, by simp, R0.out.1, R0.out.2.1, by simp [Enc.flat], World.grownBy.refl w _, rfl⟩
    case round =>
      obtain ⟨k, cs', hk, rfl, rfl, hblk, hsz, htake, hgr, hhs⟩ := hrel
      by_cases hlt : k < l.length
      · have hsz3 : cs'.size = c * 3 := hsz
        obtain ⟨u0, d0⟩ := hblk.cell (k * 3) (by omega)
        obtain ⟨u1, d1⟩ := hblk.cell (k * 3 + 1) (by omega)
        obtain ⟨u2, d2⟩ := hblk.cell (k * 3 + 2) (by omega)
        have f0 := hblk.free (k * 3)
        have f1 := hblk.free (k * 3 + 1)
        have f2 := hblk.free (k * 3 + 2)
        have R := Lib.hid (And.intro hblk (And.intro hsz (And.intro htake (And.intro hgr hhs))))
        clear hblk hsz htake hgr hhs hsz3
        go_wp2_with fail
        go_roundw
        case rel =>
          have F := mark_step cs' (accMarks K l.length) k c (by rw [accMarks_len]; exact hlt) (by omega) R.out.2.1 R.out.2.2.1
          rw [accMarks_at] at F
          exact ⟨k + 1, _, by omega, by go_num, by go_num, (((R.out.1.set (k * 3) _).set (k * 3 + 1) _).set (k * 3 + 2) _), F.1, F.2, (only_set (only_set (only_set R.out.2.2.2.1))), by simp [World.setCell]; exact R.out.2.2.2.2⟩
        case measure => simp [intOf]; omega
      · have e : k = l.length := by omega
        subst e
        have R := Lib.hid (And.intro hblk (And.intro hsz (And.intro htake (And.intro hgr hhs))))
        clear hblk hsz htake hgr hhs
        go_wp2_with fail
        go_ret
        refine ⟨rfl, own_blk R.out.1 _ R0.out.2.2 _ (accMarks_len K l.length).symm hc hcm R.out.2.1 (by rw [R.out.2.2.1, List.take_of_length_le (by rw [accMarks_len]; exact Nat.le_refl _)]), R.out.2.2.2.1, R.out.2.2.2.2⟩
end Go.Proofs.Ytbbnibjnjmmmnaa
