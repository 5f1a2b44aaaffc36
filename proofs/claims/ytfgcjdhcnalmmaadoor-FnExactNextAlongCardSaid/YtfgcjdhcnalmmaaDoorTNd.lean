/-
  Nodes: their lists in memory, and the laws' own helpers over them.
-/
import Derived.Test.YtfgcjdhcnalmmaaDoorProg
import Derived.Test.YtfgcjdhcnalmmaaDoorMem
import Derived.StillTailTactics
namespace Go.Proofs.YtfgcjdhcnalmmaaDoor
open Go.RowKit

structure Nd where
  par : Int
  name : ByteArray
  val : Int
  small : name.size ≤ maxLen

def ndE : Enc Nd := { cells := fun x => [.int .i64 x.par, .string x.name, .int .i64 x.val], sz := 3, pos := by omega, len := fun _ => rfl, one := fun x u hu => by simp at hu; rcases hu with rfl | rfl | rfl <;> rfl }

theorem Rd.nd {w : World} {B : Nat} {A : Option Addr} {l : List Nd} (h : Rd ndE w B A l) {k : Nat} (hk : k < l.length) :
    ∃ b o, A = some ⟨b, o, none⟩ ∧ b < B ∧ w.cell? ⟨b, o + k * 3, none⟩ = some (.int .i64 l[k].par) ∧ w.cell? ⟨b, o + k * 3 + 1, none⟩ = some (.string l[k].name) ∧ w.cell? ⟨b, o + k * 3 + 2, none⟩ = some (.int .i64 l[k].val) := by
  rcases h with rfl | ⟨b, o, rfl, hb, hc⟩
  · simp at hk
  · have h1 := hc k l[k] (List.getElem?_eq_getElem hk)
    exact ⟨b, o, rfl, hb, h1 0 _ rfl, h1 1 _ rfl, h1 2 _ rfl⟩

set_option maxRecDepth 100000 in
set_option maxHeartbeats 400000 in
theorem toNode_c (x : Nd) (w : World) :
    Calls Tryd.prog 51 #[.agg #[.int .i64 x.par, .string x.name, .int .i64 x.val]] w fun e w' => e = .returned (.agg #[.int .i64 x.par, .string x.name, .int .i64 x.val]) ∧ Below w.heap.size w w' := by
  go_enter Tryd.func51, Tryd.ntmps51
  go_wp2
  exact bodyPost_ret (v := .agg #[.int .i64 x.par, .string x.name, .int .i64 x.val]) (by simp [results, Tryd.results51, go_sem]) rfl ⟨rfl, (((Below.refl _ _).alloc (Nat.le_refl _) _).alloc (by simp) _).alloc (by simp; omega) _⟩
set_option maxRecDepth 100000 in
set_option maxHeartbeats 400000 in
theorem eqNode_c (x : Nd) (w : World) :
    Calls Tryd.prog 53 #[.agg #[.int .i64 x.par, .string x.name, .int .i64 x.val], .agg #[.int .i64 x.par, .string x.name, .int .i64 x.val]] w fun e w' => e = .returned (.bool true) ∧ Below w.heap.size w w' := by
  go_enter Tryd.func53, Tryd.ntmps53
  go_wp2
  go_ret
  exact ⟨rfl, ((Below.refl _ _).alloc (Nat.le_refl _) _).alloc (by simp) _⟩

theorem slNd : SlT Tryd.prog ndE 34 68 (.agg #[.int .i64 0, .string ByteArray.empty, .int .i64 0]) 32 := ⟨Tryd.underlying34, by kernel_rfl, rfl, by omega⟩

set_option maxRecDepth 100000 in
set_option maxHeartbeats 1000000 in
theorem toNodeS_c (A : Option Addr) (c : Nat) (l : List Nd) (w : World) (h : Rd ndE w w.heap.size A l) (hl : l.length ≤ 1048576) :
    Calls Tryd.prog 19 #[.slice A l.length c] w fun e w' => ∃ v, e = .returned v ∧ Own ndE 68 w' w.heap.size v l ∧ Below w.heap.size w w' := by
  obtain ⟨i, hi, hz, hs, hby⟩ := info_parts slNd.info
  have hmk := fun W => run_make_rowN (P := Tryd.prog) 34 68 i _ slNd.und hi hz .i64 .i64 l.length l.length (Nat.le_refl _) (by rw [hby]; omega) (by omega) W
  have H := Lib.hid h
  have hnew : Blk (w.alloc (.cells (madeCells (Value.agg #[.int .i64 0, .string ByteArray.empty, .int .i64 0]).cells (l.length * i.size)) 68)) w.heap.size 68 (madeCells (Value.agg #[.int .i64 0, .string ByteArray.empty, .int .i64 0]).cells (l.length * i.size)) := Blk.new _ _ _
  have Hnew := Lib.hid hnew
  have Hs := Lib.hid hs
  clear hnew hs h hi hz hby
  go_enter Tryd.func19, Tryd.ntmps19
  go_wp2_with fail
  go_loopw [4] (fun i wr => ∃ (k : Nat) (cs : Array Value), k ≤ l.length ∧ i = .int .i64 k ∧ Blk wr w.heap.size 68 cs ∧ cs.size = l.length * ndE.sz ∧ cs.toList.take (k * ndE.sz) = ndE.flat (l.take k) ∧ Below w.heap.size w wr)
    (fun i _ => l.length - (intOf i).toNat)
  case atStart => exact ⟨0, _, by omega, rfl, Hnew.out, by rw [size_madeCells, Hs.out], by simp [Enc.flat], (Below.refl _ _).alloc (Nat.le_refl _) _⟩
  case round =>
    obtain ⟨k, cs, hk, rfl, hblk, hsz, htake, hbel⟩ := hrel
    by_cases hlt : k < l.length
    · obtain ⟨b, o, rfl, hb, c0, c1, c2⟩ := (H.out.below hbel (Nat.le_refl _)).nd hlt
      have R := Lib.hid (And.intro hblk (And.intro hsz (And.intro htake hbel)))
      clear hblk hsz htake hbel hmk
      go_wp2_with fail
      refine (toNode_c l[k] _).mono ?_
      rintro e w1 ⟨rfl, hb1⟩
      have hblk1 : Blk w1 w.heap.size 68 cs := R.out.1.grow hb1
      have hsz : cs.size = l.length * 3 := R.out.2.1
      obtain ⟨u0, d0⟩ := hblk1.cell (k * 3) (by omega)
      obtain ⟨u1, d1⟩ := hblk1.cell (k * 3 + 1) (by omega)
      obtain ⟨u2, d2⟩ := hblk1.cell (k * 3 + 2) (by omega)
      have f0 := hblk1.free (k * 3)
      have f1 := hblk1.free (k * 3 + 1)
      have f2 := hblk1.free (k * 3 + 2)
      have R2 := Lib.hid (And.intro hblk1 (And.intro hsz hb1))
      clear hblk1 hsz hb1
      go_wp2_with fail
      go_roundw
      case rel =>
        have F := fill_step cs l k l.length hlt rfl R.out.2.1 R.out.2.2.1
        exact ⟨k + 1, _, by omega, by go_num, (((R2.out.1.set (k * 3) _).set (k * 3 + 1) _).set (k * 3 + 2) _), F.1, F.2, ((((R.out.2.2.2.trans (R2.out.2.2.mono R.out.2.2.2.size)).setCell (Nat.le_refl _) _).setCell (Nat.le_refl _) _).setCell (Nat.le_refl _) _)⟩
      case measure => simp [intOf]; omega
    · have e : k = l.length := by omega
      subst e
      have R := Lib.hid (And.intro hblk (And.intro hsz (And.intro htake hbel)))
      clear hblk hsz htake hbel hmk
      go_wp2_with fail
      go_ret
      exact ⟨_, rfl, own_full R.out.1 _ (Nat.le_refl _) l l.length rfl (by unfold maxLen; omega) R.out.2.1 (by rw [R.out.2.2.1, List.take_length]), R.out.2.2.2⟩
set_option maxRecDepth 100000 in
set_option maxHeartbeats 1000000 in
theorem eqNodeS_c (A A' : Option Addr) (c c' : Nat) (l : List Nd) (w : World) (h : Rd ndE w w.heap.size A l) (h' : Rd ndE w w.heap.size A' l) (hl : l.length ≤ 1048576) :
    Calls Tryd.prog 21 #[.slice A l.length c, .slice A' l.length c'] w fun e w' => e = .returned (.bool true) ∧ Below w.heap.size w w' := by
  have H := Lib.hid (And.intro h h')
  clear h h'
  go_enter Tryd.func21, Tryd.ntmps21
  go_wp2_with fail
  go_loopw [5] (fun i wr => ∃ k : Nat, k ≤ l.length ∧ i = .int .i64 k ∧ Below w.heap.size w wr) (fun i _ => l.length - (intOf i).toNat)
  case atStart => exact ⟨0, by omega, rfl, Below.refl _ _⟩
  case round =>
    obtain ⟨k, hk, rfl, hbel⟩ := hrel
    by_cases hlt : k < l.length
    · obtain ⟨b, o, rfl, hb, c0, c1, c2⟩ := (H.out.1.below hbel (Nat.le_refl _)).nd hlt
      obtain ⟨b', o', rfl, hb', c0', c1', c2'⟩ := (H.out.2.below hbel (Nat.le_refl _)).nd hlt
      have R := Lib.hid hbel
      clear hbel
      go_wp2_with fail
      go_still_tail 8, (by kernel_rfl)
      go_wp2_with fail
      refine (eqNode_c l[k] _).mono ?_
      rintro e w1 ⟨rfl, hb1⟩
      have R1 := Lib.hid hb1
      clear hb1
      go_wp2_with fail
      go_roundw
      case rel => exact ⟨k + 1, by omega, by go_num, R.out.drew.trans (R1.out.mono R.out.size)⟩
      case measure => simp [intOf]; omega
    · have R := Lib.hid hbel
      clear hbel
      go_wp2_with fail
      go_ret
      exact ⟨rfl, R.out⟩
end Go.Proofs.YtfgcjdhcnalmmaaDoor
