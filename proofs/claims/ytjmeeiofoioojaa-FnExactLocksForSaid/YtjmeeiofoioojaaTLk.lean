/-
  Locks: their lists in memory, and the laws' own helpers over them.
-/
import Derived.Test.YtjmeeiofoioojaaProg
import Derived.Test.YtjmeeiofoioojaaMem
import Derived.StillTailTactics
namespace Go.Proofs.Ytjmeeiofoioojaa
open Go.RowKit

structure Lk where
  who : Int
  node : Int
  mode : Int

def lkE : Enc Lk := { cells := fun x => [.int .i64 x.who, .int .i64 x.node, .int .i64 x.mode], sz := 3, pos := by omega, len := fun _ => rfl, one := fun x u hu => by simp at hu; rcases hu with rfl | rfl | rfl <;> rfl }

theorem Rd.lk {w : World} {B : Nat} {A : Option Addr} {l : List Lk} (h : Rd lkE w B A l) {k : Nat} (hk : k < l.length) :
    ∃ b o, A = some ⟨b, o, none⟩ ∧ b < B ∧ w.cell? ⟨b, o + k * 3, none⟩ = some (.int .i64 l[k].who) ∧ w.cell? ⟨b, o + k * 3 + 1, none⟩ = some (.int .i64 l[k].node) ∧ w.cell? ⟨b, o + k * 3 + 2, none⟩ = some (.int .i64 l[k].mode) := by
  rcases h with rfl | ⟨b, o, rfl, hb, hc⟩
  · simp at hk
  · have h1 := hc k l[k] (List.getElem?_eq_getElem hk)
    exact ⟨b, o, rfl, hb, h1 0 _ rfl, h1 1 _ rfl, h1 2 _ rfl⟩

set_option maxRecDepth 100000 in
set_option maxHeartbeats 400000 in
theorem eqLock_c (x : Lk) (w : World) :
    Calls Try.prog 79 #[.agg #[.int .i64 x.who, .int .i64 x.node, .int .i64 x.mode], .agg #[.int .i64 x.who, .int .i64 x.node, .int .i64 x.mode]] w fun e w' => e = .returned (.bool true) ∧ Below w.heap.size w w' := by
  go_enter Try.func79, Try.ntmps79
  go_wp2
  go_ret
  exact ⟨rfl, ((Below.refl _ _).alloc (Nat.le_refl _) _).alloc (by simp) _⟩

theorem slLk : SlT Try.prog lkE 49 84 (.agg #[.int .i64 0, .int .i64 0, .int .i64 0]) 24 := ⟨Try.underlying49, by kernel_rfl, rfl, by omega⟩

set_option maxRecDepth 100000 in
set_option maxHeartbeats 1000000 in
theorem eqLockS_c (A A' : Option Addr) (c c' : Nat) (l : List Lk) (w : World) (h : Rd lkE w w.heap.size A l) (h' : Rd lkE w w.heap.size A' l) (hl : l.length ≤ 1048576) :
    Calls Try.prog 47 #[.slice A l.length c, .slice A' l.length c'] w fun e w' => e = .returned (.bool true) ∧ Below w.heap.size w w' := by
  have H := Lib.hid (And.intro h h')
  clear h h'
  go_enter Try.func47, Try.ntmps47
  go_wp2_with fail
  go_loopw [5] (fun i wr => ∃ k : Nat, k ≤ l.length ∧ i = .int .i64 k ∧ Below w.heap.size w wr) (fun i _ => l.length - (intOf i).toNat)
  case atStart => exact ⟨0, by omega, rfl, Below.refl _ _⟩
  case round =>
    obtain ⟨k, hk, rfl, hbel⟩ := hrel
    by_cases hlt : k < l.length
    · obtain ⟨b, o, rfl, hb, c0, c1, c2⟩ := (H.out.1.below hbel (Nat.le_refl _)).lk hlt
      obtain ⟨b', o', rfl, hb', c0', c1', c2'⟩ := (H.out.2.below hbel (Nat.le_refl _)).lk hlt
      have R := Lib.hid hbel
      clear hbel
      go_wp2_with fail
      go_still_tail 8, (by kernel_rfl)
      go_wp2_with fail
      refine (eqLock_c l[k] _).mono ?_
      rintro e w1 ⟨rfl, hb1⟩
      have R1 := Lib.hid hb1
      clear hb1
      go_wp2_with fail
      go_roundw
      case rel => exact ⟨k + 1, by omega, by go_num, R.out.drew.trans (R1.out.mono R.out.size)⟩
      case measure => simp [intOf]; omega
    · have R := Lib.hid hbel
      clear hbel
      go_wp2_with fail
      go_ret
      exact ⟨rfl, R.out⟩
def lkMk (K : Int) : Lk := ⟨K, K + 1, K + 1 + 1⟩
def lkMarks (K : Int) (n : Nat) : List Lk := (List.range n).map fun (i : Nat) => lkMk (K + 3 * (i : Int))
theorem lkMarks_len (K : Int) (n : Nat) : (lkMarks K n).length = n := by simp [lkMarks]
theorem lkMarks_at (K : Int) (n k : Nat) (h : k < (lkMarks K n).length) : (lkMarks K n)[k] = lkMk (K + 3 * (k : Int)) := by simp [lkMarks]

set_option maxRecDepth 100000 in
set_option maxHeartbeats 1000000 in
theorem markLockS_c (v : Value) (l : List Lk) (base : Nat) (K : Int) (hK : 0 ≤ K) (hK2 : K ≤ 100000000) (w : World) (h : Own lkE 84 w base v l) (hl : l.length ≤ 10000000) :
    Calls Try.prog 48 #[v, .int .i64 K] w fun e w' => e = .returned (.int .i64 (K + 3 * (l.length : Int))) ∧ Own lkE 84 w' base v (lkMarks K l.length) ∧ w.grownBy w' v.ownBlock ∧ w'.heap.size = w.heap.size := by
  rcases h.block with ⟨rfl, rfl⟩ | ⟨g, c, cs, rfl, hbg, hblk, hc, hcm, hcs, htake⟩
  · clear h
    go_enter Try.func48, Try.ntmps48
    go_wp2_with fail
    go_loop [1, 5] (fun k i => k = .int .i64 K ∧ i = .int .i64 0) (fun _ _ => 0)
    case atStart => exact ⟨rfl, rfl⟩
    case round =>
      obtain ⟨rfl, rfl⟩ := hrel
      go_wp2_with fail
      go_ret
      exact ⟨by simp, Own.nil, World.grownBy.refl w _, rfl⟩
  · have R0 := Lib.hid (And.intro hblk (And.intro hcs hbg))
    clear h htake hblk hcs
    go_enter Try.func48, Try.ntmps48
    go_wp2_with fail
    go_loopw [1, 5] (fun kv i wr => ∃ (k : Nat) (cs' : Array Value), k ≤ l.length ∧ i = .int .i64 k ∧ kv = .int .i64 (K + 3 * (k : Int)) ∧ Blk wr g 84 cs' ∧ cs'.size = c * lkE.sz ∧ cs'.toList.take (k * lkE.sz) = lkE.flat ((lkMarks K l.length).take k) ∧ w.grownBy wr (some g) ∧ wr.heap.size = w.heap.size)
      (fun _ i _ => l.length - (intOf i).toNat)
    case atStart => exact ⟨0, cs, by omega, rfl, by simp, R0.out.1, R0.out.2.1, by simp [Enc.flat], World.grownBy.refl w _, rfl⟩
    case round =>
      obtain ⟨k, cs', hk, rfl, rfl, hblk, hsz, htake, hgr, hhs⟩ := hrel
      by_cases hlt : k < l.length
      · have hsz3 : cs'.size = c * 3 := hsz
        obtain ⟨u0, d0⟩ := hblk.cell (k * 3) (by omega)
        obtain ⟨u1, d1⟩ := hblk.cell (k * 3 + 1) (by omega)
        obtain ⟨u2, d2⟩ := hblk.cell (k * 3 + 2) (by omega)
        have f0 := hblk.free (k * 3)
        have f1 := hblk.free (k * 3 + 1)
        have f2 := hblk.free (k * 3 + 2)
        have R := Lib.hid (And.intro hblk (And.intro hsz (And.intro htake (And.intro hgr hhs))))
        clear hblk hsz htake hgr hhs hsz3
        go_wp2_with fail
        go_roundw
        case rel =>
          have F := mark_step cs' (lkMarks K l.length) k c (by rw [lkMarks_len]; exact hlt) (by omega) R.out.2.1 R.out.2.2.1
          rw [lkMarks_at] at F
          exact ⟨k + 1, _, by omega, by go_num, by go_num, (((R.out.1.set (k * 3) _).set (k * 3 + 1) _).set (k * 3 + 2) _), F.1, F.2, (only_set (only_set (only_set R.out.2.2.2.1))), by simp [World.setCell]; exact R.out.2.2.2.2⟩
        case measure => simp [intOf]; omega
      · have e : k = l.length := by omega
        subst e
        have R := Lib.hid (And.intro hblk (And.intro hsz (And.intro htake (And.intro hgr hhs))))
        clear hblk hsz htake hgr hhs
        go_wp2_with fail
        go_ret
        refine ⟨rfl, own_blk R.out.1 _ R0.out.2.2 _ (lkMarks_len K l.length).symm hc hcm R.out.2.1 (by rw [R.out.2.2.1, List.take_of_length_le (by rw [lkMarks_len]; exact Nat.le_refl _)]), R.out.2.2.2.1, R.out.2.2.2.2⟩
set_option maxRecDepth 100000 in
set_option maxHeartbeats 1000000 in
theorem heldLockS_c (A : Option Addr) (c n : Nat) (K : Int) (hK : 0 ≤ K) (hK2 : K ≤ 100000000) (w : World) (h : Rd lkE w w.heap.size A (lkMarks K n)) (hl : n ≤ 10000000) :
    Calls Try.prog 49 #[.slice A n c, .int .i64 K] w fun e w' => e = .returned (.int .i64 (K + 3 * (n : Int))) ∧ w = w' := by
  have H := Lib.hid h
  clear h
  go_enter Try.func49, Try.ntmps49
  go_wp2_with fail
  go_loop [1, 5] (fun kv i => ∃ k : Nat, k ≤ n ∧ i = .int .i64 k ∧ kv = .int .i64 (K + 3 * (k : Int))) (fun _ i => n - (intOf i).toNat)
  case atStart => exact ⟨0, by omega, rfl, by simp⟩
  case round =>
    obtain ⟨k, hk, rfl, rfl⟩ := hrel
    by_cases hlt : k < n
    · obtain ⟨b, o, rfl, hb, c0, c1, c2⟩ := H.out.lk (k := k) (by rw [lkMarks_len]; exact hlt)
      rw [lkMarks_at] at c0 c1 c2
      simp only [lkMk] at c0 c1 c2
      go_wp2_with fail
      go_round
      case rel => exact ⟨k + 1, by omega, by go_num, by go_num⟩
      case measure => simp [intOf]; omega
    · have e : k = n := by omega
      subst e
      go_wp2_with fail
      go_ret
      exact ⟨rfl, rfl⟩
end Go.Proofs.Ytjmeeiofoioojaa
