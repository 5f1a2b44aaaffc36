/-
  Numbers: their lists in memory, and the laws' own helpers over them.
-/
import Derived.Test.YtbbnibjnjmmmnaaProg
import Derived.Test.YtbbnibjnjmmmnaaMem
import Derived.StillTailTactics
import Derived.BigQuiet
import Derived.Deep.QuietTactic
namespace Go.Proofs.Ytbbnibjnjmmmnaa
open Go.RowKit

def inE : Enc Int := { cells := fun x => [.int .i64 x], sz := 1, pos := by omega, len := fun _ => rfl, one := fun x u hu => by simp at hu; subst hu; rfl }

theorem Rd.int {w : World} {B : Nat} {A : Option Addr} {l : List Int} (h : Rd inE w B A l) {k : Nat} (hk : k < l.length) :
    ∃ b o, A = some ⟨b, o, none⟩ ∧ b < B ∧ w.cell? ⟨b, o + k, none⟩ = some (.int .i64 l[k]) := by
  rcases h with rfl | ⟨b, o, rfl, hb, hc⟩
  · simp at hk
  · have h1 := hc k l[k] (List.getElem?_eq_getElem hk) 0 _ rfl
    exact ⟨b, o, rfl, hb, by simpa [inE] using h1⟩

theorem slIn : SlT Try.prog inE 47 3 (.int .i64 0) 8 := ⟨Try.underlying47, by kernel_rfl, rfl, by omega⟩

set_option maxHeartbeats 1000000 in
theorem eqIntS_c (A A' : Option Addr) (c c' : Nat) (l : List Int) (w : World) (h : Rd inE w w.heap.size A l) (h' : Rd inE w w.heap.size A' l) (hl : l.length ≤ 1048576) :
    Calls Try.prog 43 #[.slice A l.length c, .slice A' l.length c'] w fun e w' => e = .returned (.bool true) ∧ Below w.heap.size w w' := by
  have H := Lib.hid (And.intro h h')
  clear h h'
  go_enter Try.func43, Try.ntmps43
  go_wp2_with fail
  go_loopw [5] (fun i wr => ∃ k : Nat, k ≤ l.length ∧ i = .int .i64 k ∧ Below w.heap.size w wr) (fun i _ => l.length - (intOf i).toNat)
  case atStart => exact ⟨0, by omega, rfl, Below.refl _ _⟩
  case round =>
    obtain ⟨k, hk, rfl, hbel⟩ := hrel
    by_cases hlt : k < l.length
    · obtain ⟨b, o, rfl, hb, c0⟩ := (H.out.1.below hbel (Nat.le_refl _)).int hlt
      obtain ⟨b', o', rfl, hb', c0'⟩ := (H.out.2.below hbel (Nat.le_refl _)).int hlt
      have R := Lib.hid hbel
      clear hbel
      go_wp2_with fail
      go_quiet (fail)
      go_wp2_with fail
      go_roundw
      case rel => exact ⟨k + 1, by omega, by go_num, below_drewN R.out _⟩
      case measure => simp [intOf]; omega
    · have R := Lib.hid hbel
      clear hbel
      go_wp2_with fail
      go_ret
      exact ⟨rfl, R.out⟩

def inMarks (K : Int) (n : Nat) : List Int := (List.range n).map fun (i : Nat) => K + 1 * (i : Int)
theorem inMarks_len (K : Int) (n : Nat) : (inMarks K n).length = n := by simp [inMarks]
theorem inMarks_at (K : Int) (n k : Nat) (h : k < (inMarks K n).length) : (inMarks K n)[k] = K + (k : Int) := by simp [inMarks]

set_option maxHeartbeats 1000000 in
theorem markIntS_c (v : Value) (l : List Int) (base : Nat) (K : Int) (hK : 0 ≤ K) (hK2 : K ≤ 100000000) (w : World) (h : Own inE 3 w base v l) (hl : l.length ≤ 10000000) :
    Calls Try.prog 44 #[v, .int .i64 K] w fun e w' => e = .returned (.int .i64 (K + 1 * (l.length : Int))) ∧ Own inE 3 w' base v (inMarks K l.length) ∧ w.grownBy w' v.ownBlock ∧ w'.heap.size = w.heap.size := by
  rcases h.block with ⟨rfl, rfl⟩ | ⟨g, c, cs, rfl, hbg, hblk, hc, hcm, hcs, htake⟩
  · clear h
    go_enter Try.func44, Try.ntmps44
    go_wp2_with fail
    go_loop [1, 5] (fun k i => k = .int .i64 K ∧ i = .int .i64 0) (fun _ _ => 0)
    case atStart => exact ⟨rfl, rfl⟩
    case round =>
      obtain ⟨rfl, rfl⟩ := hrel
      go_wp2_with fail
      go_ret
      exact ⟨by simp, Own.nil, World.grownBy.refl w _, rfl⟩
  · have R0 := Lib.hid (And.intro hblk (And.intro hcs hbg))
    clear h htake hblk hcs
    go_enter Try.func44, Try.ntmps44
    go_wp2_with fail
    go_loopw [1, 5] (fun kv i wr => ∃ (k : Nat) (cs' : Array Value), k ≤ l.length ∧ i = .int .i64 k ∧ kv = .int .i64 (K + (k : Int)) ∧ Blk wr g 3 cs' ∧ cs'.size = c * inE.sz ∧ cs'.toList.take (k * inE.sz) = inE.flat ((inMarks K l.length).take k) ∧ w.grownBy wr (some g) ∧ wr.heap.size = w.heap.size)
      (fun _ i _ => l.length - (intOf i).toNat)
    case atStart => exact ⟨0, cs, by omega, rfl, by simp, R0.out.1, R0.out.2.1, by simp [Enc.flat], World.grownBy.refl w _, rfl⟩
    case round =>
      obtain ⟨k, cs', hk, rfl, rfl, hblk, hsz, htake, hgr, hhs⟩ := hrel
      by_cases hlt : k < l.length
      · have hsz3 : cs'.size = c := by rw [hsz]; exact Nat.mul_one c
        obtain ⟨u0, d0⟩ := hblk.cell k (by omega)
        have f0 := hblk.free k
        have R := Lib.hid (And.intro hblk (And.intro hsz (And.intro htake (And.intro hgr hhs))))
        clear hblk hsz htake hgr hhs hsz3
        go_wp2_with fail
        go_roundw
        case rel =>
          have F := mark_step cs' (inMarks K l.length) k c (by rw [inMarks_len]; exact hlt) (by omega) R.out.2.1 R.out.2.2.1
          rw [inMarks_at] at F
          have e1 : k * inE.sz = k := Nat.mul_one k
          rw [e1] at F
          exact ⟨k + 1, _, by omega, by go_num, by go_num, R.out.1.set k _, F.1, F.2, only_set R.out.2.2.2.1, by simp [World.setCell]; exact R.out.2.2.2.2⟩
        case measure => simp [intOf]; omega
      · have e : k = l.length := by omega
        subst e
        have R := Lib.hid (And.intro hblk (And.intro hsz (And.intro htake (And.intro hgr hhs))))
        clear hblk hsz htake hgr hhs
        go_wp2_with fail
        go_ret
        refine ⟨ret_int (by omega), own_blk R.out.1 _ R0.out.2.2 _ (inMarks_len K l.length).symm hc hcm R.out.2.1 (by rw [R.out.2.2.1, List.take_of_length_le (by rw [inMarks_len]; exact Nat.le_refl _)]), R.out.2.2.2.1, R.out.2.2.2.2⟩
set_option maxHeartbeats 1000000 in
theorem heldIntS_c (A : Option Addr) (c n : Nat) (K : Int) (hK : 0 ≤ K) (hK2 : K ≤ 100000000) (w : World) (h : Rd inE w w.heap.size A (inMarks K n)) (hl : n ≤ 10000000) :
    Calls Try.prog 45 #[.slice A n c, .int .i64 K] w fun e w' => e = .returned (.int .i64 (K + 1 * (n : Int))) ∧ w = w' := by
  have H := Lib.hid h
  clear h
  go_enter Try.func45, Try.ntmps45
  go_wp2_with fail
  go_loop [1, 5] (fun kv i => ∃ k : Nat, k ≤ n ∧ i = .int .i64 k ∧ kv = .int .i64 (K + (k : Int))) (fun _ i => n - (intOf i).toNat)
  case atStart => exact ⟨0, by omega, rfl, by simp⟩
  case round =>
    obtain ⟨k, hk, rfl, rfl⟩ := hrel
    by_cases hlt : k < n
    · obtain ⟨b, o, rfl, hb, c0⟩ := H.out.int (k := k) (by rw [inMarks_len]; exact hlt)
      rw [inMarks_at] at c0
      go_wp2_with fail
      go_round
      case rel => exact ⟨k + 1, by omega, by go_num, by go_num⟩
      case measure => simp [intOf]; omega
    · have e : k = n := by omega
      subst e
      go_wp2_with fail
      go_ret
      exact ⟨ret_int (by omega), rfl⟩
end Go.Proofs.Ytbbnibjnjmmmnaa
