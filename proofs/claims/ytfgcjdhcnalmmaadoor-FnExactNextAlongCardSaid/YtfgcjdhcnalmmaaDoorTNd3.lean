/-
  Nodes: the marks that the laws lay in them and look for.
-/
import Derived.Test.YtfgcjdhcnalmmaaDoorTNd
import Derived.Test.YtfgcjdhcnalmmaaDoorDr
import Derived.Test.YtfgcjdhcnalmmaaDoorMem5
import Derived.Laws.BytesArg
import Derived.Deep.RegionLaw
namespace Go.Proofs.YtfgcjdhcnalmmaaDoor
open Go.RowKit

/-- the digits of a number ahead of a text -/
def mtN : Nat → Nat → ByteArray → ByteArray
  | 0, _, s => s
  | f + 1, k, s => if k = 0 then s else mtN f (k / 10) (strOfNums [48 + (k : Int) % 10] ++ s)
theorem strOfNums_one (x : Int) : (strOfNums [x]).size = 1 := rfl
theorem mtN_size : ∀ (f k : Nat) (s : ByteArray), (mtN f k s).size ≤ s.size + f
  | 0, _, _ => Nat.le_refl _
  | f + 1, k, s => by
    rw [mtN]
    split
    · omega
    · have h := mtN_size f (k / 10) (strOfNums [48 + (k : Int) % 10] ++ s)
      rw [ByteArray.size_append, strOfNums_one] at h
      omega
def mt (K : Int) : ByteArray := ⟨#[109]⟩ ++ mtN 10 K.toNat ⟨#[]⟩
theorem mt_size (K : Int) : (mt K).size ≤ 11 := by
  unfold mt
  have h := mtN_size 10 K.toNat ⟨#[]⟩
  rw [ByteArray.size_append]
  have e1 : (⟨#[109]⟩ : ByteArray).size = 1 := rfl
  have e2 : (⟨#[]⟩ : ByteArray).size = 0 := rfl
  omega

set_option maxRecDepth 100000 in
set_option maxHeartbeats 1000000 in
theorem markText_c (K : Int) (h0 : 0 < K) (h1 : K ≤ 200000000) (w : World) :
    Calls Tryd.prog 74 #[.int .i64 K] w fun e w' => e = .returned (.string (mt K)) ∧ Below w.heap.size w w' := by
  have hle : decide (K ≤ 0) = false := by simp; omega
  have R0 := Lib.hid (show mt K = ⟨#[109]⟩ ++ mtN 10 K.toNat ⟨#[]⟩ from rfl)
  go_enter Tryd.func74, Tryd.ntmps74
  go_wp2_with fail
  go_loopw [0, 3] (fun kv sv wr => ∃ (f k : Nat) (s : ByteArray), kv = .int .i64 k ∧ sv = .string s ∧ s.size + f ≤ 10 ∧ k ≤ 200000000 ∧ Hid (k < 10 ^ f ∧ mtN f k s = mtN 10 K.toNat ⟨#[]⟩) ∧ Below w.heap.size w wr) (fun kv _ _ => (intOf kv).toNat)
  case atStart => exact ⟨10, K.toNat, ⟨#[]⟩, by congr 1; omega, rfl, by decide, by omega, Lib.hid ⟨by omega, rfl⟩, Below.refl _ _⟩
  case round =>
    obtain ⟨f, k, s, rfl, rfl, hs, hk, hm, hbel⟩ := hrel
    have R := Lib.hid hbel
    clear hbel
    by_cases hz : 0 < k
    · obtain ⟨f, rfl⟩ : ∃ g, f = g + 1 := by
        cases f with
        | zero => have := hm.out.1; simp at this; omega
        | succ g => exact ⟨g, rfl⟩
      have F := Lib.hid (show k / 10 < 10 ^ f ∧ mtN f (k / 10) (strOfNums [48 + (k : Int) % 10] ++ s) = mtN 10 K.toNat ⟨#[]⟩ by
        have h2 := hm.out
        rw [mtN, if_neg (by omega)] at h2
        exact ⟨by rw [Nat.pow_succ] at h2; omega, h2.2⟩)
      have hsz : (strOfNums [48 + (k : Int) % 10] ++ s).size + f ≤ 10 := by rw [ByteArray.size_append, strOfNums_one]; omega
      have hq : (strOfNums [48 + (k : Int) % 10]).size + s.size ≤ 9223372036854775807 := by rw [strOfNums_one]; omega
      have hr0 : 0 ≤ (k : Int) % 10 := by omega
      have hr1 : (k : Int) % 10 ≤ 9 := by omega
      have hcv := run_convert_bytes_arg (P := Tryd.prog) (wr.alloc (.cells #[.int .u8 (48 + (k : Int) % 10)] 5)) 98 5 Tryd.underlying98 Tryd.underlying5 wr.heap.size 0 1 1 [48 + (k : Int) % 10] rfl (fun i hi => by
        obtain rfl : i = 0 := by omega
        rw [cell_of_row _ _ _ _ _ _ (heap_alloc_new wr _)]; rfl) 9 Tryd.underlying9
      go_wp2_with fail
      go_roundw
      case rel => exact ⟨f, k / 10, strOfNums [48 + (k : Int) % 10] ++ s, by go_num, rfl, hsz, by omega, F, R.out.alloc R.out.size _⟩
      case measure => simp [intOf]; omega
    · have F := Lib.hid (show ⟨#[109]⟩ ++ s = mt K by
        rw [R0.out, ← hm.out.2]
        obtain rfl : k = 0 := by omega
        cases f <;> rfl)
      go_wp2_with fail
      go_ret
      exact ⟨by rw [← F.out]; rfl, R.out⟩

def ndMk (K : Int) : Nd := ⟨K, mt (K + 1), K + 1 + 1, by have := mt_size (K + 1); unfold maxLen; omega⟩
def ndMarks (K : Int) (n : Nat) : List Nd := (List.range n).map fun (i : Nat) => ndMk (K + 3 * (i : Int))
theorem ndMarks_len (K : Int) (n : Nat) : (ndMarks K n).length = n := by simp [ndMarks]
theorem ndMarks_at (K : Int) (n k : Nat) (h : k < (ndMarks K n).length) : (ndMarks K n)[k] = ndMk (K + 3 * (k : Int)) := by simp [ndMarks]

set_option maxRecDepth 100000 in
set_option maxHeartbeats 1000000 in
theorem markNodeS_c (v : Value) (l : List Nd) (base : Nat) (K : Int) (hK : 0 ≤ K) (hK2 : K ≤ 100000000) (w : World) (h : Own ndE 68 w base v l) (hl : l.length ≤ 10000000) :
    Calls Tryd.prog 36 #[v, .int .i64 K] w fun e w' => e = .returned (.int .i64 (K + 3 * (l.length : Int))) ∧ Own ndE 68 w' base v (ndMarks K l.length) ∧ w.grownBy w' v.ownBlock := by
  rcases h.block with ⟨rfl, rfl⟩ | ⟨g, c, cs, rfl, hbg, hblk, hc, hcm, hcs, htake⟩
  · clear h
    go_enter Tryd.func36, Tryd.ntmps36
    go_wp2_with fail
    go_loop [1, 5] (fun k i => k = .int .i64 K ∧ i = .int .i64 0) (fun _ _ => 0)
    case atStart => exact ⟨rfl, rfl⟩
    case round =>
      obtain ⟨rfl, rfl⟩ := hrel
      go_wp2_with fail
      go_ret
      exact ⟨by simp, Own.nil, World.grownBy.refl w _⟩
  · have R0 := Lib.hid (And.intro hblk (And.intro hcs hbg))
    clear h htake hblk hcs
    go_enter Tryd.func36, Tryd.ntmps36
    go_wp2_with fail
    go_loopw [1, 5] (fun kv i wr => ∃ (k : Nat) (cs' : Array Value), k ≤ l.length ∧ i = .int .i64 k ∧ kv = .int .i64 (K + 3 * (k : Int)) ∧ Blk wr g 68 cs' ∧ cs'.size = c * ndE.sz ∧ cs'.toList.take (k * ndE.sz) = ndE.flat ((ndMarks K l.length).take k) ∧ w.grownBy wr (some g))
      (fun _ i _ => l.length - (intOf i).toNat)
    case atStart => exact ⟨0, cs, by omega, rfl, by simp, R0.out.1, R0.out.2.1, by simp [Enc.flat], World.grownBy.refl w _⟩
    case round =>
      obtain ⟨k, cs', hk, rfl, rfl, hblk, hsz, htake, hgr⟩ := hrel
      by_cases hlt : k < l.length
      · have hsz3 : cs'.size = c * 3 := hsz
        obtain ⟨u0, d0⟩ := hblk.cell (k * 3) (by omega)
        have f0 := hblk.free (k * 3)
        have hgl := hblk.lt
        have R := Lib.hid (And.intro hblk (And.intro hsz (And.intro htake hgr)))
        have HS := Lib.hid hsz3
        clear hblk hsz htake hgr hsz3
        go_wp2_with fail
        refine (markText_c (K + 3 * (k : Int) + 1) (by omega) (by omega) _).mono ?_
        rintro e w1 ⟨rfl, hb1⟩
        have hblk1 := (R.out.1.set (k * 3) (.int .i64 (K + 3 * (k : Int)))).grow hb1
        obtain ⟨u1, d1⟩ := hblk1.cell (k * 3 + 1) (by rw [Array.size_setIfInBounds, HS.out]; omega)
        obtain ⟨u2, d2⟩ := hblk1.cell (k * 3 + 2) (by rw [Array.size_setIfInBounds, HS.out]; omega)
        have f1 := hblk1.free (k * 3 + 1)
        have f2 := hblk1.free (k * 3 + 2)
        have R1 := Lib.hid (And.intro hblk1 (grown_below (only_set (i := k * 3) (v := .int .i64 (K + 3 * (k : Int))) R.out.2.2.2) hb1))
        clear hblk1 hb1
        go_wp2_with fail
        go_roundw
        case rel =>
          have F := mark_step cs' (ndMarks K l.length) k c (by rw [ndMarks_len]; exact hlt) (by omega) R.out.2.1 R.out.2.2.1
          rw [ndMarks_at] at F
          exact ⟨k + 1, _, by omega, by go_num, by go_num, (R1.out.1.set (k * 3 + 1) _).set (k * 3 + 2) _, F.1, F.2, only_set (only_set R1.out.2)⟩
        case measure => simp [intOf]; omega
      · have e : k = l.length := by omega
        subst e
        have R := Lib.hid (And.intro hblk (And.intro hsz (And.intro htake hgr)))
        clear hblk hsz htake hgr
        go_wp2_with fail
        go_ret
        refine ⟨rfl, own_blk R.out.1 _ R0.out.2.2 _ (ndMarks_len K l.length).symm hc hcm R.out.2.1 (by rw [R.out.2.2.1, List.take_of_length_le (by rw [ndMarks_len]; exact Nat.le_refl _)]), R.out.2.2.2⟩
end Go.Proofs.YtfgcjdhcnalmmaaDoor
