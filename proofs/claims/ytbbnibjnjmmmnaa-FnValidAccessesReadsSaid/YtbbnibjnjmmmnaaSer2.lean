/-
  Serial orders: the contract of the program's function.
-/
import Derived.Test.YtbbnibjnjmmmnaaSer
namespace Go.Proofs.Ytbbnibjnjmmmnaa
open Go.RowKit

theorem bh_no {h : List Acc} {out : List Int} {t k : Nat} (hb : bh h out t k = false) (h2 : (lf h out k && folS h k t) = false) : bh h out t (k + 1) = false := by rw [bh, hb, h2]; rfl
theorem bh_yes {h : List Acc} {out : List Int} {t k : Nat} (hk : k < 4) (h2 : (lf h out k && folS h k t) = true) : bh h out t 4 = true := by
  rcases (by omega : k = 0 ∨ k = 1 ∨ k = 2 ∨ k = 3) with rfl | rfl | rfl | rfl <;> simp [bh, h2]
set_option maxRecDepth 100000 in
set_option maxHeartbeats 4000000 in
theorem isBehind_c (h : List Acc) (out : List Int) (t : Nat) (ht : t < 4) (w : World) :
    Calls Try.prog 66 #[.agg #[.int .i64 (bit4 (folS h 0)), .int .i64 (bit4 (folS h 1)), .int .i64 (bit4 (folS h 2)), .int .i64 (bit4 (folS h 3))], .int .i64 (bit4 (lf h out)), .int .i64 t] w fun e w' => e = .returned (.bool (bh h out t 4)) ∧ Below w.heap.size w w' := by
  go_enter Try.func66, Try.ntmps66
  go_wp2_with fail
  generalize hw3 : World.alloc w _ = w3
  have hb3 : Blk w3 w.heap.size 72 (behC (folS h)) ∧ Below w.heap.size w w3 := by
    subst hw3; exact ⟨Blk.new _ _ _, (Below.refl _ _).alloc (Nat.le_refl _) _⟩
  have B3 := Lib.hid hb3
  clear hw3 hb3
  go_loopw [8] (fun i wr => ∃ k : Nat, k ≤ 4 ∧ i = .int .i64 k ∧ Hid (bh h out t k = false) ∧ Blk wr w.heap.size 72 (behC (folS h)) ∧ Below w.heap.size w wr) (fun i _ => 4 - (intOf i).toNat)
  case atStart => exact ⟨0, by omega, rfl, Lib.hid rfl, B3.out.1, B3.out.2⟩
  case round =>
    obtain ⟨k, hk, rfl, hno, hblk, hbel⟩ := hrel
    have R := Lib.hid (And.intro hblk hbel)
    by_cases hlt : k < 4
    · have z0 := (cell_of_row _ _ k _ _ _ hblk).trans (behC_at (folS h) k hlt)
      clear hblk hbel
      obtain ⟨t1, t2⟩ := test_pw (lf h out) hlt
      obtain ⟨t3, t4⟩ := test_pw (folS h k) ht
      have hc : lf h out k = false ∨ (lf h out k = true ∧ folS h k t = false) ∨ (lf h out k = true ∧ folS h k t = true) := by
        cases lf h out k <;> cases folS h k t <;> simp
      rcases hc with e1 | ⟨e1, e2⟩ | ⟨e1, e2⟩
      · rw [e1] at t1 t2
        have F := Lib.hid (bh_no hno.out (by rw [e1]; rfl))
        clear e1
        go_wp2_with fail
        go_quiet (fail)
        go_wp2_with fail
        go_roundw
        case rel => exact ⟨k + 1, by omega, by go_num, F, R.out.1, below_drewN R.out.2 _⟩
        case measure => simp [intOf]; omega
      · rw [e1] at t1 t2
        rw [e2] at t3 t4
        have F := Lib.hid (bh_no hno.out (by rw [e1, e2]; rfl))
        clear e1 e2
        go_wp2_with fail
        go_quiet (fail)
        go_wp2_with fail
        go_roundw
        case rel => exact ⟨k + 1, by omega, by go_num, F, R.out.1, below_drewN R.out.2 _⟩
        case measure => simp [intOf]; omega
      · rw [e1] at t1 t2
        rw [e2] at t3 t4
        have F := Lib.hid (bh_yes hlt (by rw [e1, e2]; rfl))
        clear e1 e2
        go_wp2_with fail
        go_quiet (fail)
        go_wp2_with fail
        go_ret
        exact ⟨ret_bool F.out.symm, below_drewN R.out.2 _⟩
    · have e : k = 4 := by omega
      subst e
      clear hblk hbel
      go_wp2_with fail
      go_ret
      exact ⟨ret_bool hno.out.symm, R.out.2⟩
end Go.Proofs.Ytbbnibjnjmmmnaa
