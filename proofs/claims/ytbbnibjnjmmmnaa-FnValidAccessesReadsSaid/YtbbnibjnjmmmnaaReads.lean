/-
  The law FnValidAccessesReads: accesses that all read have a serial order, and it ascends.
-/
import Derived.Test.YtbbnibjnjmmmnaaLessA
import Derived.Test.YtbbnibjnjmmmnaaPRead
import Derived.Test.YtbbnibjnjmmmnaaSer3
namespace Go.Proofs.Ytbbnibjnjmmmnaa
open Go.RowKit
set_option maxRecDepth 100000 in
set_option maxHeartbeats 1000000 in
theorem FnValidAccessesReads_c (A : Option Addr) (c : Nat) (l : List Int) (w : World) (h : BytesAt w w.heap.size A l) (hl : l.length ≤ c ∧ c ≤ maxLen) :
    Calls Try.prog 10 #[.slice A l.length c] w fun e w' => e = .returned (.bool true) ∧ Below w.heap.size w w' := by
  have hm := hl.2
  unfold maxLen at hm
  have H := Lib.hid (And.intro h hl)
  clear h hl
  by_cases hlong : 1048576 < l.length
  · go_enter Try.func10, Try.ntmps10
    go_wp2
    go_ret
    exact ⟨rfl, Below.refl _ _⟩
  go_enter Try.func10, Try.ntmps10
  go_wp2_with fail
  refine (DrawValidAccesses_c A c l w H.out.1 H.out.2.1).mono ?_
  rintro e w1 ⟨v, ws, rfl, ho, hlen, hb⟩
  obtain ⟨A1, c1, rfl, hc1, hcm1, hr1⟩ := ho.form
  have X := Lib.hid (And.intro hr1 hb)
  clear ho hr1 hb
  go_wp2_with fail
  refine (impl_ValidAccesses_c A1 c1 ws _ X.out.1 (by omega)).mono ?_
  rintro e w2 ⟨rfl, hb⟩
  have Y := Lib.hid (And.intro (X.out.1.grow hb) (X.out.2.trans (hb.mono X.out.2.size)))
  clear hb
  obtain ⟨bv, hbv⟩ : ∃ bv, validAcc ws = bv := ⟨_, rfl⟩
  have HB := Lib.hid hbv
  rw [hbv]
  clear hbv
  go_wp2_with fail
  have hsame : ∀ W, Rd accE W W.heap.size A1 ws → Calls Try.prog 22 #[.slice A1 ws.length c1] W fun e w' => e = .returned (.bool (validAcc ws)) ∧ Below W.heap.size W w' := fun W hR => (spec_ValidAccesses_c A1 c1 ws W hR (by omega)).mono fun e w' h => ⟨h.1, by rw [← h.2]; exact Below.refl _ _⟩
  have SM := Lib.hid hsame
  clear hsame
  refine (SM.out _ Y.out.1).mono ?_
  rintro e w3 ⟨rfl, hb⟩
  have Z := Lib.hid (And.intro (Y.out.1.grow hb) (Y.out.2.trans (hb.mono Y.out.2.size)))
  clear hb
  rw [HB.out]
  have again : ∀ (W : World), Below w.heap.size w W → Rd accE W W.heap.size A1 ws → Calls Try.prog 22 #[.slice A1 ws.length c1] W fun e w' => e = .returned (.bool bv) ∧ Below w.heap.size w w' := fun W hW hR =>
    (SM.out W hR).mono fun e w' h => ⟨by rw [← HB.out]; exact h.1, hW.trans (h.2.mono hW.size)⟩
  have AG := Lib.hid again
  clear again
  cases bv
  · go_wp2_with fail
    refine (AG.out _ Z.out.2 Z.out.1).mono ?_
    rintro e w4 ⟨rfl, hb⟩
    have Q := Lib.hid hb
    clear hb
    go_wp2_with fail
    go_ret
    exact ⟨rfl, Q.out⟩
  have N := Lib.hid (own_new (E := accE) (e := 46) w3 #[] [] w3.heap.size (Nat.le_refl _) (by simp) rfl)
  have B0 := Lib.hid ((Below.refl w3.heap.size w3).alloc (Nat.le_refl _) (.cells #[] 46))
  go_wp2_with fail
  go_loopw [5, 6] (fun ov iv wr => ∃ (k : Nat) (L : List Acc), k ≤ ws.length ∧ iv = .int .i64 k ∧ L.length ≤ 17 ∧ Hid (L = (ws.take k).map readA) ∧ Own accE 46 wr w3.heap.size ov L ∧ Below w3.heap.size w3 wr) (fun _ iv _ => ws.length - (intOf iv).toNat)
  case atStart => exact ⟨0, [], by omega, rfl, by simp, Lib.hid rfl, N.out, B0.out⟩
  case round =>
    obtain ⟨k, L, hk, rfl, hlk, hL, ho, hbel⟩ := hrel
    obtain ⟨Ao, co, rfl, hco, _, hro⟩ := ho.form
    by_cases hlt : k < ws.length
    · obtain ⟨b, o, rfl, hb, c0, c1, c2⟩ := (Z.out.1.below hbel (Nat.le_refl _)).acc hlt
      have R := Lib.hid (And.intro ho hbel)
      clear ho hbel hro
      have S := Lib.hid (show L ++ [readA ws[k]] = (ws.take (k + 1)).map readA by rw [read_snoc hlt, hL.out])
      have S2 : (L ++ [readA ws[k]]).length ≤ 17 := by rw [S.out, List.length_map, List.length_take]; omega
      go_wp2_with fail
      go_region_law (go_loud (refine step_ap1 slAcc rfl (.tmp 36) (.tmp 48) rfl _ _ (readA ws[k]) rfl w3 w3.heap.size _ _ rfl (R.out.1.grow (below_drewN (Below.refl _ _) _)) _ (by simp) rfl (by omega) (below_drewN R.out.2 _) (Nat.le_refl _) ?_); intro v1 w4 ho1 hb1 hg1 hat1; have Q := Lib.hid (And.intro ho1 hb1); clear ho1 hb1 hg1 hat1)
      go_wp2_with fail
      all_goals first
        | (go_roundw; (case rel => exact ⟨k + 1, _, by omega, by go_num, S2, S, Q.out.1, Q.out.2⟩); (case measure => simp [intOf]; omega))
        | (refine ⟨⟨k + 1, _, by omega, by go_num, S2, S, Q.out.1, Q.out.2⟩, ?_⟩; simp [intOf]; omega)
    · obtain rfl : k = ws.length := by omega
      have R := Lib.hid (And.intro hro hbel)
      have LR := Lib.hid (show L = ws.map readA by rw [hL.out, List.take_length])
      clear ho hbel hro
      obtain ⟨O, hO⟩ : ∃ O, serR L = O := ⟨_, rfl⟩
      have HO := Lib.hid hO
      have PW := Lib.hid (show O.Pairwise (· < ·) by rw [← hO, LR.out]; exact read_up ws)
      have HB1 := Lib.hid (show serB L = true by rw [LR.out]; exact read_serB HB.out)
      have HV1 := Lib.hid (show validAcc L = true by rw [LR.out, read_ok]; exact HB.out)
      have hO4 : O.length ≤ 5 := by rw [← hO]; exact serR_len L
      clear hO
      go_wp2_with fail
      refine (impl_SerialOrder_c Ao co L _ R.out.1 (by omega) hco).mono ?_
      rintro e w4 ⟨v, rfl, ho, hb⟩
      rw [HO.out] at ho
      rw [HB1.out]
      obtain ⟨Av, cv, rfl, _, _, hrv⟩ := ho.form
      have Q := Lib.hid (And.intro hrv (And.intro (R.out.1.grow hb) (R.out.2.trans (hb.mono R.out.2.size))))
      clear ho hb hrv
      go_wp2_with fail
      go_loopw [9] (fun iv wr => ∃ m : Nat, iv = .int .i64 ((m : Int) + 1) ∧ m ≤ O.length ∧ Below w4.heap.size w4 wr) (fun iv _ => 6 - (intOf iv).toNat)
      case atStart => exact ⟨0, by go_num, by omega, Below.refl _ _⟩
      case round =>
        obtain ⟨m, rfl, hm2, hbel⟩ := hrel
        by_cases hlt : m + 1 < O.length
        · obtain ⟨b, o, e1, hb, c0⟩ := (Q.out.1.below hbel (Nat.le_refl _)).int hlt
          obtain ⟨b', o', e2, hb', d0⟩ := (Q.out.1.below hbel (Nat.le_refl _)).int (k := m) (by omega)
          subst e1
          cases e2
          have hup : O[m] < O[m + 1] := List.pairwise_iff_getElem.1 PW.out m (m + 1) (by omega) hlt (by omega)
          have hle : decide (O[m + 1] ≤ O[m]) = false := by simp; omega
          have hw1 : ((m : Int) + 1).toNat = m + 1 := by omega
          have hw2 : IntKind.i64.wrap ((m : Int) + 1 - 1) = (m : Int) := by rw [IntKind.wrap_i64]; omega
          have hw3 : (m : Int) + 1 < (O.length : Int) := by omega
          have V := Lib.hid hbel
          clear hbel
          go_wp2_with fail
          go_quiet (fail)
          go_wp2_with fail
          go_roundw
          case rel => exact ⟨m + 1, by go_num, by omega, below_drewN V.out _⟩
          case measure => simp [intOf]; omega
        · have hw3 : ¬ ((m : Int) + 1 < (O.length : Int)) := by omega
          have V := Lib.hid (And.intro (Q.out.2.1.grow hbel) (Q.out.2.2.trans (hbel.mono Q.out.2.2.size)))
          clear hbel
          go_wp2_with fail
          refine (impl_ValidAccesses_c Ao co L _ V.out.1 (by omega)).mono ?_
          rintro e w5 ⟨rfl, hb⟩
          have U := Lib.hid (Z.out.2.trans ((V.out.2.trans (hb.mono V.out.2.size)).mono Z.out.2.size))
          clear hb
          rw [HV1.out]
          go_wp2_with fail
          go_ret
          exact ⟨rfl, U.out⟩
end Go.Proofs.Ytbbnibjnjmmmnaa
