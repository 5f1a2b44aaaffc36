/-
  The law that the program's AsksOf answers as the reference's does.
-/
import Derived.Test.YteoeojbeaehdpaaDoorAsk2
namespace Go.Proofs.YteoeojbeaehdpaaDoor
open Go.RowKit

set_option maxHeartbeats 4000000 in
theorem FnExactAsksOf_c (A0 : Option Addr) (c0 : Nat) (l0 : List Lk) (A1 : Option Addr) (c1 : Nat) (l1 : List Lk) (w : World) (h0 : Rd lkE w w.heap.size A0 l0) (hl0 : l0.length ≤ c0 ∧ c0 ≤ maxLen) (h1 : Rd lkE w w.heap.size A1 l1) (hl1 : l1.length ≤ c1 ∧ c1 ≤ maxLen) (hj : JTab w) (ht : TTab w) :
    Calls Tryd.prog 8 #[.slice A0 l0.length c0, .slice A1 l1.length c1] w fun e w' => e = .returned (.bool true) ∧ Below w.heap.size w w' := by
  have HT := Lib.hid ht
  have HJ := Lib.hid hj
  clear ht hj
  have resB : (asksF l0 l1).length ≤ 1048576 := by
    unfold asksF
    split
    · rename_i hv; have := (asksOk_iff.1 hv).2.2.2; omega
    · simp
  have hm0 : l0.length ≤ maxLen := by omega
  have hm1 : l1.length ≤ maxLen := by omega
  have H0 := Lib.hid h0
  have M0 := Lib.hid hm0
  have H1 := Lib.hid h1
  have M1 := Lib.hid hm1
  clear h0 hl0 hm0 h1 hl1 hm1
  have B0 : Below w.heap.size w w := Below.refl _ _
  by_cases hq0 : 1048576 < (l0.length : Int)
  · go_enter Tryd.func8, Tryd.ntmps8
    go_wp2_with fail
    refine (szLockS_c A0 c0 l0.length (1048576) (by omega) (by omega) M0.out _).mono ?_
    rintro e w1 ⟨rfl, rfl⟩
    rw [if_pos (by omega)]
    go_wp2_with fail
    go_ret
    exact ⟨rfl, Below.refl _ _⟩
  by_cases hq1 : 1048576 - (l0.length : Int) < (l1.length : Int)
  · go_enter Tryd.func8, Tryd.ntmps8
    go_wp2_with fail
    refine (szLockS_c A0 c0 l0.length (1048576) (by omega) (by omega) M0.out _).mono ?_
    rintro e w1 ⟨rfl, rfl⟩
    rw [if_neg (by omega)]
    go_wp2_with fail
    refine (szLockS_c A1 c1 l1.length (1048576 - (l0.length : Int)) (by omega) (by omega) M1.out _).mono ?_
    rintro e w1 ⟨rfl, rfl⟩
    rw [if_pos (by omega)]
    go_wp2_with fail
    go_ret
    exact ⟨rfl, Below.refl _ _⟩
  have hs0 : l0.length ≤ 1048576 := by omega
  have hs1 : l1.length ≤ 1048576 := by omega
  go_enter Tryd.func8, Tryd.ntmps8
  go_wp2_with fail
  refine (szLockS_c A0 c0 l0.length (1048576) (by omega) (by omega) M0.out _).mono ?_
  rintro e w1 ⟨rfl, rfl⟩
  rw [if_neg (by omega)]
  go_wp2_with fail
  refine (szLockS_c A1 c1 l1.length (1048576 - (l0.length : Int)) (by omega) (by omega) M1.out _).mono ?_
  rintro e w1 ⟨rfl, rfl⟩
  rw [if_neg (by omega)]
  have BH0 := Lib.hid B0
  clear B0
  go_wp2_with fail
  refine (toLockS_c A0 c0 l0 _ (H0.out.grow BH0.out) hs0).mono ?_
  rintro e W1 ⟨v_s0, rfl, ho, hb⟩
  obtain ⟨A_s0, c_s0, rfl, _, _, _⟩ := ho.form
  have L_s0 := Lib.hid ho.lt
  have hsz1 := hb.size
  have Z1 := Lib.hid hsz1
  clear hsz1
  have BH1 := Lib.hid (BH0.out.trans (hb.mono BH0.out.size))
  have Os0_1 := Lib.hid ho
  clear ho hb
  go_wp2_with fail
  refine (toLockS_c A1 c1 l1 _ (H1.out.grow BH1.out) hs1).mono ?_
  rintro e W2 ⟨v_s1, rfl, ho, hb⟩
  obtain ⟨A_s1, c_s1, rfl, _, _, _⟩ := ho.form
  have L_s1 := Lib.hid ho.lt
  have hsz2 := hb.size
  have Z2 := Lib.hid hsz2
  clear hsz2
  have BH2 := Lib.hid (BH1.out.trans (hb.mono BH1.out.size))
  have Os0_2 := Lib.hid (Os0_1.out.grow hb)
  clear Os0_1
  have Os1_2 := Lib.hid ho
  clear ho hb
  go_wp2_with fail
  refine (spec_AsksOf_c A_s0 c_s0 l0 A_s1 c_s1 l1 _ Os0_2.out.rd.1 Os1_2.out.rd.1 hs0 hs1).mono ?_
  rintro e W3 ⟨v_w0, rfl, ho, hb⟩
  obtain ⟨A_w0, c_w0, rfl, _, _, _⟩ := ho.form
  have L_w0 := Lib.hid ho.lt
  have hsz3 := hb.size
  have Z3 := Lib.hid hsz3
  clear hsz3
  have BH3 := Lib.hid (BH2.out.trans (hb.mono BH2.out.size))
  have Os0_3 := Lib.hid (Os0_2.out.grow hb)
  clear Os0_2
  have Os1_3 := Lib.hid (Os1_2.out.grow hb)
  clear Os1_2
  have Ow0_3 := Lib.hid ho
  clear ho hb
  clear Os0_3 L_s0
  clear Os1_3 L_s1
  go_wp2_with fail
  refine (toLockS_c A0 c0 l0 _ (H0.out.grow BH3.out) hs0).mono ?_
  rintro e W4 ⟨v_x0, rfl, ho, hb⟩
  obtain ⟨A_x0, c_x0, rfl, _, _, _⟩ := ho.form
  have L_x0 := Lib.hid ho.lt
  have hsz4 := hb.size
  have Z4 := Lib.hid hsz4
  clear hsz4
  have BH4 := Lib.hid (BH3.out.trans (hb.mono BH3.out.size))
  have Ow0_4 := Lib.hid (Ow0_3.out.grow hb)
  clear Ow0_3
  have Ox0_4 := Lib.hid ho
  clear ho hb
  go_wp2_with fail
  refine (toLockS_c A1 c1 l1 _ (H1.out.grow BH4.out) hs1).mono ?_
  rintro e W5 ⟨v_x1, rfl, ho, hb⟩
  obtain ⟨A_x1, c_x1, rfl, _, _, _⟩ := ho.form
  have L_x1 := Lib.hid ho.lt
  have hsz5 := hb.size
  have Z5 := Lib.hid hsz5
  clear hsz5
  have BH5 := Lib.hid (BH4.out.trans (hb.mono BH4.out.size))
  have Ow0_5 := Lib.hid (Ow0_4.out.grow hb)
  clear Ow0_4
  have Ox0_5 := Lib.hid (Ox0_4.out.grow hb)
  clear Ox0_4
  have Ox1_5 := Lib.hid ho
  clear ho hb
  go_wp2_with fail
  refine (impl_AsksOf_c A_x0 c_x0 l0 A_x1 c_x1 l1 _ Ox0_5.out.rd.1 Ox1_5.out.rd.1 hs0 hs1 Ox0_5.out.rd.2.2.1 (HT.out.below BH5.out) (HJ.out.below BH5.out)).mono ?_
  rintro e W6 ⟨v_g0, rfl, ho, hb⟩
  obtain ⟨A_g0, c_g0, rfl, _, _, _⟩ := ho.form
  have L_g0 := Lib.hid ho.lt
  have hsz6 := hb.size
  have Z6 := Lib.hid hsz6
  clear hsz6
  have BH6 := Lib.hid (BH5.out.trans (hb.mono BH5.out.size))
  have Ow0_6 := Lib.hid (Ow0_5.out.grow hb)
  clear Ow0_5
  have Ox0_6 := Lib.hid (Ox0_5.out.grow hb)
  clear Ox0_5
  have Ox1_6 := Lib.hid (Ox1_5.out.grow hb)
  clear Ox1_5
  have Og0_6 := Lib.hid ho
  clear ho hb
  go_wp2_with fail
  refine (eqWaitS_c A_g0 A_w0 c_g0 c_w0 _ _ Og0_6.out.rd.1 Ow0_6.out.rd.1 (by exact resB)).mono ?_
  rintro e W7 ⟨rfl, hb⟩
  have hsz7 := hb.size
  have Z7 := Lib.hid hsz7
  clear hsz7
  have BH7 := Lib.hid (BH6.out.trans (hb.mono BH6.out.size))
  have Ow0_7 := Lib.hid (Ow0_6.out.grow hb)
  clear Ow0_6
  have Ox0_7 := Lib.hid (Ox0_6.out.grow hb)
  clear Ox0_6
  have Ox1_7 := Lib.hid (Ox1_6.out.grow hb)
  clear Ox1_6
  have Og0_7 := Lib.hid (Og0_6.out.grow hb)
  clear Og0_6
  clear hb
  go_wp2_with fail
  refine (toLockS_c A0 c0 l0 _ (H0.out.grow BH7.out) hs0).mono ?_
  rintro e W8 ⟨v_y0, rfl, ho, hb⟩
  obtain ⟨A_y0, c_y0, rfl, _, _, _⟩ := ho.form
  have L_y0 := Lib.hid ho.lt
  have hsz8 := hb.size
  have Z8 := Lib.hid hsz8
  clear hsz8
  have BH8 := Lib.hid (BH7.out.trans (hb.mono BH7.out.size))
  have Ow0_8 := Lib.hid (Ow0_7.out.grow hb)
  clear Ow0_7
  have Ox0_8 := Lib.hid (Ox0_7.out.grow hb)
  clear Ox0_7
  have Ox1_8 := Lib.hid (Ox1_7.out.grow hb)
  clear Ox1_7
  have Og0_8 := Lib.hid (Og0_7.out.grow hb)
  clear Og0_7
  have Oy0_8 := Lib.hid ho
  clear ho hb
  go_wp2_with fail
  refine (eqLockS_c A_x0 A_y0 c_x0 c_y0 l0 _ Ox0_8.out.rd.1 Oy0_8.out.rd.1 hs0).mono ?_
  rintro e W9 ⟨rfl, hb⟩
  have hsz9 := hb.size
  have Z9 := Lib.hid hsz9
  clear hsz9
  have BH9 := Lib.hid (BH8.out.trans (hb.mono BH8.out.size))
  have Ow0_9 := Lib.hid (Ow0_8.out.grow hb)
  clear Ow0_8
  have Ox0_9 := Lib.hid (Ox0_8.out.grow hb)
  clear Ox0_8
  have Ox1_9 := Lib.hid (Ox1_8.out.grow hb)
  clear Ox1_8
  have Og0_9 := Lib.hid (Og0_8.out.grow hb)
  clear Og0_8
  have Oy0_9 := Lib.hid (Oy0_8.out.grow hb)
  clear Oy0_8
  clear hb
  clear Oy0_9 L_y0
  go_wp2_with fail
  refine (toLockS_c A1 c1 l1 _ (H1.out.grow BH9.out) hs1).mono ?_
  rintro e W10 ⟨v_y1, rfl, ho, hb⟩
  obtain ⟨A_y1, c_y1, rfl, _, _, _⟩ := ho.form
  have L_y1 := Lib.hid ho.lt
  have hsz10 := hb.size
  have Z10 := Lib.hid hsz10
  clear hsz10
  have BH10 := Lib.hid (BH9.out.trans (hb.mono BH9.out.size))
  have Ow0_10 := Lib.hid (Ow0_9.out.grow hb)
  clear Ow0_9
  have Ox0_10 := Lib.hid (Ox0_9.out.grow hb)
  clear Ox0_9
  have Ox1_10 := Lib.hid (Ox1_9.out.grow hb)
  clear Ox1_9
  have Og0_10 := Lib.hid (Og0_9.out.grow hb)
  clear Og0_9
  have Oy1_10 := Lib.hid ho
  clear ho hb
  go_wp2_with fail
  refine (eqLockS_c A_x1 A_y1 c_x1 c_y1 l1 _ Ox1_10.out.rd.1 Oy1_10.out.rd.1 hs1).mono ?_
  rintro e W11 ⟨rfl, hb⟩
  have hsz11 := hb.size
  have Z11 := Lib.hid hsz11
  clear hsz11
  have BH11 := Lib.hid (BH10.out.trans (hb.mono BH10.out.size))
  have Ow0_11 := Lib.hid (Ow0_10.out.grow hb)
  clear Ow0_10
  have Ox0_11 := Lib.hid (Ox0_10.out.grow hb)
  clear Ox0_10
  have Ox1_11 := Lib.hid (Ox1_10.out.grow hb)
  clear Ox1_10
  have Og0_11 := Lib.hid (Og0_10.out.grow hb)
  clear Og0_10
  have Oy1_11 := Lib.hid (Oy1_10.out.grow hb)
  clear Oy1_10
  clear hb
  clear Oy1_11 L_y1
  go_wp2_with fail
  have hbase : w.heap.size ≤ W3.heap.size := by have := BH0.out.size; have := Z1.out; have := Z2.out; have := Z3.out; omega
  refine (markLockS_c _ _ _ (1) (by omega) (by omega) _ (Ox0_11.out.base hbase) (by have := hs0; omega)).mono ?_
  rintro e W12 ⟨rfl, ho, hg, hz⟩
  have BH12 := Lib.hid (below_own BH11.out (Ox0_11.out.base hbase) hg BH11.out.size)
  have Z12 := Lib.hid (Nat.le_of_eq hz.symm)
  have Ow0_12 := Lib.hid (Ow0_11.out.kept hg (own_ne (fun k hk => (L_w0.out k hk).2) (fun k hk => (L_x0.out k hk).1) (by skip; omega)))
  clear Ow0_11
  have Ox1_12 := Lib.hid (Ox1_11.out.kept hg (own_ne' (fun k hk => (L_x1.out k hk).1) (fun k hk => (L_x0.out k hk).2) (by skip; omega)))
  clear Ox1_11
  have Og0_12 := Lib.hid (Og0_11.out.kept hg (own_ne' (fun k hk => (L_g0.out k hk).1) (fun k hk => (L_x0.out k hk).2) (by have := Z5.out; omega)))
  clear Og0_11
  have Ox0_12 := Lib.hid ho
  clear ho hg hz Ox0_11 hbase
  go_wp2_with fail
  have hbase : w.heap.size ≤ W4.heap.size := by have := BH0.out.size; have := Z1.out; have := Z2.out; have := Z3.out; have := Z4.out; omega
  refine (markLockS_c _ _ _ (1 + 3 * (l0.length : Int)) (by omega) (by omega) _ (Ox1_12.out.base hbase) (by have := hs1; omega)).mono ?_
  rintro e W13 ⟨rfl, ho, hg, hz⟩
  have BH13 := Lib.hid (below_own BH12.out (Ox1_12.out.base hbase) hg BH12.out.size)
  have Z13 := Lib.hid (Nat.le_of_eq hz.symm)
  have Ow0_13 := Lib.hid (Ow0_12.out.kept hg (own_ne (fun k hk => (L_w0.out k hk).2) (fun k hk => (L_x1.out k hk).1) (by have := Z4.out; omega)))
  clear Ow0_12
  have Ox0_13 := Lib.hid (Ox0_12.out.kept hg (own_ne (fun k hk => (L_x0.out k hk).2) (fun k hk => (L_x1.out k hk).1) (by skip; omega)))
  clear Ox0_12
  have Og0_13 := Lib.hid (Og0_12.out.kept hg (own_ne' (fun k hk => (L_g0.out k hk).1) (fun k hk => (L_x1.out k hk).2) (by skip; omega)))
  clear Og0_12
  have Ox1_13 := Lib.hid ho
  clear ho hg hz Ox1_12 hbase
  go_wp2_with fail
  refine (eqWaitS_c A_g0 A_w0 c_g0 c_w0 _ _ Og0_13.out.rd.1 Ow0_13.out.rd.1 (by exact resB)).mono ?_
  rintro e W14 ⟨rfl, hb⟩
  have hsz14 := hb.size
  have Z14 := Lib.hid hsz14
  clear hsz14
  have BH14 := Lib.hid (BH13.out.trans (hb.mono BH13.out.size))
  have Ow0_14 := Lib.hid (Ow0_13.out.grow hb)
  clear Ow0_13
  have Ox0_14 := Lib.hid (Ox0_13.out.grow hb)
  clear Ox0_13
  have Ox1_14 := Lib.hid (Ox1_13.out.grow hb)
  clear Ox1_13
  have Og0_14 := Lib.hid (Og0_13.out.grow hb)
  clear Og0_13
  clear hb
  go_wp2_with fail
  have hbase : w.heap.size ≤ W5.heap.size := by have := BH0.out.size; have := Z1.out; have := Z2.out; have := Z3.out; have := Z4.out; have := Z5.out; omega
  refine (markWaitS_c _ _ _ (1) (by omega) (by omega) _ (Og0_14.out.base hbase) (by have := resB; omega)).mono ?_
  rintro e W15 ⟨rfl, ho, hg, hz⟩
  have BH15 := Lib.hid (below_own BH14.out (Og0_14.out.base hbase) hg BH14.out.size)
  have Z15 := Lib.hid (Nat.le_of_eq hz.symm)
  have Ow0_15 := Lib.hid (Ow0_14.out.kept hg (own_ne (fun k hk => (L_w0.out k hk).2) (fun k hk => (L_g0.out k hk).1) (by have := Z4.out; have := Z5.out; omega)))
  clear Ow0_14
  have Ox0_15 := Lib.hid (Ox0_14.out.kept hg (own_ne (fun k hk => (L_x0.out k hk).2) (fun k hk => (L_g0.out k hk).1) (by have := Z5.out; omega)))
  clear Ox0_14
  have Ox1_15 := Lib.hid (Ox1_14.out.kept hg (own_ne (fun k hk => (L_x1.out k hk).2) (fun k hk => (L_g0.out k hk).1) (by skip; omega)))
  clear Ox1_14
  have Og0_15 := Lib.hid ho
  clear ho hg hz Og0_14 hbase
  go_wp2_with fail
  refine (heldWaitS_c _ _ _ (1) (by omega) (by omega) _ Og0_15.out.rd.1 (by have := resB; omega)).mono ?_
  rintro e w' ⟨rfl, rfl⟩
  go_wp2_with fail
  refine (toLockS_c A0 c0 l0 _ (H0.out.grow BH15.out) hs0).mono ?_
  rintro e W16 ⟨v_z0, rfl, ho, hb⟩
  obtain ⟨A_z0, c_z0, rfl, _, _, _⟩ := ho.form
  have L_z0 := Lib.hid ho.lt
  have hsz16 := hb.size
  have Z16 := Lib.hid hsz16
  clear hsz16
  have BH16 := Lib.hid (BH15.out.trans (hb.mono BH15.out.size))
  have Ow0_16 := Lib.hid (Ow0_15.out.grow hb)
  clear Ow0_15
  have Ox0_16 := Lib.hid (Ox0_15.out.grow hb)
  clear Ox0_15
  have Ox1_16 := Lib.hid (Ox1_15.out.grow hb)
  clear Ox1_15
  have Og0_16 := Lib.hid (Og0_15.out.grow hb)
  clear Og0_15
  have Oz0_16 := Lib.hid ho
  clear ho hb
  go_wp2_with fail
  refine (toLockS_c A1 c1 l1 _ (H1.out.grow BH16.out) hs1).mono ?_
  rintro e W17 ⟨v_z1, rfl, ho, hb⟩
  obtain ⟨A_z1, c_z1, rfl, _, _, _⟩ := ho.form
  have L_z1 := Lib.hid ho.lt
  have hsz17 := hb.size
  have Z17 := Lib.hid hsz17
  clear hsz17
  have BH17 := Lib.hid (BH16.out.trans (hb.mono BH16.out.size))
  have Ow0_17 := Lib.hid (Ow0_16.out.grow hb)
  clear Ow0_16
  have Ox0_17 := Lib.hid (Ox0_16.out.grow hb)
  clear Ox0_16
  have Ox1_17 := Lib.hid (Ox1_16.out.grow hb)
  clear Ox1_16
  have Og0_17 := Lib.hid (Og0_16.out.grow hb)
  clear Og0_16
  have Oz0_17 := Lib.hid (Oz0_16.out.grow hb)
  clear Oz0_16
  have Oz1_17 := Lib.hid ho
  clear ho hb
  go_wp2_with fail
  refine (impl_AsksOf_c A_z0 c_z0 l0 A_z1 c_z1 l1 _ Oz0_17.out.rd.1 Oz1_17.out.rd.1 hs0 hs1 Oz0_17.out.rd.2.2.1 (HT.out.below BH17.out) (HJ.out.below BH17.out)).mono ?_
  rintro e W18 ⟨v_h0, rfl, ho, hb⟩
  obtain ⟨A_h0, c_h0, rfl, _, _, _⟩ := ho.form
  have L_h0 := Lib.hid ho.lt
  have hsz18 := hb.size
  have Z18 := Lib.hid hsz18
  clear hsz18
  have BH18 := Lib.hid (BH17.out.trans (hb.mono BH17.out.size))
  have Ow0_18 := Lib.hid (Ow0_17.out.grow hb)
  clear Ow0_17
  have Ox0_18 := Lib.hid (Ox0_17.out.grow hb)
  clear Ox0_17
  have Ox1_18 := Lib.hid (Ox1_17.out.grow hb)
  clear Ox1_17
  have Og0_18 := Lib.hid (Og0_17.out.grow hb)
  clear Og0_17
  have Oz0_18 := Lib.hid (Oz0_17.out.grow hb)
  clear Oz0_17
  have Oz1_18 := Lib.hid (Oz1_17.out.grow hb)
  clear Oz1_17
  have Oh0_18 := Lib.hid ho
  clear ho hb
  go_wp2_with fail
  refine (eqWaitS_c A_h0 A_w0 c_h0 c_w0 _ _ Oh0_18.out.rd.1 Ow0_18.out.rd.1 (by exact resB)).mono ?_
  rintro e W19 ⟨rfl, hb⟩
  have hsz19 := hb.size
  have Z19 := Lib.hid hsz19
  clear hsz19
  have BH19 := Lib.hid (BH18.out.trans (hb.mono BH18.out.size))
  have Ow0_19 := Lib.hid (Ow0_18.out.grow hb)
  clear Ow0_18
  have Ox0_19 := Lib.hid (Ox0_18.out.grow hb)
  clear Ox0_18
  have Ox1_19 := Lib.hid (Ox1_18.out.grow hb)
  clear Ox1_18
  have Og0_19 := Lib.hid (Og0_18.out.grow hb)
  clear Og0_18
  have Oz0_19 := Lib.hid (Oz0_18.out.grow hb)
  clear Oz0_18
  have Oz1_19 := Lib.hid (Oz1_18.out.grow hb)
  clear Oz1_18
  have Oh0_19 := Lib.hid (Oh0_18.out.grow hb)
  clear Oh0_18
  clear hb
  go_wp2_with fail
  refine (heldWaitS_c _ _ _ (1) (by omega) (by omega) _ Og0_19.out.rd.1 (by have := resB; omega)).mono ?_
  rintro e w' ⟨rfl, rfl⟩
  go_wp2_with fail
  go_ret
  exact ⟨rfl, BH19.out⟩
end Go.Proofs.YteoeojbeaehdpaaDoor
