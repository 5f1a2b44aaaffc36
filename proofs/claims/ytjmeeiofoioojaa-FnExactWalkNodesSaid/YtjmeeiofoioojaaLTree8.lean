/-
  The law that the program's WalkNodes answers as the reference's does.
-/
import Derived.Test.YtjmeeiofoioojaaTr10
import Derived.Test.YtjmeeiofoioojaaTNd2
import Derived.Test.YtjmeeiofoioojaaTNd3
namespace Go.Proofs.Ytjmeeiofoioojaa
open Go.RowKit

set_option maxHeartbeats 4000000 in
theorem FnExactWalkNodes_c (A0 : Option Addr) (c0 : Nat) (l0 : List Nd) (a1 : Int) (_hw1 : (Lit.int .i64 a1).wf = true) (w : World) (h0 : Rd ndE w w.heap.size A0 l0) (hl0 : l0.length ≤ c0 ∧ c0 ≤ maxLen) :
    Calls Try.prog 13 #[.slice A0 l0.length c0, .int .i64 a1] w fun e w' => e = .returned (.bool true) ∧ Below w.heap.size w w' := by
  have resB0 := walkF_len l0 a1
  have resB : (walkF l0 a1).length ≤ 1048576 := by omega
  clear resB0
  have hm0 : l0.length ≤ maxLen := by omega
  have H0 := Lib.hid h0
  have M0 := Lib.hid hm0
  clear h0 hl0 hm0
  have B0 : Below w.heap.size w w := Below.refl _ _
  by_cases hq0 : 1048576 < (szNd l0 : Int)
  · go_enter Try.func13, Try.ntmps13
    go_wp2_with fail
    refine (szNodeS_c A0 c0 l0 (1048576) (by omega) (by omega) M0.out _ H0.out).mono ?_
    rintro e w1 ⟨rfl, hb⟩
    have BS0 := Lib.hid hb
    clear hb
    rw [if_pos (by omega)]
    go_wp2_with fail
    go_ret
    exact ⟨rfl, BS0.out⟩
  have hs0 : l0.length ≤ 1048576 := by have := szNd_le l0; omega
  go_enter Try.func13, Try.ntmps13
  go_wp2_with fail
  refine (szNodeS_c A0 c0 l0 (1048576) (by omega) (by omega) M0.out _ H0.out).mono ?_
  rintro e w1 ⟨rfl, hb⟩
  have BS0 := Lib.hid hb
  clear hb
  rw [if_neg (by omega)]
  have BH0 := Lib.hid (B0.trans BS0.out)
  clear B0
  go_wp2_with fail
  refine (toNodeS_c A0 c0 l0 _ (H0.out.grow BH0.out) hs0).mono ?_
  rintro e W1 ⟨v_s0, rfl, ho, hb⟩
  obtain ⟨A_s0, c_s0, rfl, _, _, _⟩ := ho.form
  have L_s0 := Lib.hid ho.lt
  have hsz1 := hb.size
  have Z1 := Lib.hid hsz1
  clear hsz1
  have BH1 := Lib.hid (BH0.out.trans (hb.mono BH0.out.size))
  have Os0_1 := Lib.hid ho
  clear ho hb
  go_wp2_with fail
  refine (spec_WalkNodes_c A_s0 c_s0 l0 a1 _ Os0_1.out.rd.1 hs0 Os0_1.out.rd.2.2.1).mono ?_
  rintro e W2 ⟨v_w0, rfl, ho, hb⟩
  obtain ⟨A_w0, c_w0, rfl, _, _, _⟩ := ho.form
  have L_w0 := Lib.hid ho.lt
  have hsz2 := hb.size
  have Z2 := Lib.hid hsz2
  clear hsz2
  have BH2 := Lib.hid (BH1.out.trans (hb.mono BH1.out.size))
  have Os0_2 := Lib.hid (Os0_1.out.grow hb)
  clear Os0_1
  have Ow0_2 := Lib.hid ho
  clear ho hb
  clear Os0_2 L_s0
  go_wp2_with fail
  refine (toNodeS_c A0 c0 l0 _ (H0.out.grow BH2.out) hs0).mono ?_
  rintro e W3 ⟨v_x0, rfl, ho, hb⟩
  obtain ⟨A_x0, c_x0, rfl, _, _, _⟩ := ho.form
  have L_x0 := Lib.hid ho.lt
  have hsz3 := hb.size
  have Z3 := Lib.hid hsz3
  clear hsz3
  have BH3 := Lib.hid (BH2.out.trans (hb.mono BH2.out.size))
  have Ow0_3 := Lib.hid (Ow0_2.out.grow hb)
  clear Ow0_2
  have Ox0_3 := Lib.hid ho
  clear ho hb
  go_wp2_with fail
  refine (impl_WalkNodes_c A_x0 c_x0 l0 a1 _ Ox0_3.out.rd.1 hs0 Ox0_3.out.rd.2.2.1).mono ?_
  rintro e W4 ⟨v_g0, rfl, ho, hb⟩
  obtain ⟨A_g0, c_g0, rfl, _, _, _⟩ := ho.form
  have L_g0 := Lib.hid ho.lt
  have hsz4 := hb.size
  have Z4 := Lib.hid hsz4
  clear hsz4
  have BH4 := Lib.hid (BH3.out.trans (hb.mono BH3.out.size))
  have Ow0_4 := Lib.hid (Ow0_3.out.grow hb)
  clear Ow0_3
  have Ox0_4 := Lib.hid (Ox0_3.out.grow hb)
  clear Ox0_3
  have Og0_4 := Lib.hid ho
  clear ho hb
  go_wp2_with fail
  refine (eqIntS_c A_g0 A_w0 c_g0 c_w0 _ _ Og0_4.out.rd.1 Ow0_4.out.rd.1 (by exact resB)).mono ?_
  rintro e W5 ⟨rfl, hb⟩
  have hsz5 := hb.size
  have Z5 := Lib.hid hsz5
  clear hsz5
  have BH5 := Lib.hid (BH4.out.trans (hb.mono BH4.out.size))
  have Ow0_5 := Lib.hid (Ow0_4.out.grow hb)
  clear Ow0_4
  have Ox0_5 := Lib.hid (Ox0_4.out.grow hb)
  clear Ox0_4
  have Og0_5 := Lib.hid (Og0_4.out.grow hb)
  clear Og0_4
  clear hb
  go_wp2_with fail
  refine (toNodeS_c A0 c0 l0 _ (H0.out.grow BH5.out) hs0).mono ?_
  rintro e W6 ⟨v_y0, rfl, ho, hb⟩
  obtain ⟨A_y0, c_y0, rfl, _, _, _⟩ := ho.form
  have L_y0 := Lib.hid ho.lt
  have hsz6 := hb.size
  have Z6 := Lib.hid hsz6
  clear hsz6
  have BH6 := Lib.hid (BH5.out.trans (hb.mono BH5.out.size))
  have Ow0_6 := Lib.hid (Ow0_5.out.grow hb)
  clear Ow0_5
  have Ox0_6 := Lib.hid (Ox0_5.out.grow hb)
  clear Ox0_5
  have Og0_6 := Lib.hid (Og0_5.out.grow hb)
  clear Og0_5
  have Oy0_6 := Lib.hid ho
  clear ho hb
  go_wp2_with fail
  refine (eqNodeS_c A_x0 A_y0 c_x0 c_y0 l0 _ Ox0_6.out.rd.1 Oy0_6.out.rd.1 hs0).mono ?_
  rintro e W7 ⟨rfl, hb⟩
  have hsz7 := hb.size
  have Z7 := Lib.hid hsz7
  clear hsz7
  have BH7 := Lib.hid (BH6.out.trans (hb.mono BH6.out.size))
  have Ow0_7 := Lib.hid (Ow0_6.out.grow hb)
  clear Ow0_6
  have Ox0_7 := Lib.hid (Ox0_6.out.grow hb)
  clear Ox0_6
  have Og0_7 := Lib.hid (Og0_6.out.grow hb)
  clear Og0_6
  have Oy0_7 := Lib.hid (Oy0_6.out.grow hb)
  clear Oy0_6
  clear hb
  clear Oy0_7 L_y0
  go_wp2_with fail
  have hbase : w.heap.size ≤ W2.heap.size := by have := BH0.out.size; have := Z1.out; have := Z2.out; omega
  refine (markNodeS_c _ _ _ (1) (by omega) (by omega) _ (Ox0_7.out.base hbase) (by have := hs0; omega)).mono ?_
  rintro e W8 ⟨rfl, ho, hg⟩
  have hz := hg.size
  have BH8 := Lib.hid (below_own BH7.out (Ox0_7.out.base hbase) hg BH7.out.size)
  have Z8 := Lib.hid hz
  have Ow0_8 := Lib.hid (Ow0_7.out.kept hg (own_ne (fun k hk => (L_w0.out k hk).2) (fun k hk => (L_x0.out k hk).1) (by skip; omega)))
  clear Ow0_7
  have Og0_8 := Lib.hid (Og0_7.out.kept hg (own_ne' (fun k hk => (L_g0.out k hk).1) (fun k hk => (L_x0.out k hk).2) (by skip; omega)))
  clear Og0_7
  have Ox0_8 := Lib.hid ho
  clear ho hg hz Ox0_7 hbase
  go_wp2_with fail
  refine (eqIntS_c A_g0 A_w0 c_g0 c_w0 _ _ Og0_8.out.rd.1 Ow0_8.out.rd.1 (by exact resB)).mono ?_
  rintro e W9 ⟨rfl, hb⟩
  have hsz9 := hb.size
  have Z9 := Lib.hid hsz9
  clear hsz9
  have BH9 := Lib.hid (BH8.out.trans (hb.mono BH8.out.size))
  have Ow0_9 := Lib.hid (Ow0_8.out.grow hb)
  clear Ow0_8
  have Ox0_9 := Lib.hid (Ox0_8.out.grow hb)
  clear Ox0_8
  have Og0_9 := Lib.hid (Og0_8.out.grow hb)
  clear Og0_8
  clear hb
  go_wp2_with fail
  have hbase : w.heap.size ≤ W3.heap.size := by have := BH0.out.size; have := Z1.out; have := Z2.out; have := Z3.out; omega
  refine (markIntS_c _ _ _ (1) (by omega) (by omega) _ (Og0_9.out.base hbase) (by have := resB; omega)).mono ?_
  rintro e W10 ⟨rfl, ho, hg, hz⟩
  have BH10 := Lib.hid (below_own BH9.out (Og0_9.out.base hbase) hg BH9.out.size)
  have Z10 := Lib.hid (Nat.le_of_eq hz.symm)
  have Ow0_10 := Lib.hid (Ow0_9.out.kept hg (own_ne (fun k hk => (L_w0.out k hk).2) (fun k hk => (L_g0.out k hk).1) (by have := Z3.out; omega)))
  clear Ow0_9
  have Ox0_10 := Lib.hid (Ox0_9.out.kept hg (own_ne (fun k hk => (L_x0.out k hk).2) (fun k hk => (L_g0.out k hk).1) (by skip; omega)))
  clear Ox0_9
  have Og0_10 := Lib.hid ho
  clear ho hg hz Og0_9 hbase
  go_wp2_with fail
  refine (heldIntS_c _ _ _ (1) (by omega) (by omega) _ Og0_10.out.rd.1 (by have := resB; omega)).mono ?_
  rintro e w' ⟨rfl, rfl⟩
  go_wp2_with fail
  refine (toNodeS_c A0 c0 l0 _ (H0.out.grow BH10.out) hs0).mono ?_
  rintro e W11 ⟨v_z0, rfl, ho, hb⟩
  obtain ⟨A_z0, c_z0, rfl, _, _, _⟩ := ho.form
  have L_z0 := Lib.hid ho.lt
  have hsz11 := hb.size
  have Z11 := Lib.hid hsz11
  clear hsz11
  have BH11 := Lib.hid (BH10.out.trans (hb.mono BH10.out.size))
  have Ow0_11 := Lib.hid (Ow0_10.out.grow hb)
  clear Ow0_10
  have Ox0_11 := Lib.hid (Ox0_10.out.grow hb)
  clear Ox0_10
  have Og0_11 := Lib.hid (Og0_10.out.grow hb)
  clear Og0_10
  have Oz0_11 := Lib.hid ho
  clear ho hb
  go_wp2_with fail
  refine (impl_WalkNodes_c A_z0 c_z0 l0 a1 _ Oz0_11.out.rd.1 hs0 Oz0_11.out.rd.2.2.1).mono ?_
  rintro e W12 ⟨v_h0, rfl, ho, hb⟩
  obtain ⟨A_h0, c_h0, rfl, _, _, _⟩ := ho.form
  have L_h0 := Lib.hid ho.lt
  have hsz12 := hb.size
  have Z12 := Lib.hid hsz12
  clear hsz12
  have BH12 := Lib.hid (BH11.out.trans (hb.mono BH11.out.size))
  have Ow0_12 := Lib.hid (Ow0_11.out.grow hb)
  clear Ow0_11
  have Ox0_12 := Lib.hid (Ox0_11.out.grow hb)
  clear Ox0_11
  have Og0_12 := Lib.hid (Og0_11.out.grow hb)
  clear Og0_11
  have Oz0_12 := Lib.hid (Oz0_11.out.grow hb)
  clear Oz0_11
  have Oh0_12 := Lib.hid ho
  clear ho hb
  go_wp2_with fail
  refine (eqIntS_c A_h0 A_w0 c_h0 c_w0 _ _ Oh0_12.out.rd.1 Ow0_12.out.rd.1 (by exact resB)).mono ?_
  rintro e W13 ⟨rfl, hb⟩
  have hsz13 := hb.size
  have Z13 := Lib.hid hsz13
  clear hsz13
  have BH13 := Lib.hid (BH12.out.trans (hb.mono BH12.out.size))
  have Ow0_13 := Lib.hid (Ow0_12.out.grow hb)
  clear Ow0_12
  have Ox0_13 := Lib.hid (Ox0_12.out.grow hb)
  clear Ox0_12
  have Og0_13 := Lib.hid (Og0_12.out.grow hb)
  clear Og0_12
  have Oz0_13 := Lib.hid (Oz0_12.out.grow hb)
  clear Oz0_12
  have Oh0_13 := Lib.hid (Oh0_12.out.grow hb)
  clear Oh0_12
  clear hb
  go_wp2_with fail
  refine (heldIntS_c _ _ _ (1) (by omega) (by omega) _ Og0_13.out.rd.1 (by have := resB; omega)).mono ?_
  rintro e w' ⟨rfl, rfl⟩
  go_wp2_with fail
  go_ret
  exact ⟨rfl, BH13.out⟩
end Go.Proofs.Ytjmeeiofoioojaa
