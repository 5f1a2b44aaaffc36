/-
  The law that the program's GoesAlong answers as the reference's does.
-/
import Derived.Test.YtfgcjdhcnalmmaaDoorAl3
import Derived.Test.YtfgcjdhcnalmmaaDoorTNd2
namespace Go.Proofs.YtfgcjdhcnalmmaaDoor
open Go.RowKit

set_option maxHeartbeats 4000000 in
theorem FnExactGoesAlong_c (A0 : Option Addr) (c0 : Nat) (l0 : List Nd) (A1 : Option Addr) (c1 : Nat) (l1 : List Stp) (w : World) (h0 : Rd ndE w w.heap.size A0 l0) (hl0 : l0.length ≤ c0 ∧ c0 ≤ maxLen) (h1 : Rd stpE w w.heap.size A1 l1) (hl1 : l1.length ≤ c1 ∧ c1 ≤ maxLen) (hj : JTab w) (ht : TTab w) :
    Calls Tryd.prog 8 #[.slice A0 l0.length c0, .slice A1 l1.length c1] w fun e w' => e = .returned (.bool true) ∧ Below w.heap.size w w' := by
  have HT := Lib.hid ht
  have HJ := Lib.hid hj
  clear ht hj
  have hm0 : l0.length ≤ maxLen := by omega
  have hm1 : l1.length ≤ maxLen := by omega
  have H0 := Lib.hid h0
  have M0 := Lib.hid hm0
  have H1 := Lib.hid h1
  have M1 := Lib.hid hm1
  clear h0 hl0 hm0 h1 hl1 hm1
  have B0 : Below w.heap.size w w := Below.refl _ _
  by_cases hq0 : 1048576 < (szNd l0 : Int)
  · go_enter Tryd.func8, Tryd.ntmps8
    go_wp2_with fail
    refine (szNodeS_c A0 c0 l0 (1048576) (by omega) (by omega) M0.out _ H0.out).mono ?_
    rintro e w1 ⟨rfl, hb⟩
    have BS0 := Lib.hid hb
    clear hb
    rw [if_pos (by omega)]
    go_wp2_with fail
    go_ret
    exact ⟨rfl, BS0.out⟩
  by_cases hq1 : 1048576 - (szNd l0 : Int) < (l1.length : Int)
  · go_enter Tryd.func8, Tryd.ntmps8
    go_wp2_with fail
    refine (szNodeS_c A0 c0 l0 (1048576) (by omega) (by omega) M0.out _ H0.out).mono ?_
    rintro e w1 ⟨rfl, hb⟩
    have BS0 := Lib.hid hb
    clear hb
    rw [if_neg (by omega)]
    go_wp2_with fail
    refine (szStepS_c A1 c1 l1.length (1048576 - (szNd l0 : Int)) (by omega) (by omega) M1.out _).mono ?_
    rintro e w1 ⟨rfl, rfl⟩
    rw [if_pos (by omega)]
    go_wp2_with fail
    go_ret
    exact ⟨rfl, BS0.out⟩
  have hs0 : l0.length ≤ 1048576 := by have := szNd_le l0; omega
  have hs1 : l1.length ≤ 1048576 := by omega
  go_enter Tryd.func8, Tryd.ntmps8
  go_wp2_with fail
  refine (szNodeS_c A0 c0 l0 (1048576) (by omega) (by omega) M0.out _ H0.out).mono ?_
  rintro e w1 ⟨rfl, hb⟩
  have BS0 := Lib.hid hb
  clear hb
  rw [if_neg (by omega)]
  go_wp2_with fail
  refine (szStepS_c A1 c1 l1.length (1048576 - (szNd l0 : Int)) (by omega) (by omega) M1.out _).mono ?_
  rintro e w1 ⟨rfl, rfl⟩
  rw [if_neg (by omega)]
  have BH0 := Lib.hid (B0.trans BS0.out)
  clear B0
  go_wp2_with fail
  refine (toNodeS_c A0 c0 l0 _ (H0.out.grow BH0.out) hs0).mono ?_
  rintro e W1 ⟨v_s0, rfl, ho, hb⟩
  obtain ⟨A_s0, c_s0, rfl, _, _, _⟩ := ho.form
  have L_s0 := Lib.hid ho.lt
  have hsz1 := hb.size
  have Z1 := Lib.hid hsz1
  clear hsz1
  have BH1 := Lib.hid (BH0.out.trans (hb.mono BH0.out.size))
  have Os0_1 := Lib.hid ho
  clear ho hb
  go_wp2_with fail
  refine (toStepS_c A1 c1 l1 _ (H1.out.grow BH1.out) hs1).mono ?_
  rintro e W2 ⟨v_s1, rfl, ho, hb⟩
  obtain ⟨A_s1, c_s1, rfl, _, _, _⟩ := ho.form
  have L_s1 := Lib.hid ho.lt
  have hsz2 := hb.size
  have Z2 := Lib.hid hsz2
  clear hsz2
  have BH2 := Lib.hid (BH1.out.trans (hb.mono BH1.out.size))
  have Os0_2 := Lib.hid (Os0_1.out.grow hb)
  clear Os0_1
  have Os1_2 := Lib.hid ho
  clear ho hb
  go_wp2_with fail
  refine (spec_GoesAlong_c A_s0 c_s0 l0 A_s1 c_s1 l1 _ Os0_2.out.rd.1 Os1_2.out.rd.1 hs0 hs1 Os0_2.out.rd.2.2.1).mono ?_
  rintro e W3 ⟨rfl, hb⟩
  have hsz3 := hb.size
  have Z3 := Lib.hid hsz3
  clear hsz3
  have BH3 := Lib.hid (BH2.out.trans (hb.mono BH2.out.size))
  have Os0_3 := Lib.hid (Os0_2.out.grow hb)
  clear Os0_2
  have Os1_3 := Lib.hid (Os1_2.out.grow hb)
  clear Os1_2
  clear hb
  clear Os0_3 L_s0
  clear Os1_3 L_s1
  go_wp2_with fail
  refine (toNodeS_c A0 c0 l0 _ (H0.out.grow BH3.out) hs0).mono ?_
  rintro e W4 ⟨v_x0, rfl, ho, hb⟩
  obtain ⟨A_x0, c_x0, rfl, _, _, _⟩ := ho.form
  have L_x0 := Lib.hid ho.lt
  have hsz4 := hb.size
  have Z4 := Lib.hid hsz4
  clear hsz4
  have BH4 := Lib.hid (BH3.out.trans (hb.mono BH3.out.size))
  have Ox0_4 := Lib.hid ho
  clear ho hb
  go_wp2_with fail
  refine (toStepS_c A1 c1 l1 _ (H1.out.grow BH4.out) hs1).mono ?_
  rintro e W5 ⟨v_x1, rfl, ho, hb⟩
  obtain ⟨A_x1, c_x1, rfl, _, _, _⟩ := ho.form
  have L_x1 := Lib.hid ho.lt
  have hsz5 := hb.size
  have Z5 := Lib.hid hsz5
  clear hsz5
  have BH5 := Lib.hid (BH4.out.trans (hb.mono BH4.out.size))
  have Ox0_5 := Lib.hid (Ox0_4.out.grow hb)
  clear Ox0_4
  have Ox1_5 := Lib.hid ho
  clear ho hb
  go_wp2_with fail
  refine (impl_GoesAlong_c A_x0 c_x0 l0 A_x1 c_x1 l1 _ Ox0_5.out.rd.1 Ox1_5.out.rd.1 hs0 hs1 Ox0_5.out.rd.2.2.1 (HT.out.below BH5.out) (HJ.out.below BH5.out)).mono ?_
  rintro e W6 ⟨rfl, hb⟩
  have hsz6 := hb.size
  have Z6 := Lib.hid hsz6
  clear hsz6
  have BH6 := Lib.hid (BH5.out.trans (hb.mono BH5.out.size))
  have Ox0_6 := Lib.hid (Ox0_5.out.grow hb)
  clear Ox0_5
  have Ox1_6 := Lib.hid (Ox1_5.out.grow hb)
  clear Ox1_5
  clear hb
  go_wp2_with fail
  refine (toNodeS_c A0 c0 l0 _ (H0.out.grow BH6.out) hs0).mono ?_
  rintro e W7 ⟨v_y0, rfl, ho, hb⟩
  obtain ⟨A_y0, c_y0, rfl, _, _, _⟩ := ho.form
  have L_y0 := Lib.hid ho.lt
  have hsz7 := hb.size
  have Z7 := Lib.hid hsz7
  clear hsz7
  have BH7 := Lib.hid (BH6.out.trans (hb.mono BH6.out.size))
  have Ox0_7 := Lib.hid (Ox0_6.out.grow hb)
  clear Ox0_6
  have Ox1_7 := Lib.hid (Ox1_6.out.grow hb)
  clear Ox1_6
  have Oy0_7 := Lib.hid ho
  clear ho hb
  go_wp2_with fail
  refine (eqNodeS_c A_x0 A_y0 c_x0 c_y0 l0 _ Ox0_7.out.rd.1 Oy0_7.out.rd.1 hs0).mono ?_
  rintro e W8 ⟨rfl, hb⟩
  have hsz8 := hb.size
  have Z8 := Lib.hid hsz8
  clear hsz8
  have BH8 := Lib.hid (BH7.out.trans (hb.mono BH7.out.size))
  have Ox0_8 := Lib.hid (Ox0_7.out.grow hb)
  clear Ox0_7
  have Ox1_8 := Lib.hid (Ox1_7.out.grow hb)
  clear Ox1_7
  have Oy0_8 := Lib.hid (Oy0_7.out.grow hb)
  clear Oy0_7
  clear hb
  clear Oy0_8 L_y0
  go_wp2_with fail
  refine (toStepS_c A1 c1 l1 _ (H1.out.grow BH8.out) hs1).mono ?_
  rintro e W9 ⟨v_y1, rfl, ho, hb⟩
  obtain ⟨A_y1, c_y1, rfl, _, _, _⟩ := ho.form
  have L_y1 := Lib.hid ho.lt
  have hsz9 := hb.size
  have Z9 := Lib.hid hsz9
  clear hsz9
  have BH9 := Lib.hid (BH8.out.trans (hb.mono BH8.out.size))
  have Ox0_9 := Lib.hid (Ox0_8.out.grow hb)
  clear Ox0_8
  have Ox1_9 := Lib.hid (Ox1_8.out.grow hb)
  clear Ox1_8
  have Oy1_9 := Lib.hid ho
  clear ho hb
  go_wp2_with fail
  refine (eqStepS_c A_x1 A_y1 c_x1 c_y1 l1 _ Ox1_9.out.rd.1 Oy1_9.out.rd.1 hs1).mono ?_
  rintro e W10 ⟨rfl, hb⟩
  have hsz10 := hb.size
  have Z10 := Lib.hid hsz10
  clear hsz10
  have BH10 := Lib.hid (BH9.out.trans (hb.mono BH9.out.size))
  have Ox0_10 := Lib.hid (Ox0_9.out.grow hb)
  clear Ox0_9
  have Ox1_10 := Lib.hid (Ox1_9.out.grow hb)
  clear Ox1_9
  have Oy1_10 := Lib.hid (Oy1_9.out.grow hb)
  clear Oy1_9
  clear hb
  clear Oy1_10 L_y1
  go_wp2_with fail
  go_ret
  exact ⟨rfl, BH10.out⟩
end Go.Proofs.YtfgcjdhcnalmmaaDoor
