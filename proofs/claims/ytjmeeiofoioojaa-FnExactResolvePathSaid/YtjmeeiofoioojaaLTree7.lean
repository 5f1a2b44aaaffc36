/-
  The law that the program's ResolvePath answers as the reference's does.
-/
import Derived.Test.YtjmeeiofoioojaaTr13
import Derived.Test.YtjmeeiofoioojaaTNd2
namespace Go.Proofs.Ytjmeeiofoioojaa
open Go.RowKit

set_option maxHeartbeats 4000000 in
theorem FnExactResolvePath_c (A0 : Option Addr) (c0 : Nat) (l0 : List Nd) (a1 : ByteArray) (_hw1 : a1.size ≤ maxLen) (w : World) (h0 : Rd ndE w w.heap.size A0 l0) (hl0 : l0.length ≤ c0 ∧ c0 ≤ maxLen) (mx : Int) (hmx : MxL mx w) :
    Calls Try.prog 11 #[.slice A0 l0.length c0, .string a1] w fun e w' => e = .returned (.bool true) ∧ Below w.heap.size w w' := by
  have HX := Lib.hid hmx
  clear hmx
  have hm0 : l0.length ≤ maxLen := by omega
  have H0 := Lib.hid h0
  have M0 := Lib.hid hm0
  clear h0 hl0 hm0
  by_cases hx1 : 1048576 < a1.size
  · go_enter Try.func11, Try.ntmps11
    go_wp2_with fail
    go_ret
    exact ⟨rfl, Below.refl _ _⟩
  have hs1 : a1.size ≤ 1048576 := by omega
  have B0 : Below w.heap.size w w := Below.refl _ _
  by_cases hq0 : 1048576 < (szNd l0 : Int)
  · go_enter Try.func11, Try.ntmps11
    go_wp2_with fail
    refine (szNodeS_c A0 c0 l0 (1048576) (by omega) (by omega) M0.out _ H0.out).mono ?_
    rintro e w1 ⟨rfl, hb⟩
    have BS0 := Lib.hid hb
    clear hb
    rw [if_pos (by omega)]
    go_wp2_with fail
    go_ret
    exact ⟨rfl, BS0.out⟩
  have hs0 : l0.length ≤ 1048576 := by have := szNd_le l0; omega
  go_enter Try.func11, Try.ntmps11
  go_wp2_with fail
  refine (szNodeS_c A0 c0 l0 (1048576) (by omega) (by omega) M0.out _ H0.out).mono ?_
  rintro e w1 ⟨rfl, hb⟩
  have BS0 := Lib.hid hb
  clear hb
  rw [if_neg (by omega)]
  have BH0 := Lib.hid (B0.trans BS0.out)
  clear B0
  go_wp2_with fail
  refine (toNodeS_c A0 c0 l0 _ (H0.out.grow BH0.out) hs0).mono ?_
  rintro e W1 ⟨v_s0, rfl, ho, hb⟩
  obtain ⟨A_s0, c_s0, rfl, _, _, _⟩ := ho.form
  have L_s0 := Lib.hid ho.lt
  have hsz1 := hb.size
  have Z1 := Lib.hid hsz1
  clear hsz1
  have BH1 := Lib.hid (BH0.out.trans (hb.mono BH0.out.size))
  have Os0_1 := Lib.hid ho
  clear ho hb
  go_wp2_with fail
  refine (spec_ResolvePath_c A_s0 c_s0 l0 a1 _ Os0_1.out.rd.1 hs0 hs1 Os0_1.out.rd.2.2.1).mono ?_
  rintro e W2 ⟨rfl, hb⟩
  have hsz2 := hb.size
  have Z2 := Lib.hid hsz2
  clear hsz2
  have BH2 := Lib.hid (BH1.out.trans (hb.mono BH1.out.size))
  have Os0_2 := Lib.hid (Os0_1.out.grow hb)
  clear Os0_1
  clear hb
  clear Os0_2 L_s0
  go_wp2_with fail
  refine (toNodeS_c A0 c0 l0 _ (H0.out.grow BH2.out) hs0).mono ?_
  rintro e W3 ⟨v_x0, rfl, ho, hb⟩
  obtain ⟨A_x0, c_x0, rfl, _, _, _⟩ := ho.form
  have L_x0 := Lib.hid ho.lt
  have hsz3 := hb.size
  have Z3 := Lib.hid hsz3
  clear hsz3
  have BH3 := Lib.hid (BH2.out.trans (hb.mono BH2.out.size))
  have Ox0_3 := Lib.hid ho
  clear ho hb
  go_wp2_with fail
  refine (impl_ResolvePath_c A_x0 c_x0 l0 a1 _ Ox0_3.out.rd.1 hs0 hs1 Ox0_3.out.rd.2.2.1 mx (HX.out.below BH3.out)).mono ?_
  rintro e W4 ⟨rfl, hb⟩
  have hsz4 := hb.size
  have Z4 := Lib.hid hsz4
  clear hsz4
  have BH4 := Lib.hid (BH3.out.trans (hb.mono BH3.out.size))
  have Ox0_4 := Lib.hid (Ox0_3.out.grow hb)
  clear Ox0_3
  clear hb
  go_wp2_with fail
  refine (toNodeS_c A0 c0 l0 _ (H0.out.grow BH4.out) hs0).mono ?_
  rintro e W5 ⟨v_y0, rfl, ho, hb⟩
  obtain ⟨A_y0, c_y0, rfl, _, _, _⟩ := ho.form
  have L_y0 := Lib.hid ho.lt
  have hsz5 := hb.size
  have Z5 := Lib.hid hsz5
  clear hsz5
  have BH5 := Lib.hid (BH4.out.trans (hb.mono BH4.out.size))
  have Ox0_5 := Lib.hid (Ox0_4.out.grow hb)
  clear Ox0_4
  have Oy0_5 := Lib.hid ho
  clear ho hb
  go_wp2_with fail
  refine (eqNodeS_c A_x0 A_y0 c_x0 c_y0 l0 _ Ox0_5.out.rd.1 Oy0_5.out.rd.1 hs0).mono ?_
  rintro e W6 ⟨rfl, hb⟩
  have hsz6 := hb.size
  have Z6 := Lib.hid hsz6
  clear hsz6
  have BH6 := Lib.hid (BH5.out.trans (hb.mono BH5.out.size))
  have Ox0_6 := Lib.hid (Ox0_5.out.grow hb)
  clear Ox0_5
  have Oy0_6 := Lib.hid (Oy0_5.out.grow hb)
  clear Oy0_5
  clear hb
  clear Oy0_6 L_y0
  go_wp2_with fail
  go_ret
  exact ⟨rfl, BH6.out⟩
end Go.Proofs.Ytjmeeiofoioojaa
