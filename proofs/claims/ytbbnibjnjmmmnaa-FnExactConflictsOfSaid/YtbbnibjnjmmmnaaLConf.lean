/-
  The law that the program's ConflictsOf answers as the reference's does.
-/
import Derived.Test.YtbbnibjnjmmmnaaConf3
import Derived.Test.YtbbnibjnjmmmnaaPairsL
namespace Go.Proofs.Ytbbnibjnjmmmnaa
open Go.RowKit

set_option maxHeartbeats 4000000 in
theorem FnExactConflictsOf_c (A0 : Option Addr) (c0 : Nat) (l0 : List Acc) (w : World) (h0 : Rd accE w w.heap.size A0 l0) (hl0 : l0.length ≤ c0 ∧ c0 ≤ maxLen) :
    Calls Try.prog 13 #[.slice A0 l0.length c0] w fun e w' => e = .returned (.bool true) ∧ Below w.heap.size w w' := by
  have hm0 : l0.length ≤ maxLen := by omega
  have H0 := Lib.hid h0
  have M0 := Lib.hid hm0
  have RL := Lib.hid (confF_len l0)
  clear h0 hl0 hm0
  by_cases hq0 : 1048576 < (l0.length : Int)
  · go_enter Try.func13, Try.ntmps13
    go_wp2_with fail
    refine (szAccessS_c A0 c0 l0.length (1048576) (by omega) (by omega) M0.out _).mono ?_
    rintro e w1 ⟨rfl, rfl⟩
    rw [if_pos (by omega)]
    go_wp2_with fail
    go_ret
    exact ⟨rfl, Below.refl _ _⟩
  have hs0 : l0.length ≤ 1048576 := by omega
  go_enter Try.func13, Try.ntmps13
  go_wp2_with fail
  refine (szAccessS_c A0 c0 l0.length (1048576) (by omega) (by omega) M0.out _).mono ?_
  rintro e w1 ⟨rfl, rfl⟩
  rw [if_neg (by omega)]
  go_wp2_with fail
  -- the reference's answer
  refine (toAccessS_c A0 c0 l0 _ H0.out hs0).mono ?_
  rintro e W1 ⟨v_s0, rfl, ho, hb⟩
  obtain ⟨A_s0, c_s0, rfl, _, _, hr⟩ := ho.form
  have Q1 := Lib.hid (And.intro hr hb)
  clear ho hb hr
  go_wp2_with fail
  refine (spec_ConflictsOf_c A_s0 c_s0 l0 _ Q1.out.1 hs0).mono ?_
  rintro e W2 ⟨v_w0, Lw, rfl, hp, hL, hb⟩
  obtain ⟨A_w0, c_w0, rfl, _, hrp⟩ := hp.form
  have Q2 := Lib.hid (And.intro hrp (And.intro hL (Q1.out.2.trans (hb.mono Q1.out.2.size))))
  have hLw : Lw.length ≤ 16 := by have := RL.out; rw [← hL, prs_len] at this; exact this
  clear hp hb hL hrp
  go_wp2_with fail
  -- the program's answer
  refine (toAccessS_c A0 c0 l0 _ (H0.out.grow Q2.out.2.2) hs0).mono ?_
  rintro e W3 ⟨v_x0, rfl, ho, hb⟩
  obtain ⟨A_x0, c_x0, rfl, hcx, _, hr⟩ := ho.form
  have S3 := Lib.hid hb.size
  have Q3 := Lib.hid (And.intro ho (And.intro hr (And.intro (Q2.out.1.below hb (Nat.le_refl _)) (And.intro (Q2.out.2.2.trans (hb.mono Q2.out.2.2.size)) hb.size))))
  clear ho hb hr
  go_wp2_with fail
  refine (impl_ConflictsOf_c A_x0 c_x0 l0 _ Q3.out.2.1 hs0 hcx).mono ?_
  rintro e W4 ⟨v_g0, Lg, rfl, hp, hL, hb⟩
  obtain ⟨A_g0, c_g0, rfl, _, hrp⟩ := hp.form
  have hLg : Lg.length ≤ 16 := by have := RL.out; rw [← hL, prs_len] at this; exact this
  have EQ := Lib.hid (And.intro hL (hL.trans Q2.out.2.1.symm))
  have S4 := Lib.hid hb.size
  have Q4 := Lib.hid (And.intro hp (And.intro (Q3.out.1.grow hb) (And.intro (Q3.out.2.2.1.below hb Q3.out.2.2.2.2) (And.intro (Q3.out.2.2.2.1.trans (hb.mono Q3.out.2.2.2.1.size)) hb.size))))
  clear hp hb hL hrp
  go_wp2_with fail
  refine (eqIntSS_c A_g0 A_w0 c_g0 c_w0 Lg Lw EQ.out.2 _ W4.heap.size W2.heap.size Q4.out.1.rdp Q4.out.2.2.1 (Nat.le_refl _) (Nat.le_trans Q3.out.2.2.2.2 Q4.out.2.2.2.2) (by omega)).mono ?_
  rintro e W5 ⟨rfl, hb⟩
  have S5 := Lib.hid hb.size
  have Q5 := Lib.hid (And.intro (Q4.out.1.grow hb) (And.intro (Q4.out.2.1.grow hb) (And.intro (Q4.out.2.2.1.below hb (Nat.le_trans Q3.out.2.2.2.2 Q4.out.2.2.2.2)) (And.intro (Q4.out.2.2.2.1.trans (hb.mono Q4.out.2.2.2.1.size)) hb.size))))
  clear hb
  go_wp2_with fail
  refine (toAccessS_c A0 c0 l0 _ (H0.out.grow Q5.out.2.2.2.1) hs0).mono ?_
  rintro e W6 ⟨v_y0, rfl, ho, hb⟩
  obtain ⟨A_y0, c_y0, rfl, _, _, hr⟩ := ho.form
  have S6 := Lib.hid hb.size
  have Q6 := Lib.hid (And.intro (Q5.out.1.grow hb) (And.intro (Q5.out.2.1.grow hb) (And.intro (Q5.out.2.2.1.below hb (Nat.le_trans Q3.out.2.2.2.2 (Nat.le_trans Q4.out.2.2.2.2 Q5.out.2.2.2.2))) (And.intro (Q5.out.2.2.2.1.trans (hb.mono Q5.out.2.2.2.1.size)) (And.intro hb.size hr)))))
  clear ho hb hr
  go_wp2_with fail
  refine (eqAccessS_c A_x0 A_y0 c_x0 c_y0 l0 _ Q6.out.2.1.rd.1 Q6.out.2.2.2.2.2 hs0).mono ?_
  rintro e W7 ⟨rfl, hb⟩
  have Z6 : W2.heap.size ≤ W6.heap.size := Nat.le_trans Q3.out.2.2.2.2 (Nat.le_trans Q4.out.2.2.2.2 (Nat.le_trans Q5.out.2.2.2.2 Q6.out.2.2.2.2.1))
  have S7 := Lib.hid hb.size
  have Q7 := Lib.hid (And.intro (Q6.out.1.grow hb) (And.intro (Q6.out.2.1.grow hb) (And.intro (Q6.out.2.2.1.below hb Z6) (And.intro (Q6.out.2.2.2.1.trans (hb.mono Q6.out.2.2.2.1.size)) (Nat.le_trans Z6 hb.size)))))
  have X0 := Lib.hid Q3.out.1.lt
  clear hb
  go_wp2_with fail
  -- the argument is marked
  refine (markAccessS_c _ _ _ (1) (by omega) (by omega) _ Q7.out.2.1 (by omega)).mono ?_
  rintro e W8 ⟨rfl, ho, hg, hz⟩
  have S8 := Lib.hid hz
  have Q8 := Lib.hid (And.intro (Q7.out.1.kept hg (fun g e => (X0.out g e).2)) (And.intro (Q7.out.2.2.1.other hg Q7.out.2.2.2.2 (fun g e => (X0.out g e).1)) (And.intro (below_own Q7.out.2.2.2.1 (Q7.out.2.1.base Q2.out.2.2.size) hg Q7.out.2.2.2.1.size) (Nat.le_trans Q7.out.2.2.2.2 (Nat.le_of_eq hz.symm)))))
  clear ho hg hz
  go_wp2_with fail
  refine (eqIntSS_c A_g0 A_w0 c_g0 c_w0 Lg Lw EQ.out.2 _ W8.heap.size W2.heap.size Q8.out.1.rdp Q8.out.2.1 (Nat.le_refl _) Q8.out.2.2.2 (by omega)).mono ?_
  rintro e W9 ⟨rfl, hb⟩
  have S9 := Lib.hid hb.size
  have Q9 := Lib.hid (And.intro (Q8.out.1.grow hb) (And.intro (Q8.out.2.1.below hb Q8.out.2.2.2) (And.intro (Q8.out.2.2.1.trans (hb.mono Q8.out.2.2.1.size)) (And.intro (Nat.le_trans Q8.out.2.2.2 hb.size) hb.size))))
  clear hb
  go_wp2_with fail
  -- the answer is marked
  have hb39 : W3.heap.size ≤ W9.heap.size := by
    have := S4.out; have := S5.out; have := S6.out; have := S7.out; have := S8.out; have := S9.out
    omega
  refine (markIntSS_c _ Lg W3.heap.size (1) (by omega) (by omega) _ Q9.out.1 (by omega) hb39).mono ?_
  rintro e W10 ⟨rfl, hp, hb⟩
  have S10 := Lib.hid hb.size
  have Q10 := Lib.hid (And.intro hp (And.intro (Q9.out.2.1.below hb S3.out) (Q9.out.2.2.1.trans (hb.mono Q3.out.2.2.2.1.size))))
  clear hp hb hb39
  go_wp2_with fail
  refine (heldIntSS_c _ _ Lg (1) (by omega) (by omega) _ Q10.out.1.rdp (by omega)).mono ?_
  rintro e w' ⟨rfl, rfl⟩
  go_wp2_with fail
  -- the program once more
  refine (toAccessS_c A0 c0 l0 _ (H0.out.grow Q10.out.2.2) hs0).mono ?_
  rintro e W11 ⟨v_z0, rfl, ho, hb⟩
  obtain ⟨A_z0, c_z0, rfl, hcz, _, hr⟩ := ho.form
  have h210 : W2.heap.size ≤ W10.heap.size := Nat.le_trans Q9.out.2.2.2.1 S10.out
  have Q11 := Lib.hid (And.intro (Q10.out.1.grow hb) (And.intro (Q10.out.2.1.below hb h210) (And.intro (Q10.out.2.2.trans (hb.mono Q10.out.2.2.size)) (And.intro hr (Nat.le_trans h210 hb.size)))))
  clear ho hb hr h210
  go_wp2_with fail
  refine (impl_ConflictsOf_c A_z0 c_z0 l0 _ Q11.out.2.2.2.1 hs0 hcz).mono ?_
  rintro e W12 ⟨v_h0, Lh, rfl, hp, hL, hb⟩
  obtain ⟨A_h0, c_h0, rfl, _, hrp⟩ := hp.form
  have hLh : Lh.length ≤ 16 := by have := RL.out; rw [← hL, prs_len] at this; exact this
  have EQh := Lib.hid (hL.trans Q2.out.2.1.symm)
  have Q12 := Lib.hid (And.intro (Q11.out.1.grow hb) (And.intro (Q11.out.2.1.below hb Q11.out.2.2.2.2) (And.intro (Q11.out.2.2.1.trans (hb.mono Q11.out.2.2.1.size)) (And.intro hrp (Nat.le_trans Q11.out.2.2.2.2 hb.size)))))
  clear hp hb hL hrp
  go_wp2_with fail
  refine (eqIntSS_c A_h0 A_w0 c_h0 c_w0 Lh Lw EQh.out _ W12.heap.size W2.heap.size Q12.out.2.2.2.1 Q12.out.2.1 (Nat.le_refl _) Q12.out.2.2.2.2 (by omega)).mono ?_
  rintro e W13 ⟨rfl, hb⟩
  have Q13 := Lib.hid (And.intro (Q12.out.1.grow hb) (Q12.out.2.2.1.trans (hb.mono Q12.out.2.2.1.size)))
  clear hb
  go_wp2_with fail
  refine (heldIntSS_c _ _ Lg (1) (by omega) (by omega) _ Q13.out.1.rdp (by omega)).mono ?_
  rintro e w' ⟨rfl, rfl⟩
  go_wp2_with fail
  go_ret
  exact ⟨rfl, Q13.out.2⟩
end Go.Proofs.Ytbbnibjnjmmmnaa
