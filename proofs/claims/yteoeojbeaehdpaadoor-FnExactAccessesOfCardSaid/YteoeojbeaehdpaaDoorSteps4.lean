/-
  Schedules: the contracts of the order of lock points and of the accesses.
-/
import Derived.Test.YteoeojbeaehdpaaDoorSteps3
import Derived.Test.YteoeojbeaehdpaaDoorPAcc2
import Derived.Test.YteoeojbeaehdpaaDoorMem6
namespace Go.Proofs.YteoeojbeaehdpaaDoor
open Go.RowKit

set_option maxRecDepth 100000 in
set_option maxHeartbeats 4000000 in
theorem spec_LockPointOrder_c (A : Option Addr) (c : Nat) (r : List Stp) (w : World) (h : Rd stpE w w.heap.size A r) (hl : r.length ≤ 1048576) :
    Calls Tryd.prog 50 #[.slice A r.length c] w fun e w' => ∃ v, e = .returned v ∧ Own inE 3 w' w.heap.size v (ordF r) ∧ Below w.heap.size w w' := by
  have H := Lib.hid h
  clear h
  have N := Lib.hid (own_new (E := inE) (e := 3) w #[] [] w.heap.size (Nat.le_refl _) (by simp) rfl)
  have B0 := Lib.hid ((Below.refl w.heap.size w).alloc (Nat.le_refl _) (.cells #[] 3))
  by_cases hv : stpOk r = true
  · have F := Lib.hid (show ordF r = ordK r r.length by rw [ordF, if_pos hv])
    have h16 := (tabF_spec hv).2.1
    have HV := Lib.hid hv
    clear hv
    go_enter Tryd.func50, Tryd.ntmps50
    go_wp2_with fail
    refine (validSteps_c A c r _ (H.out.grow B0.out) hl).mono ?_
    rintro e w1 ⟨rfl, hb⟩
    have B := Lib.hid (B0.out.trans (hb.mono B0.out.size))
    have N1 := Lib.hid (N.out.grow hb)
    clear hb
    rw [HV.out]
    go_wp2_with fail
    go_loopw [3, 4] (fun v i wr => ∃ k : Nat, k ≤ r.length ∧ i = .int .i64 k ∧ Own inE 3 wr w.heap.size v (ordK r k) ∧ Below w.heap.size w wr) (fun _ i _ => r.length - (intOf i).toNat)
    case atStart => exact ⟨0, by omega, rfl, N1.out, B.out⟩
    case round =>
      obtain ⟨k, hk, rfl, ho, hbel⟩ := hrel
      obtain ⟨Ao, co, rfl, _, _, _⟩ := ho.form
      have R := Lib.hid (And.intro ho hbel)
      by_cases hlt : k < r.length
      · obtain ⟨b, o, rfl, hb, c0, c1, c2, c3⟩ := (H.out.below hbel (Nat.le_refl _)).stp hlt
        have hlen := ordK_len r k
        clear ho hbel
        by_cases hq : (lastL r r[k].who == (k : Int)) = true
        · have S := Lib.hid (ordK_yes hlt hq)
          have HQ := Lib.hid hq
          clear hq
          go_wp2_with fail
          refine (lockPoint_c _ c r r[k].who _ _ (H.out.below R.out.2 (Nat.le_refl _)) hl).mono ?_
          rintro e w2 ⟨rfl, rfl⟩
          have hq := HQ.out
          go_wp2_with (at_builtin; refine wpList_ap1 slIn rfl (.tmp 24) (.tmp 30) rfl _ _ r[k].who rfl w w.heap.size _ _ rfl R.out.1 rfl (by omega) R.out.2 (Nat.le_refl _) ?_; intro v1 w1 ho1 hb1 hg1 hat1; have Z := Lib.hid (And.intro ho1 hb1); clear ho1 hb1 hg1 hat1)
          go_roundw
          case rel => exact ⟨k + 1, by omega, by go_num, by rw [S.out]; exact Z.out.1, Z.out.2⟩
          case measure => simp [intOf]; omega
        · rw [Bool.not_eq_true] at hq
          have S := Lib.hid (ordK_no hlt hq)
          have HQ := Lib.hid hq
          clear hq
          go_wp2_with fail
          refine (lockPoint_c _ c r r[k].who _ _ (H.out.below R.out.2 (Nat.le_refl _)) hl).mono ?_
          rintro e w2 ⟨rfl, rfl⟩
          have hq := HQ.out
          go_wp2_with fail
          go_roundw
          case rel => exact ⟨k + 1, by omega, by go_num, by rw [S.out]; exact R.out.1, R.out.2⟩
          case measure => simp [intOf]; omega
      · have e : k = r.length := by omega
        subst e
        clear ho hbel
        go_wp2_with fail
        go_ret
        exact ⟨_, rfl, by rw [F.out]; exact R.out.1, R.out.2⟩
  · rw [Bool.not_eq_true] at hv
    have F := Lib.hid (show ordF r = [] by rw [ordF, if_neg (by rw [hv]; simp)])
    have HV := Lib.hid hv
    clear hv
    go_enter Tryd.func50, Tryd.ntmps50
    go_wp2_with fail
    refine (validSteps_c A c r _ (H.out.grow B0.out) hl).mono ?_
    rintro e w1 ⟨rfl, hb⟩
    have B := Lib.hid (B0.out.trans (hb.mono B0.out.size))
    clear hb
    rw [HV.out]
    go_wp2_with fail
    go_ret
    exact ⟨_, rfl, by rw [F.out]; exact Own.nil, B.out⟩
set_option maxRecDepth 100000 in
set_option maxHeartbeats 4000000 in
theorem impl_LockPointOrder_c (A : Option Addr) (c : Nat) (r : List Stp) (w : World) (h : Rd stpE w w.heap.size A r) (hl : r.length ≤ 1048576) (ht : TTab w) (hj : JTab w) :
    Calls Tryd.prog 51 #[.slice A r.length c] w fun e w' => ∃ v, e = .returned v ∧ Own inE 3 w' w.heap.size v (ordF r) ∧ Below w.heap.size w w' := by
  have H := Lib.hid h
  have T := Lib.hid (And.intro ht hj)
  clear ht hj
  clear h
  by_cases hv : stpOk r = true
  · have F := Lib.hid (show ordF r = ordK r r.length by rw [ordF, if_pos hv])
    have h16 := (tabF_spec hv).2.1
    have HV := Lib.hid hv
    clear hv
    go_enter Tryd.func51, Tryd.ntmps51
    go_wp2_with fail
    refine (impl_ValidSteps_c A c r _ H.out hl T.out.1 T.out.2).mono ?_
    rintro e w1 ⟨rfl, hb⟩
    have B := Lib.hid hb
    clear hb
    rw [HV.out]
    go_wp2_with fail
    go_loopw [3, 11] (fun v i wr => ∃ k : Nat, k ≤ r.length ∧ i = .int .i64 k ∧ Own inE 3 wr w.heap.size v (ordK r k) ∧ Below w.heap.size w wr) (fun _ i _ => r.length - (intOf i).toNat)
    case atStart => exact ⟨0, by omega, rfl, Own.nil, B.out⟩
    case round =>
      obtain ⟨k, hk, rfl, ho, hbel⟩ := hrel
      obtain ⟨Ao, co, rfl, _, _, _⟩ := ho.form
      have R := Lib.hid (And.intro ho hbel)
      by_cases hlt : k < r.length
      · obtain ⟨b, o, rfl, hb, c0, c1, c2, c3⟩ := (H.out.below hbel (Nat.le_refl _)).stp hlt
        have hlen := ordK_len r k
        clear ho hbel
        have TT : ∀ ob, (TTab (World.alloc _ ob) ∧ JTab (World.alloc _ ob)) ∧ Below w.heap.size w (World.alloc _ ob) := fun ob => ⟨⟨T.out.1.below (R.out.2.alloc R.out.2.size ob), T.out.2.below (R.out.2.alloc R.out.2.size ob)⟩, R.out.2.alloc R.out.2.size ob⟩
        have TA := Lib.hid TT
        clear TT
        by_cases hf : r[k].free = true
        · have S := Lib.hid (ordK_no hlt (last_free hlt hf))
          go_wp2_with fail
          go_roundw
          case rel => exact ⟨k + 1, by omega, by go_num, by rw [S.out]; exact R.out.1.alloc _, (TA.out _).2⟩
          case measure => simp [intOf]; omega
        · rw [Bool.not_eq_true] at hf
          have PF := Lib.hid (show pointF r r[k].who = lastL r r[k].who by rw [pointF, if_pos HV.out])
          go_wp2_with fail
          refine (impl_LockPoint_c _ c r r[k].who _ (H.out.grow (TA.out _).2) hl (TA.out _).1.1 (TA.out _).1.2).mono ?_
          rintro e w2 ⟨rfl, hb2⟩
          have BK := (Blk.new wr _ _).grow hb2
          have d0 : w2.cell? ⟨wr.heap.size, 0, none⟩ = some (.int .i64 r[k].who) := by rw [World.cell?, BK]; rfl
          have Z := Lib.hid (And.intro ((R.out.1.alloc _).grow hb2) ((TA.out _).2.trans (hb2.mono (TA.out _).2.size)))
          clear BK hb2
          rw [PF.out]
          by_cases hq : (lastL r r[k].who == (k : Int)) = true
          · have S := Lib.hid (ordK_yes hlt hq)
            go_wp2_with (at_builtin; refine wpList_ap1 slIn rfl (.tmp 27) (.tmp 30) rfl _ _ r[k].who rfl w w.heap.size _ _ rfl Z.out.1 rfl (by omega) Z.out.2 (Nat.le_refl _) ?_; intro v1 w1 ho1 hb1 hg1 hat1; have Y := Lib.hid (And.intro ho1 hb1); clear ho1 hb1 hg1 hat1)
            go_roundw
            case rel => exact ⟨k + 1, by omega, by go_num, by rw [S.out]; exact Y.out.1, Y.out.2⟩
            case measure => simp [intOf]; omega
          · rw [Bool.not_eq_true] at hq
            have S := Lib.hid (ordK_no hlt hq)
            go_wp2_with fail
            go_roundw
            case rel => exact ⟨k + 1, by omega, by go_num, by rw [S.out]; exact Z.out.1, Z.out.2⟩
            case measure => simp [intOf]; omega
      · have e : k = r.length := by omega
        subst e
        clear ho hbel
        go_wp2_with fail
        go_ret
        exact ⟨_, rfl, by rw [F.out]; exact R.out.1, R.out.2⟩
  · rw [Bool.not_eq_true] at hv
    have F := Lib.hid (show ordF r = [] by rw [ordF, if_neg (by rw [hv]; simp)])
    have HV := Lib.hid hv
    clear hv
    go_enter Tryd.func51, Tryd.ntmps51
    go_wp2_with fail
    refine (impl_ValidSteps_c A c r _ H.out hl T.out.1 T.out.2).mono ?_
    rintro e w1 ⟨rfl, hb⟩
    have B := Lib.hid hb
    clear hb
    rw [HV.out]
    go_wp2_with fail
    go_ret
    exact ⟨_, rfl, by rw [F.out]; exact Own.nil, B.out⟩
set_option maxRecDepth 100000 in
set_option maxHeartbeats 4000000 in
theorem spec_AccessesOf_c (A : Option Addr) (c : Nat) (r : List Stp) (w : World) (h : Rd stpE w w.heap.size A r) (hl : r.length ≤ 1048576) :
    Calls Tryd.prog 52 #[.slice A r.length c] w fun e w' => ∃ v, e = .returned v ∧ Own accE 85 w' w.heap.size v (accsF r) ∧ Below w.heap.size w w' := by
  have H := Lib.hid h
  clear h
  have N := Lib.hid (own_new (E := accE) (e := 85) w #[] [] w.heap.size (Nat.le_refl _) (by simp) rfl)
  have B0 := Lib.hid ((Below.refl w.heap.size w).alloc (Nat.le_refl _) (.cells #[] 85))
  by_cases hv : stpOk r = true
  · have F := Lib.hid (show accsF r = accL (r.take r.length) by rw [accsF, if_pos hv, List.take_length])
    have HV := Lib.hid hv
    clear hv
    go_enter Tryd.func52, Tryd.ntmps52
    go_wp2_with fail
    refine (validSteps_c A c r _ (H.out.grow B0.out) hl).mono ?_
    rintro e w1 ⟨rfl, hb⟩
    have B := Lib.hid (B0.out.trans (hb.mono B0.out.size))
    have N1 := Lib.hid (N.out.grow hb)
    clear hb
    rw [HV.out]
    go_wp2_with fail
    go_loopw [3, 4] (fun v i wr => ∃ k : Nat, k ≤ r.length ∧ i = .int .i64 k ∧ Own accE 85 wr w.heap.size v (accL (r.take k)) ∧ Below w.heap.size w wr) (fun _ i _ => r.length - (intOf i).toNat)
    case atStart => exact ⟨0, by omega, rfl, N1.out, B.out⟩
    case round =>
      obtain ⟨k, hk, rfl, ho, hbel⟩ := hrel
      obtain ⟨Ao, co, rfl, _, _, _⟩ := ho.form
      have R := Lib.hid (And.intro ho hbel)
      by_cases hlt : k < r.length
      · obtain ⟨b, o, rfl, hb, c0, c1, c2, c3⟩ := (H.out.below hbel (Nat.le_refl _)).stp hlt
        have hlen := accL_len r k
        clear ho hbel
        by_cases hf : r[k].free = true
        · have S := Lib.hid (accL_no hlt hf)
          go_wp2_with fail
          go_roundw
          case rel => exact ⟨k + 1, by omega, by go_num, by rw [S.out]; exact R.out.1, R.out.2⟩
          case measure => simp [intOf]; omega
        · rw [Bool.not_eq_true] at hf
          have S := Lib.hid (accL_yes hlt hf)
          go_wp2_with fail
          go_region_law (go_loud (refine step_ap1 slAcc rfl (.tmp 21) (.tmp 39) rfl _ _ (accOf r[k]) rfl w w.heap.size _ _ rfl (R.out.1.grow (below_drewN (Below.refl _ _) _)) _ (by simp) rfl (by omega) (below_drewN R.out.2 _) (Nat.le_refl _) ?_); intro v1 w1 ho1 hb1 hg1 hat1; have Z := Lib.hid (And.intro ho1 hb1); clear ho1 hb1 hg1 hat1)
          go_wp2_with fail
          all_goals first
            | (go_roundw; (case rel => exact ⟨k + 1, by omega, by go_num, by rw [S.out]; exact Z.out.1, Z.out.2⟩); (case measure => simp [intOf]; omega))
            | (refine ⟨⟨k + 1, by omega, by go_num, by rw [S.out]; exact Z.out.1, Z.out.2⟩, ?_⟩; simp [intOf]; omega)
      · have e : k = r.length := by omega
        subst e
        clear ho hbel
        go_wp2_with fail
        go_ret
        exact ⟨_, rfl, by rw [F.out]; exact R.out.1, R.out.2⟩
  · rw [Bool.not_eq_true] at hv
    have F := Lib.hid (show accsF r = [] by rw [accsF, if_neg (by rw [hv]; simp)])
    have HV := Lib.hid hv
    clear hv
    go_enter Tryd.func52, Tryd.ntmps52
    go_wp2_with fail
    refine (validSteps_c A c r _ (H.out.grow B0.out) hl).mono ?_
    rintro e w1 ⟨rfl, hb⟩
    have B := Lib.hid (B0.out.trans (hb.mono B0.out.size))
    clear hb
    rw [HV.out]
    go_wp2_with fail
    go_ret
    exact ⟨_, rfl, by rw [F.out]; exact Own.nil, B.out⟩
set_option maxRecDepth 100000 in
set_option maxHeartbeats 4000000 in
theorem impl_AccessesOf_c (A : Option Addr) (c : Nat) (r : List Stp) (w : World) (h : Rd stpE w w.heap.size A r) (hl : r.length ≤ 1048576) (ht : TTab w) (hj : JTab w) :
    Calls Tryd.prog 53 #[.slice A r.length c] w fun e w' => ∃ v, e = .returned v ∧ Own accE 85 w' w.heap.size v (accsF r) ∧ Below w.heap.size w w' := by
  have H := Lib.hid h
  have T := Lib.hid (And.intro ht hj)
  clear ht hj
  clear h
  by_cases hv : stpOk r = true
  · have F := Lib.hid (show accsF r = accL (r.take r.length) by rw [accsF, if_pos hv, List.take_length])
    have HV := Lib.hid hv
    clear hv
    go_enter Tryd.func53, Tryd.ntmps53
    go_wp2_with fail
    refine (impl_ValidSteps_c A c r _ H.out hl T.out.1 T.out.2).mono ?_
    rintro e w1 ⟨rfl, hb⟩
    have B := Lib.hid hb
    clear hb
    rw [HV.out]
    go_wp2_with fail
    go_loopw [3, 11] (fun v i wr => ∃ k : Nat, k ≤ r.length ∧ i = .int .i64 k ∧ Own accE 85 wr w.heap.size v (accL (r.take k)) ∧ Below w.heap.size w wr) (fun _ i _ => r.length - (intOf i).toNat)
    case atStart => exact ⟨0, by omega, rfl, Own.nil, B.out⟩
    case round =>
      obtain ⟨k, hk, rfl, ho, hbel⟩ := hrel
      obtain ⟨Ao, co, rfl, _, _, _⟩ := ho.form
      have R := Lib.hid (And.intro ho hbel)
      by_cases hlt : k < r.length
      · obtain ⟨b, o, rfl, hb, c0, c1, c2, c3⟩ := (H.out.below hbel (Nat.le_refl _)).stp hlt
        have hlen := accL_len r k
        clear ho hbel
        by_cases hf : r[k].free = true
        · have S := Lib.hid (accL_no hlt hf)
          go_wp2_with fail
          go_roundw
          case rel => exact ⟨k + 1, by omega, by go_num, by rw [S.out]; exact R.out.1.alloc _, R.out.2.alloc R.out.2.size _⟩
          case measure => simp [intOf]; omega
        · rw [Bool.not_eq_true] at hf
          have S := Lib.hid (accL_yes hlt hf)
          go_wp2_with (at_builtin; go_loud (refine wpList_ap1g slAcc rfl (.tmp 18) (.tmp 27) rfl _ _ (accOf r[k]) rfl w w.heap.size _ _ rfl (R.out.1.alloc _) _ (by simp) rfl (by omega) (R.out.2.alloc R.out.2.size _) (Nat.le_refl _) ?_); intro v1 w1 ho1 hb1 hg1 hat1; have Z := Lib.hid (And.intro ho1 hb1); clear ho1 hb1 hg1 hat1)
          go_roundw
          case rel => exact ⟨k + 1, by omega, by go_num, by rw [S.out]; exact Z.out.1, Z.out.2⟩
          case measure => simp [intOf]; omega
      · have e : k = r.length := by omega
        subst e
        clear ho hbel
        go_wp2_with fail
        go_ret
        exact ⟨_, rfl, by rw [F.out]; exact R.out.1, R.out.2⟩
  · rw [Bool.not_eq_true] at hv
    have F := Lib.hid (show accsF r = [] by rw [accsF, if_neg (by rw [hv]; simp)])
    have HV := Lib.hid hv
    clear hv
    go_enter Tryd.func53, Tryd.ntmps53
    go_wp2_with fail
    refine (impl_ValidSteps_c A c r _ H.out hl T.out.1 T.out.2).mono ?_
    rintro e w1 ⟨rfl, hb⟩
    have B := Lib.hid hb
    clear hb
    rw [HV.out]
    go_wp2_with fail
    go_ret
    exact ⟨_, rfl, by rw [F.out]; exact Own.nil, B.out⟩
end Go.Proofs.YteoeojbeaehdpaaDoor
