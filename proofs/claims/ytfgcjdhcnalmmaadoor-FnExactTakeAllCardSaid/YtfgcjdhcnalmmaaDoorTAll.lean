/-
  Several locks taken one after the other: the contracts of the reference's and of the program's TakeAll.
-/
import Derived.Test.YtfgcjdhcnalmmaaDoorTake
import Derived.Deep.RegionLaw
namespace Go.Proofs.YtfgcjdhcnalmmaaDoor
open Go.RowKit

noncomputable def runT : List Lk → List Lk → Option (List Lk)
  | l, [] => some l
  | l, x :: r => match takeF l x.who x.node x.mode with
    | some m => runT m r
    | none => none
theorem runT_snoc : ∀ (r l : List Lk) (x : Lk), runT l (r ++ [x]) = match runT l r with
    | some m => takeF m x.who x.node x.mode
    | none => none
  | [], l, x => by simp [runT]; cases takeF l x.who x.node x.mode <;> rfl
  | y :: r, l, x => by
    simp only [List.cons_append, runT]
    cases takeF l y.who y.node y.mode with
    | none => rfl
    | some m => exact runT_snoc r m x
theorem runT_none : ∀ {r l : List Lk} (k : Nat), runT l (r.take k) = none → runT l r = none
  | [], l, k, h => by simpa using h
  | x :: r, l, 0, h => by simp [runT] at h
  | x :: r, l, k + 1, h => by
    simp only [List.take_succ_cons, runT] at h ⊢
    cases hf : takeF l x.who x.node x.mode with
    | none => rfl
    | some m => rw [hf] at h; exact runT_none k h
theorem runT_take {r l m : List Lk} {k : Nat} (hk : k < r.length) (h : runT l (r.take k) = some m) : runT l (r.take (k + 1)) = takeF m r[k].who r[k].node r[k].mode := by
  rw [List.take_succ_eq_append_getElem hk, runT_snoc, h]
theorem runT_len : ∀ {r l m : List Lk}, l.length ≤ 49 → runT l r = some m → m.length ≤ 49
  | [], l, m, h, e => by
    have := Option.some.inj e
    subst this
    exact h
  | x :: r, l, m, h, e => by
    simp only [runT] at e
    cases hd : takeF l x.who x.node x.mode with
    | none => rw [hd] at e; cases e
    | some k =>
      rw [hd] at e
      have h1 := takeR_len l x.who x.node x.mode
      rw [(take_yes hd).1] at h1
      exact runT_len h1 e
noncomputable def allF (l r : List Lk) : Option (List Lk) := if tabOk l then runT l r else none
noncomputable def allR (l r : List Lk) : List Lk := (allF l r).getD []
noncomputable def allB (l r : List Lk) : Bool := (allF l r).isSome
theorem all_no {l r : List Lk} (h : allF l r = none) : allR l r = [] ∧ allB l r = false := by simp [allR, allB, h]
theorem all_yes {l r m : List Lk} (h : allF l r = some m) : allR l r = m ∧ allB l r = true := by simp [allR, allB, h]
theorem allR_len (l r : List Lk) : (allR l r).length ≤ 49 := by
  unfold allR
  cases h : allF l r with
  | none => simp
  | some m =>
    unfold allF at h
    split at h
    · rename_i hv
      have := (tabOk_iff.1 hv).2.2
      exact runT_len (by omega) h
    · cases h

set_option maxRecDepth 100000 in
set_option maxHeartbeats 4000000 in
theorem takeAll_c (A A2 : Option Addr) (c c2 : Nat) (l r : List Lk) (w : World) (h : Rd lkE w w.heap.size A l) (h2 : Rd lkE w w.heap.size A2 r) (hv : tabOk l = true) (hr : r.length ≤ 1048576) :
    Calls Tryd.prog 41 #[.slice A l.length c, .slice A2 r.length c2] w fun e w' => ∃ v, e = .returned (.tuple #[v, .bool (allB l r)]) ∧ Own lkE 57 w' w.heap.size v (allR l r) ∧ Below w.heap.size w w' := by
  have H := Lib.hid h
  have H2 := Lib.hid h2
  have FA := Lib.hid (show allF l r = runT l r by rw [allF, if_pos hv])
  have hl : l.length ≤ 49 := by have := (tabOk_iff.1 hv).2.2; omega
  clear h h2 hv
  go_enter Tryd.func41, Tryd.ntmps41
  go_wp2_with fail
  go_loopw [0, 6] (fun tv i wr => ∃ (k : Nat) (m : List Lk), k ≤ r.length ∧ i = .int .i64 k ∧ Hid (runT l (r.take k) = some m) ∧ (∃ A' c', tv = .slice A' m.length c' ∧ Hid (Rd lkE wr wr.heap.size A' m)) ∧ m.length ≤ 49 ∧ Below w.heap.size w wr) (fun _ i _ => r.length - (intOf i).toNat)
  case atStart => exact ⟨0, l, by omega, rfl, Lib.hid rfl, ⟨A, c, rfl, H⟩, hl, Below.refl _ _⟩
  case round =>
    obtain ⟨k, m, hk, rfl, hrun, ⟨A', c', rfl, hrd⟩, hm, hbel⟩ := hrel
    by_cases hlt : k < r.length
    · obtain ⟨b, o, rfl, hb, c0, c1, c2⟩ := (H2.out.below hbel (Nat.le_refl _)).lk hlt
      have R := Lib.hid hbel
      clear hbel
      have hst := Lib.hid (runT_take hlt hrun.out)
      obtain ⟨o2, ho2⟩ : ∃ o2, takeF m r[k].who r[k].node r[k].mode = o2 := ⟨_, rfl⟩
      have HO := Lib.hid (And.intro ho2 (show takeR m r[k].who r[k].node r[k].mode = o2.getD [] ∧ takeB m r[k].who r[k].node r[k].mode = o2.isSome by rw [takeR, takeB, ho2]; exact ⟨rfl, rfl⟩))
      clear ho2
      have HD : Hid (Rd lkE wr.drew wr.drew.heap.size A' m) := Lib.hid (show Rd lkE wr wr.heap.size A' m from hrd.out)
      cases o2 with
      | none =>
        have F2 := Lib.hid (all_no (FA.out.trans (runT_none (k + 1) (hst.out.trans HO.out.1))))
        go_wp2_with fail
        go_region_law (go_simp; go_at_call 76; go_loud (refine (spec_TakeLock_c A' c' m r[k].who r[k].node r[k].mode wr.drew HD.out (by omega)).mono ?_); rintro e w2 ⟨v, rfl, ho, hb2⟩; rw [HO.out.2.2]; have S := Lib.hid (And.intro ho hb2); clear ho hb2)
        go_wp2_with fail
        all_goals
          go_ret2
          rw [F2.out.1, F2.out.2]
          exact ⟨_, rfl, Own.nil, R.out.drew.trans (S.out.2.mono R.out.size)⟩
      | some m2 =>
        go_wp2_with fail
        go_region_law (go_simp; go_at_call 76; go_loud (refine (spec_TakeLock_c A' c' m r[k].who r[k].node r[k].mode wr.drew HD.out (by omega)).mono ?_); rintro e w2 ⟨v, rfl, ho, hb2⟩; rw [HO.out.2.1] at ho; rw [HO.out.2.2]; have S := Lib.hid (And.intro ho hb2); clear ho hb2; obtain ⟨Av, cv, rfl, _, _, hrv⟩ := S.out.1.form; have V := Lib.hid hrv; clear hrv)
        go_wp2_with fail
        all_goals first
          | (go_roundw; (case rel => exact ⟨k + 1, m2, by omega, by go_num, Lib.hid (hst.out.trans HO.out.1), ⟨_, _, rfl, V⟩, by have := takeR_len m r[k].who r[k].node r[k].mode; rw [HO.out.2.1] at this; exact this, R.out.drew.trans (S.out.2.mono R.out.size)⟩); (case measure => simp [intOf]; omega))
          | (refine ⟨⟨k + 1, m2, by omega, by go_num, Lib.hid (hst.out.trans HO.out.1), ⟨_, _, rfl, V⟩, by have := takeR_len m r[k].who r[k].node r[k].mode; rw [HO.out.2.1] at this; exact this, R.out.drew.trans (S.out.2.mono R.out.size)⟩, ?_⟩; simp [intOf]; omega)
    · have e : k = r.length := by omega
      subst e
      have F := Lib.hid (all_yes (FA.out.trans (show runT l r = some m by have := hrun.out; rwa [List.take_length] at this)))
      have N := Lib.hid (own_new (E := lkE) (e := 57) wr #[] [] w.heap.size hbel.size (by simp) rfl)
      have B0 := Lib.hid (hbel.alloc hbel.size (.cells #[] 57))
      have G := Lib.hid (hrd.out.grow ((Below.refl wr.heap.size wr).alloc (Nat.le_refl _) (.cells #[] 57)))
      clear hbel
      go_wp2_with (at_builtin; go_loud (refine wpList_ap slLk rfl (.tmp 38) (.tmp 39) rfl w.heap.size _ [] rfl N.out _ A' c' m rfl G.out (by simp; omega) B0.out.size ?_); intro v1 w1 ho1 hg1 hat1; rw [List.nil_append] at ho1; have Z := Lib.hid (And.intro ho1 (below_own B0.out N.out hg1 B0.out.size)); clear ho1 hg1 hat1)
      go_ret2
      rw [F.out.1, F.out.2]
      exact ⟨_, rfl, Z.out.1, Z.out.2⟩
set_option maxHeartbeats 1000000 in
theorem spec_TakeAll_c (A : Option Addr) (c : Nat) (l : List Lk) (A2 : Option Addr) (c2 : Nat) (r : List Lk) (w : World) (h : Rd lkE w w.heap.size A l) (h2 : Rd lkE w w.heap.size A2 r) (hl : l.length ≤ 1048576) (hr : r.length ≤ 1048576) :
    Calls Tryd.prog 11 #[.slice A l.length c, .slice A2 r.length c2] w fun e w' => ∃ v, e = .returned (.tuple #[v, .bool (allB l r)]) ∧ Own lkE 57 w' w.heap.size v (allR l r) ∧ Below w.heap.size w w' := by
  have C := Lib.hid (spec_validTable_c A c l _ w h hl)
  have H := Lib.hid (And.intro h h2)
  clear h h2
  by_cases hv : tabOk l = true
  · have HV := Lib.hid hv
    clear hv
    go_enter Tryd.func11, Tryd.ntmps11
    go_wp2_with fail
    refine C.out.mono ?_
    rintro e w1 ⟨rfl, hd⟩
    have B := Lib.hid (hd.below w.heap.size)
    have K := Lib.hid (takeAll_c A A2 c c2 l r _ (H.out.1.grow (hd.below _)) (H.out.2.grow (hd.below _)) HV.out hr)
    clear hd
    rw [HV.out]
    go_wp2_with fail
    refine K.out.mono ?_
    rintro e w2 ⟨v, rfl, ho, hb⟩
    have S := Lib.hid (And.intro (ho.base B.out.size) (B.out.trans (hb.mono B.out.size)))
    clear ho hb
    go_wp2_with fail
    go_ret2
    exact ⟨_, rfl, S.out.1, S.out.2⟩
  · rw [Bool.not_eq_true] at hv
    have F := Lib.hid (all_no (show allF l r = none by rw [allF, if_neg (by rw [hv]; simp)]))
    have HV := Lib.hid hv
    clear hv
    go_enter Tryd.func11, Tryd.ntmps11
    go_wp2_with fail
    refine C.out.mono ?_
    rintro e w1 ⟨rfl, hd⟩
    have B := Lib.hid (hd.below w.heap.size)
    clear hd
    rw [HV.out]
    go_wp2_with fail
    go_ret2
    rw [F.out.1, F.out.2]
    exact ⟨_, rfl, Own.nil, B.out⟩
set_option maxRecDepth 100000 in
set_option maxHeartbeats 4000000 in
theorem impl_TakeAll_c (A : Option Addr) (c : Nat) (l : List Lk) (A2 : Option Addr) (c2 : Nat) (r : List Lk) (w : World) (h : Rd lkE w w.heap.size A l) (h2 : Rd lkE w w.heap.size A2 r) (hl : l.length ≤ 1048576) (hr : r.length ≤ 1048576) (hc : l.length ≤ c) (ht : TTab w) (hj : JTab w) :
    Calls Tryd.prog 13 #[.slice A l.length c, .slice A2 r.length c2] w fun e w' => ∃ v, e = .returned (.tuple #[v, .bool (allB l r)]) ∧ Own lkE 57 w' w.heap.size v (allR l r) ∧ Below w.heap.size w w' := by
  have C := Lib.hid (impl_ValidTable_c A c l w h hl hc ht)
  have H := Lib.hid (And.intro h h2)
  have T := Lib.hid (And.intro ht hj)
  clear h h2 ht hj
  by_cases hv : tabOk l = true
  · have FA := Lib.hid (show allF l r = runT l r by rw [allF, if_pos hv])
    have hl49 : l.length ≤ 49 := by have := (tabOk_iff.1 hv).2.2; omega
    have HV := Lib.hid hv
    clear hv
    go_enter Tryd.func13, Tryd.ntmps13
    go_wp2_with fail
    refine C.out.mono ?_
    rintro e w1 ⟨rfl, hb⟩
    have B := Lib.hid hb
    clear hb
    rw [HV.out]
    go_wp2_with fail
    refine (cloneLk_c A c l _ (H.out.1.grow B.out) hl).mono ?_
    rintro e w2 ⟨v2, rfl, ho, hb⟩
    have S0 := Lib.hid (And.intro (ho.base B.out.size) (B.out.trans (hb.mono B.out.size)))
    clear ho hb
    go_wp2_with fail
    go_loopw [6, 18] (fun tv i wr => ∃ (k : Nat) (m : List Lk), k ≤ r.length ∧ i = .int .i64 k ∧ Hid (runT l (r.take k) = some m) ∧ Own lkE 57 wr w.heap.size tv m ∧ m.length ≤ 49 ∧ Below w.heap.size w wr) (fun _ i _ => r.length - (intOf i).toNat)
    case atStart => exact ⟨0, l, by omega, rfl, Lib.hid rfl, S0.out.1, hl49, S0.out.2⟩
    case round =>
      obtain ⟨k, m, hk, rfl, hrun, ho, hm, hbel⟩ := hrel
      obtain ⟨At, ct, rfl, hct, _, hrt⟩ := ho.form
      by_cases hlt : k < r.length
      · obtain ⟨b, o, rfl, hb, c0, c1, c2⟩ := (H.out.2.below hbel (Nat.le_refl _)).lk hlt
        have R := Lib.hid (And.intro ho (And.intro hbel (And.intro hrt hct)))
        clear ho hbel hrt hct
        have hst := runT_take hlt hrun.out
        obtain ⟨o2, ho2⟩ : ∃ o2, takeF m r[k].who r[k].node r[k].mode = o2 := ⟨_, rfl⟩
        have HO := Lib.hid (And.intro (And.intro hst ho2) (show takeR m r[k].who r[k].node r[k].mode = o2.getD [] ∧ takeB m r[k].who r[k].node r[k].mode = o2.isSome by rw [takeR, takeB, ho2]; exact ⟨rfl, rfl⟩))
        clear hst ho2
        have TT : ∀ ob, (TTab (World.alloc _ ob) ∧ JTab (World.alloc _ ob)) ∧ Below w.heap.size w (World.alloc _ ob) := fun ob => ⟨⟨T.out.1.below (R.out.2.1.alloc R.out.2.1.size ob), T.out.2.below (R.out.2.1.alloc R.out.2.1.size ob)⟩, R.out.2.1.alloc R.out.2.1.size ob⟩
        have TA := Lib.hid TT
        clear TT
        go_wp2_with fail
        refine (impl_TakeLock_c At ct m r[k].who r[k].node r[k].mode _ (R.out.2.2.1.grow ((Below.refl _ _).alloc (Nat.le_refl _) _)) (by omega) R.out.2.2.2 (TA.out _).1.1 (TA.out _).1.2).mono ?_
        rintro e w2 ⟨v, rfl, ho, hb2⟩
        rw [HO.out.2.1] at ho
        rw [HO.out.2.2]
        have S := Lib.hid (And.intro (ho.base (TA.out _).2.size) ((TA.out _).2.trans (hb2.mono (TA.out _).2.size)))
        clear ho hb2
        cases o2 with
        | none =>
          have F := Lib.hid (all_no (FA.out.trans (runT_none (k + 1) (HO.out.1.1.trans HO.out.1.2))))
          go_wp2_with fail
          go_ret2
          rw [F.out.1, F.out.2]
          exact ⟨_, rfl, Own.nil, S.out.2⟩
        | some m2 =>
          go_wp2_with fail
          go_roundw
          case rel => exact ⟨k + 1, m2, by omega, by go_num, Lib.hid (HO.out.1.1.trans HO.out.1.2), S.out.1, by have := takeR_len m r[k].who r[k].node r[k].mode; rw [HO.out.2.1] at this; exact this, S.out.2⟩
          case measure => simp [intOf]; omega
      · have e : k = r.length := by omega
        subst e
        have F := Lib.hid (all_yes (FA.out.trans (show runT l r = some m by have := hrun.out; rwa [List.take_length] at this)))
        have R := Lib.hid (And.intro ho hbel)
        clear ho hbel hrt hct
        go_wp2_with fail
        go_ret2
        rw [F.out.1, F.out.2]
        exact ⟨_, rfl, R.out.1, R.out.2⟩
  · rw [Bool.not_eq_true] at hv
    have F := Lib.hid (all_no (show allF l r = none by rw [allF, if_neg (by rw [hv]; simp)]))
    have HV := Lib.hid hv
    clear hv
    go_enter Tryd.func13, Tryd.ntmps13
    go_wp2_with fail
    refine C.out.mono ?_
    rintro e w1 ⟨rfl, hb⟩
    have B := Lib.hid hb
    clear hb
    rw [HV.out]
    go_wp2_with fail
    go_ret2
    rw [F.out.1, F.out.2]
    exact ⟨_, rfl, Own.nil, B.out⟩
end Go.Proofs.YtfgcjdhcnalmmaaDoor
