/-
  Tables: what is held, who stands in the way: the contracts of the reference's and the program's functions.
-/
import Derived.Test.YteoeojbeaehdpaaDoorTab2
import Derived.Test.YteoeojbeaehdpaaDoorPTab2
import Derived.Test.YteoeojbeaehdpaaDoorTIn
namespace Go.Proofs.YteoeojbeaehdpaaDoor
open Go.RowKit

set_option maxHeartbeats 400000 in
theorem spec_ValidTable_c (A : Option Addr) (c : Nat) (l : List Lk) (w : World) (h : Rd lkE w w.heap.size A l) (hl : l.length ≤ 1048576) :
    Calls Tryd.prog 16 #[.slice A l.length c] w fun e w' => e = .returned (.bool (tabOk l)) ∧ Below w.heap.size w w' := by
  have C := Lib.hid (spec_validTable_c A c l _ w h hl)
  clear h
  go_enter Tryd.func16, Tryd.ntmps16
  go_wp2_with fail
  refine C.out.mono ?_
  rintro e w1 ⟨rfl, hd⟩
  have B := Lib.hid (hd.below w.heap.size)
  clear hd
  go_wp2_with fail
  go_ret
  exact ⟨rfl, B.out⟩

noncomputable def heldF (l : List Lk) (who node : Int) : Int := if tabOk l then heldL l who node else -1
set_option maxHeartbeats 400000 in
theorem spec_HeldMode_c (A : Option Addr) (c : Nat) (l : List Lk) (who node : Int) (w : World) (h : Rd lkE w w.heap.size A l) (hl : l.length ≤ 1048576) :
    Calls Tryd.prog 20 #[.slice A l.length c, .int .i64 who, .int .i64 node] w fun e w' => e = .returned (.int .i64 (heldF l who node)) ∧ Below w.heap.size w w' := by
  have C := Lib.hid (spec_validTable_c A c l _ w h hl)
  have H := Lib.hid h
  clear h
  by_cases hv : tabOk l = true
  · have F := Lib.hid (show heldF l who node = heldL l who node by rw [heldF, if_pos hv])
    go_enter Tryd.func20, Tryd.ntmps20
    go_wp2_with fail
    refine C.out.mono ?_
    rintro e w1 ⟨rfl, hd⟩
    have B := Lib.hid hd
    clear hd
    go_wp2_with fail
    refine (held_c A c l who node _ _ (H.out.dr B.out) hl).mono ?_
    rintro e w' ⟨rfl, rfl⟩
    go_wp2_with fail
    go_ret
    exact ⟨ret_int F.out.symm, B.out.below _⟩
  · rw [Bool.not_eq_true] at hv
    have F := Lib.hid (show heldF l who node = -1 by rw [heldF, hv]; rfl)
    go_enter Tryd.func20, Tryd.ntmps20
    go_wp2_with fail
    refine C.out.mono ?_
    rintro e w1 ⟨rfl, hd⟩
    have B := Lib.hid hd
    clear hd
    go_wp2_with fail
    go_ret
    exact ⟨ret_int F.out.symm, B.out.below _⟩
set_option maxHeartbeats 400000 in
theorem impl_HeldMode_c (A : Option Addr) (c : Nat) (l : List Lk) (who node : Int) (w : World) (h : Rd lkE w w.heap.size A l) (hl : l.length ≤ 1048576) (hc : l.length ≤ c) (ht : TTab w) :
    Calls Tryd.prog 21 #[.slice A l.length c, .int .i64 who, .int .i64 node] w fun e w' => e = .returned (.int .i64 (heldF l who node)) ∧ Below w.heap.size w w' := by
  have C := Lib.hid (impl_ValidTable_c A c l w h hl hc ht)
  have H := Lib.hid h
  clear h ht
  by_cases hv : tabOk l = true
  · have F := Lib.hid (show heldF l who node = heldL l who node by rw [heldF, if_pos hv])
    go_enter Tryd.func21, Tryd.ntmps21
    go_wp2_with fail
    refine C.out.mono ?_
    rintro e w1 ⟨rfl, hb⟩
    have B := Lib.hid hb
    clear hb
    go_wp2_with fail
    refine (heldIn_c A c l who node _ (H.out.grow B.out) hl).mono ?_
    rintro e w2 ⟨rfl, hb⟩
    have B2 := Lib.hid (B.out.trans (hb.mono B.out.size))
    clear hb
    go_wp2_with fail
    go_ret
    exact ⟨ret_int F.out.symm, B2.out⟩
  · rw [Bool.not_eq_true] at hv
    have F := Lib.hid (show heldF l who node = -1 by rw [heldF, hv]; rfl)
    go_enter Tryd.func21, Tryd.ntmps21
    go_wp2_with fail
    refine C.out.mono ?_
    rintro e w1 ⟨rfl, hb⟩
    have B := Lib.hid hb
    clear hb
    go_wp2_with fail
    go_ret
    exact ⟨ret_int F.out.symm, B.out⟩

set_option maxHeartbeats 1000000 in
theorem validAsk_c (A : Option Addr) (c : Nat) (l : List Lk) (who node mode : Int) (B : Nat) (w : World) (h : Rd lkE w B A l) (hl : l.length ≤ 1048576) :
    Calls Tryd.prog 64 #[.slice A l.length c, .int .i64 who, .int .i64 node, .int .i64 mode] w fun e w' => e = .returned (.bool (tabOk l && askOk who node mode)) ∧ Dr w w' := by
  have C := Lib.hid (spec_validTable_c A c l B w h hl)
  clear h
  obtain ⟨bt, hbt⟩ : ∃ bt, tabOk l = bt := ⟨_, rfl⟩
  have HB := Lib.hid hbt
  have hc : (bt && askOk who node mode) = true ∧ bt = true ∧ inR who 0 3 = true ∧ inR node 0 11 = true ∧ inR mode 1 5 = true ∨
      ((bt && askOk who node mode) = false ∧ (bt = false ∨ (bt = true ∧ inR who 0 3 = false) ∨ (bt = true ∧ inR who 0 3 = true ∧ inR node 0 11 = false) ∨ (bt = true ∧ inR who 0 3 = true ∧ inR node 0 11 = true ∧ inR mode 1 5 = false))) := by
    unfold askOk
    cases bt <;> cases inR who 0 3 <;> cases inR node 0 11 <;> cases inR mode 1 5 <;> simp
  clear hbt
  rcases hc with ⟨h0, e0, e1, e2, e3⟩ | ⟨h0, h4⟩
  · have F := Lib.hid h0
    clear h0
    subst e0
    go_enter Tryd.func64, Tryd.ntmps64
    go_wp2_with fail
    refine C.out.mono ?_
    rintro e w1 ⟨rfl, hd⟩
    have D := Lib.hid hd
    clear hd
    rw [HB.out]
    go_wp2_with (go_at_call 80; refine (inRange_c _ _ _ _).mono ?_; rintro e w' ⟨rfl, rfl⟩)
    go_ret
    exact ⟨ret_bool (by rw [HB.out, F.out]), D.out⟩
  · have F := Lib.hid h0
    clear h0
    rcases h4 with e0 | ⟨e0, e1⟩ | ⟨e0, e1, e2⟩ | ⟨e0, e1, e2, e3⟩
    all_goals
      subst e0
      go_enter Tryd.func64, Tryd.ntmps64
      go_wp2_with fail
      refine C.out.mono ?_
      rintro e w1 ⟨rfl, hd⟩
      have D := Lib.hid hd
      clear hd
      rw [HB.out]
      go_wp2_with (go_at_call 80; refine (inRange_c _ _ _ _).mono ?_; rintro e w' ⟨rfl, rfl⟩)
      go_ret
      exact ⟨ret_bool (by rw [HB.out, F.out]), D.out⟩
noncomputable def blkP (l : List Lk) (who node mode : Int) (t : Nat) : Bool := !((t : Int) == who) && !togI (heldL l (t : Int) node) mode
theorem blkL_eq (l : List Lk) (who node mode : Int) : blkL l who node mode = markU (blkP l who node mode) 4 := rfl
theorem blk_cases (l : List Lk) (who node mode : Int) (t : Nat) : (((t : Int) == who) = true ∧ ((t : Int) != who) = false ∧ blkP l who node mode t = false) ∨ (((t : Int) == who) = false ∧ ((t : Int) != who) = true ∧ togI (heldL l (t : Int) node) mode = true ∧ blkP l who node mode t = false) ∨
    (((t : Int) == who) = false ∧ ((t : Int) != who) = true ∧ togI (heldL l (t : Int) node) mode = false ∧ blkP l who node mode t = true) := by
  unfold blkP bne
  cases ((t : Int) == who) <;> cases togI (heldL l (t : Int) node) mode <;> simp
set_option maxRecDepth 100000 in
set_option maxHeartbeats 2000000 in
theorem blockers_c (A : Option Addr) (c : Nat) (l : List Lk) (who node mode : Int) (w : World) (h : Rd lkE w w.heap.size A l) (hl : l.length ≤ 1048576) (hv : l.all lkOk = true) (hm : modeB mode = true) :
    Calls Tryd.prog 65 #[.slice A l.length c, .int .i64 who, .int .i64 node, .int .i64 mode] w fun e w' => ∃ v, e = .returned v ∧ Own inE 3 w' w.heap.size v (blkL l who node mode) ∧ Below w.heap.size w w' := by
  have H := Lib.hid h
  have V := Lib.hid (And.intro hv hm)
  clear h hv hm
  have N := Lib.hid (own_new (E := inE) (e := 3) w #[] [] w.heap.size (Nat.le_refl _) (by simp) rfl)
  have B0 := Lib.hid ((Below.refl w.heap.size w).alloc (Nat.le_refl _) (.cells #[] 3))
  go_enter Tryd.func65, Tryd.ntmps65
  go_wp2_with fail
  go_loopw [9, 10] (fun v i wr => ∃ t : Nat, t ≤ 4 ∧ i = .int .i64 t ∧ Own inE 3 wr w.heap.size v (markU (blkP l who node mode) t) ∧ Below w.heap.size w wr) (fun _ i _ => 4 - (intOf i).toNat)
  case atStart => exact ⟨0, by omega, rfl, N.out, B0.out⟩
  case round =>
    obtain ⟨t, ht, rfl, ho, hbel⟩ := hrel
    obtain ⟨Ao, co, rfl, _, _, _⟩ := ho.form
    have R := Lib.hid (And.intro ho hbel)
    clear ho hbel
    by_cases hlt : t < 4
    · have M := Lib.hid (heldL_mode V.out.1 (t : Int) node)
      have hml := markU_len (blkP l who node mode) t
      rcases blk_cases l who node mode t with ⟨e1, e2, e3⟩ | ⟨e1, e2, e3, e4⟩ | ⟨e1, e2, e3, e4⟩
      · have F := Lib.hid e3
        clear e3
        go_wp2_with fail
        go_roundw
        case rel => exact ⟨t + 1, by omega, by go_num, by rw [markU, F.out]; simpa using R.out.1, R.out.2⟩
        case measure => simp [intOf]; omega
      · have F := Lib.hid e4
        clear e4
        go_wp2_with (first
          | (go_at_call 62; refine (held_c A c l (t : Int) node _ _ (H.out.below R.out.2 (Nat.le_refl _)) hl).mono ?_; rintro e w' ⟨rfl, rfl⟩)
          | (go_at_call 81; refine (goTogether_c _ _ M.out V.out.2 _).mono ?_; rintro e w' ⟨rfl, rfl⟩))
        go_roundw
        case rel => exact ⟨t + 1, by omega, by go_num, by rw [markU, F.out]; simpa using R.out.1, R.out.2⟩
        case measure => simp [intOf]; omega
      · have F := Lib.hid e4
        clear e4
        go_wp2_with (first
          | (go_at_call 62; refine (held_c A c l (t : Int) node _ _ (H.out.below R.out.2 (Nat.le_refl _)) hl).mono ?_; rintro e w' ⟨rfl, rfl⟩)
          | (go_at_call 81; refine (goTogether_c _ _ M.out V.out.2 _).mono ?_; rintro e w' ⟨rfl, rfl⟩)
          | (at_builtin; refine wpList_ap1 slIn rfl (.tmp 28) (.tmp 30) rfl _ _ (t : Int) rfl w w.heap.size _ (markU (blkP l who node mode) t) rfl R.out.1 rfl (by omega) R.out.2 (Nat.le_refl _) ?_; intro v1 w3 ho1 hb1 hg1 hat1; have Y := Lib.hid (And.intro ho1 hb1); clear ho1 hb1 hg1 hat1))
        go_roundw
        case rel => exact ⟨t + 1, by omega, by go_num, by rw [markU, if_pos F.out]; exact Y.out.1, Y.out.2⟩
        case measure => simp [intOf]; omega
    · obtain rfl : t = 4 := by omega
      go_wp2_with fail
      go_ret
      exact ⟨_, rfl, R.out.1, R.out.2⟩
set_option maxHeartbeats 1000000 in
theorem spec_LockBlockers_c (A : Option Addr) (c : Nat) (l : List Lk) (who node mode : Int) (w : World) (h : Rd lkE w w.heap.size A l) (hl : l.length ≤ 1048576) :
    Calls Tryd.prog 22 #[.slice A l.length c, .int .i64 who, .int .i64 node, .int .i64 mode] w fun e w' => ∃ v, e = .returned v ∧ Own inE 3 w' w.heap.size v (blkF l who node mode) ∧ Below w.heap.size w w' := by
  have C := Lib.hid (validAsk_c A c l who node mode _ w h hl)
  have H := Lib.hid h
  clear h
  by_cases hv : (tabOk l && askOk who node mode) = true
  · have F := Lib.hid (show blkF l who node mode = blkL l who node (joinI (heldL l who node) mode) by rw [blkF, if_pos hv])
    have V := Lib.hid (show l.all lkOk = true ∧ modeB mode = true ∧ modeB (heldL l who node) = true ∧ modeB (joinI (heldL l who node) mode) = true by
      rw [Bool.and_eq_true] at hv
      have h1 := (tabOk_iff.1 hv.1).1
      have h2 := (askOk_iff.1 hv.2).2.2
      have h3 := heldL_mode h1 who node
      have h4 := joinI_ok h3 h2
      exact ⟨h1, modeB_iff.2 (by omega), h3, modeB_iff.2 (by omega)⟩)
    have HV := Lib.hid hv
    clear hv
    go_enter Tryd.func22, Tryd.ntmps22
    go_wp2_with fail
    refine C.out.mono ?_
    rintro e w1 ⟨rfl, hd⟩
    have B := Lib.hid hd
    clear hd
    rw [HV.out]
    go_wp2_with (first
      | (go_at_call 62; refine (held_c A c l who node _ _ (H.out.dr B.out) hl).mono ?_; rintro e w' ⟨rfl, rfl⟩)
      | (go_at_call 66; refine (joined_c _ _ V.out.2.2.1 V.out.2.1 _).mono ?_; rintro e w' ⟨rfl, rfl⟩))
    refine (blockers_c A c l who node _ _ ((H.out.dr B.out).more (B.out.below w.heap.size).size) hl V.out.1 V.out.2.2.2).mono ?_
    rintro e w2 ⟨v, rfl, ho, hb⟩
    have R := Lib.hid (And.intro (ho.base (B.out.below w.heap.size).size) ((B.out.below w.heap.size).trans (hb.mono (B.out.below w.heap.size).size)))
    clear ho hb
    go_wp2_with fail
    go_ret
    exact ⟨v, rfl, by rw [F.out]; exact R.out.1, R.out.2⟩
  · rw [Bool.not_eq_true] at hv
    have F := Lib.hid (show blkF l who node mode = [] by rw [blkF, hv]; rfl)
    have HV := Lib.hid hv
    clear hv
    go_enter Tryd.func22, Tryd.ntmps22
    go_wp2_with fail
    refine C.out.mono ?_
    rintro e w1 ⟨rfl, hd⟩
    have B := Lib.hid hd
    clear hd
    rw [HV.out]
    go_wp2_with fail
    go_ret
    exact ⟨_, rfl, by rw [F.out]; exact Own.nil, B.out.below _⟩
end Go.Proofs.YteoeojbeaehdpaaDoor
