/-
  Tables: what is held, who stands in the way: the contracts of the reference's and the program's functions.
-/
import Derived.Test.YtfgcjdhcnalmmaaDoorTab2
import Derived.Test.YtfgcjdhcnalmmaaDoorPTab2
import Derived.Test.YtfgcjdhcnalmmaaDoorTIn
namespace Go.Proofs.YtfgcjdhcnalmmaaDoor
open Go.RowKit


noncomputable def heldF (l : List Lk) (who node : Int) : Int := if tabOk l then heldL l who node else -1

set_option maxHeartbeats 1000000 in
theorem validAsk_c (A : Option Addr) (c : Nat) (l : List Lk) (who node mode : Int) (B : Nat) (w : World) (h : Rd lkE w B A l) (hl : l.length ≤ 1048576) :
    Calls Tryd.prog 93 #[.slice A l.length c, .int .i64 who, .int .i64 node, .int .i64 mode] w fun e w' => e = .returned (.bool (tabOk l && askOk who node mode)) ∧ Dr w w' := by
  have C := Lib.hid (spec_validTable_c A c l B w h hl)
  clear h
  obtain ⟨bt, hbt⟩ : ∃ bt, tabOk l = bt := ⟨_, rfl⟩
  have HB := Lib.hid hbt
  have hc : (bt && askOk who node mode) = true ∧ bt = true ∧ inR who 0 3 = true ∧ inR node 0 11 = true ∧ inR mode 1 5 = true ∨
      ((bt && askOk who node mode) = false ∧ (bt = false ∨ (bt = true ∧ inR who 0 3 = false) ∨ (bt = true ∧ inR who 0 3 = true ∧ inR node 0 11 = false) ∨ (bt = true ∧ inR who 0 3 = true ∧ inR node 0 11 = true ∧ inR mode 1 5 = false))) := by
    unfold askOk
    cases bt <;> cases inR who 0 3 <;> cases inR node 0 11 <;> cases inR mode 1 5 <;> simp
  clear hbt
  rcases hc with ⟨h0, e0, e1, e2, e3⟩ | ⟨h0, h4⟩
  · have F := Lib.hid h0
    clear h0
    subst e0
    go_enter Tryd.func93, Tryd.ntmps93
    go_wp2_with fail
    refine C.out.mono ?_
    rintro e w1 ⟨rfl, hd⟩
    have D := Lib.hid hd
    clear hd
    rw [HB.out]
    go_wp2_with (go_at_call 49; refine (inRange_c _ _ _ _).mono ?_; rintro e w' ⟨rfl, rfl⟩)
    go_ret
    exact ⟨ret_bool (by rw [HB.out, F.out]), D.out⟩
  · have F := Lib.hid h0
    clear h0
    rcases h4 with e0 | ⟨e0, e1⟩ | ⟨e0, e1, e2⟩ | ⟨e0, e1, e2, e3⟩
    all_goals
      subst e0
      go_enter Tryd.func93, Tryd.ntmps93
      go_wp2_with fail
      refine C.out.mono ?_
      rintro e w1 ⟨rfl, hd⟩
      have D := Lib.hid hd
      clear hd
      rw [HB.out]
      go_wp2_with (go_at_call 49; refine (inRange_c _ _ _ _).mono ?_; rintro e w' ⟨rfl, rfl⟩)
      go_ret
      exact ⟨ret_bool (by rw [HB.out, F.out]), D.out⟩
noncomputable def blkP (l : List Lk) (who node mode : Int) (t : Nat) : Bool := !((t : Int) == who) && !togI (heldL l (t : Int) node) mode
theorem blkL_eq (l : List Lk) (who node mode : Int) : blkL l who node mode = markU (blkP l who node mode) 4 := rfl
theorem blk_cases (l : List Lk) (who node mode : Int) (t : Nat) : (((t : Int) == who) = true ∧ ((t : Int) != who) = false ∧ blkP l who node mode t = false) ∨ (((t : Int) == who) = false ∧ ((t : Int) != who) = true ∧ togI (heldL l (t : Int) node) mode = true ∧ blkP l who node mode t = false) ∨
    (((t : Int) == who) = false ∧ ((t : Int) != who) = true ∧ togI (heldL l (t : Int) node) mode = false ∧ blkP l who node mode t = true) := by
  unfold blkP bne
  cases ((t : Int) == who) <;> cases togI (heldL l (t : Int) node) mode <;> simp
set_option maxRecDepth 100000 in
set_option maxHeartbeats 2000000 in
theorem blockers_c (A : Option Addr) (c : Nat) (l : List Lk) (who node mode : Int) (w : World) (h : Rd lkE w w.heap.size A l) (hl : l.length ≤ 1048576) (hv : l.all lkOk = true) (hm : modeB mode = true) :
    Calls Tryd.prog 70 #[.slice A l.length c, .int .i64 who, .int .i64 node, .int .i64 mode] w fun e w' => ∃ v, e = .returned v ∧ Own inE 3 w' w.heap.size v (blkL l who node mode) ∧ Below w.heap.size w w' := by
  have H := Lib.hid h
  have V := Lib.hid (And.intro hv hm)
  clear h hv hm
  have N := Lib.hid (own_new (E := inE) (e := 3) w #[] [] w.heap.size (Nat.le_refl _) (by simp) rfl)
  have B0 := Lib.hid ((Below.refl w.heap.size w).alloc (Nat.le_refl _) (.cells #[] 3))
  go_enter Tryd.func70, Tryd.ntmps70
  go_wp2_with fail
  go_loopw [9, 10] (fun v i wr => ∃ t : Nat, t ≤ 4 ∧ i = .int .i64 t ∧ Own inE 3 wr w.heap.size v (markU (blkP l who node mode) t) ∧ Below w.heap.size w wr) (fun _ i _ => 4 - (intOf i).toNat)
  case atStart => exact ⟨0, by omega, rfl, N.out, B0.out⟩
  case round =>
    obtain ⟨t, ht, rfl, ho, hbel⟩ := hrel
    obtain ⟨Ao, co, rfl, _, _, _⟩ := ho.form
    have R := Lib.hid (And.intro ho hbel)
    clear ho hbel
    by_cases hlt : t < 4
    · have M := Lib.hid (heldL_mode V.out.1 (t : Int) node)
      have hml := markU_len (blkP l who node mode) t
      rcases blk_cases l who node mode t with ⟨e1, e2, e3⟩ | ⟨e1, e2, e3, e4⟩ | ⟨e1, e2, e3, e4⟩
      · have F := Lib.hid e3
        clear e3
        go_wp2_with fail
        go_roundw
        case rel => exact ⟨t + 1, by omega, by go_num, by rw [markU, F.out]; simpa using R.out.1, R.out.2⟩
        case measure => simp [intOf]; omega
      · have F := Lib.hid e4
        clear e4
        go_wp2_with (first
          | (go_at_call 55; refine (held_c A c l (t : Int) node _ _ (H.out.below R.out.2 (Nat.le_refl _)) hl).mono ?_; rintro e w' ⟨rfl, rfl⟩)
          | (go_at_call 75; refine (goTogether_c _ _ M.out V.out.2 _).mono ?_; rintro e w' ⟨rfl, rfl⟩))
        go_roundw
        case rel => exact ⟨t + 1, by omega, by go_num, by rw [markU, F.out]; simpa using R.out.1, R.out.2⟩
        case measure => simp [intOf]; omega
      · have F := Lib.hid e4
        clear e4
        go_wp2_with (first
          | (go_at_call 55; refine (held_c A c l (t : Int) node _ _ (H.out.below R.out.2 (Nat.le_refl _)) hl).mono ?_; rintro e w' ⟨rfl, rfl⟩)
          | (go_at_call 75; refine (goTogether_c _ _ M.out V.out.2 _).mono ?_; rintro e w' ⟨rfl, rfl⟩)
          | (at_builtin; refine wpList_ap1 slIn rfl (.tmp 28) (.tmp 30) rfl _ _ (t : Int) rfl w w.heap.size _ (markU (blkP l who node mode) t) rfl R.out.1 rfl (by omega) R.out.2 (Nat.le_refl _) ?_; intro v1 w3 ho1 hb1 hg1 hat1; have Y := Lib.hid (And.intro ho1 hb1); clear ho1 hb1 hg1 hat1))
        go_roundw
        case rel => exact ⟨t + 1, by omega, by go_num, by rw [markU, if_pos F.out]; exact Y.out.1, Y.out.2⟩
        case measure => simp [intOf]; omega
    · obtain rfl : t = 4 := by omega
      go_wp2_with fail
      go_ret
      exact ⟨_, rfl, R.out.1, R.out.2⟩
end Go.Proofs.YtfgcjdhcnalmmaaDoor
