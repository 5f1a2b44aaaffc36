/-
  Tables: who stands in the way, by the program; the locks of a transaction freed.
-/
import Derived.Test.YteoeojbeaehdpaaDoorTab3
import Derived.Test.YteoeojbeaehdpaaDoorMem3
namespace Go.Proofs.YteoeojbeaehdpaaDoor
open Go.RowKit

set_option maxRecDepth 100000 in
set_option maxHeartbeats 4000000 in
theorem impl_LockBlockers_c (A : Option Addr) (c : Nat) (l : List Lk) (who node mode : Int) (w : World) (h : Rd lkE w w.heap.size A l) (hl : l.length ≤ 1048576) (hc : l.length ≤ c) (ht : TTab w) (hj : JTab w) :
    Calls Tryd.prog 23 #[.slice A l.length c, .int .i64 who, .int .i64 node, .int .i64 mode] w fun e w' => ∃ v, e = .returned v ∧ Own inE 3 w' w.heap.size v (blkF l who node mode) ∧ Below w.heap.size w w' := by
  have C := Lib.hid (impl_ValidTable_c A c l w h hl hc ht)
  have H := Lib.hid h
  have T := Lib.hid (And.intro ht hj)
  clear h ht hj
  by_cases hv : tabOk l = true
  · by_cases ha : askOk who node mode = true
    · have F := Lib.hid (show blkF l who node mode = blkL l who node (joinI (heldL l who node) mode) by rw [blkF, hv, ha]; rfl)
      have V0 : l.all lkOk = true ∧ modeB mode = true ∧ modeB (heldL l who node) = true ∧ modeB (joinI (heldL l who node) mode) = true := by
        have h1 := (tabOk_iff.1 hv).1
        have h2 := (askOk_iff.1 ha).2.2
        have h3 := heldL_mode h1 who node
        have h4 := joinI_ok h3 h2
        exact ⟨h1, modeB_iff.2 (by omega), h3, modeB_iff.2 (by omega)⟩
      have V := Lib.hid V0
      have J := Lib.hid (show joinM (heldL l who node) mode = joinI (heldL l who node) mode by rw [joinM, V0.2.1, V0.2.2.1]; rfl)
      clear V0
      go_enter Tryd.func23, Tryd.ntmps23
      go_wp2_with fail
      refine C.out.mono ?_
      rintro e w1 ⟨rfl, hb⟩
      have B := Lib.hid hb
      clear hb
      go_wp2_with (go_at_call 59; refine (isAsk_c _ _ _ _).mono ?_; rintro e w' ⟨rfl, rfl⟩)
      refine (heldIn_c A c l who node _ (H.out.grow B.out) hl).mono ?_
      rintro e w2 ⟨rfl, hb⟩
      have B2 := Lib.hid (B.out.trans (hb.mono B.out.size))
      clear hb
      go_wp2_with fail
      refine (impl_JoinModes_c _ _ _ (T.out.2.below B2.out)).mono ?_
      rintro e w' ⟨rfl, rfl⟩
      rw [J.out]
      generalize hq : joinI (heldL l who node) mode = q
      have V2 := Lib.hid (show modeB q = true by rw [← hq]; exact V.out.2.2.2)
      have F2 := Lib.hid (show blkF l who node mode = markU (blkP l who node q) 4 by rw [← hq]; exact F.out)
      clear hq
      go_wp2_with fail
      go_loopw [10, 28] (fun v i wr => ∃ t : Nat, t ≤ 4 ∧ i = .int .i64 t ∧ Own inE 3 wr w.heap.size v (markU (blkP l who node q) t) ∧ Below w.heap.size w wr) (fun _ i _ => 4 - (intOf i).toNat)
      case atStart => exact ⟨0, by omega, rfl, Own.nil, B2.out⟩
      case round =>
        obtain ⟨t, ht, rfl, ho, hbel⟩ := hrel
        obtain ⟨Ao, co, rfl, _, _, _⟩ := ho.form
        have R := Lib.hid (And.intro ho hbel)
        clear ho hbel
        by_cases hlt : t < 4
        · have M0 := heldL_mode V.out.1 (t : Int) node
          have M := Lib.hid (show togM (heldL l (t : Int) node) q = togI (heldL l (t : Int) node) q from togM_of M0 V2.out)
          clear M0
          have hml := markU_len (blkP l who node q) t
          rcases blk_cases l who node q t with ⟨e1, e2, e3⟩ | ⟨e1, e2, e3, e4⟩ | ⟨e1, e2, e3, e4⟩
          · have F := Lib.hid e3
            clear e3
            go_wp2_with fail
            go_roundw
            case rel => exact ⟨t + 1, by omega, by go_num, by rw [markU, F.out]; simpa using R.out.1, R.out.2⟩
            case measure => simp [intOf]; omega
          · have F := Lib.hid (And.intro e4 (M.out.trans e3))
            clear e3 e4
            go_wp2_with fail
            refine (heldIn_c A c l (t : Int) node _ (H.out.grow R.out.2) hl).mono ?_
            rintro e w3 ⟨rfl, hb⟩
            have Z := Lib.hid (And.intro (R.out.1.grow hb) (R.out.2.trans (hb.mono R.out.2.size)))
            clear hb
            go_wp2_with fail
            refine (impl_GoTogether_c _ _ _ (T.out.1.below Z.out.2)).mono ?_
            rintro e w' ⟨rfl, rfl⟩
            rw [F.out.2]
            go_wp2_with fail
            go_roundw
            case rel => exact ⟨t + 1, by omega, by go_num, by rw [markU, F.out.1]; simpa using Z.out.1, Z.out.2⟩
            case measure => simp [intOf]; omega
          · have F := Lib.hid (And.intro e4 (M.out.trans e3))
            clear e3 e4
            go_wp2_with fail
            refine (heldIn_c A c l (t : Int) node _ (H.out.grow R.out.2) hl).mono ?_
            rintro e w3 ⟨rfl, hb⟩
            have Z := Lib.hid (And.intro (R.out.1.grow hb) (R.out.2.trans (hb.mono R.out.2.size)))
            clear hb
            go_wp2_with fail
            refine (impl_GoTogether_c _ _ _ (T.out.1.below Z.out.2)).mono ?_
            rintro e w' ⟨rfl, rfl⟩
            rw [F.out.2]
            go_wp2_with (at_builtin; refine wpList_ap1 slIn rfl (.tmp 43) (.tmp 45) rfl _ _ (t : Int) rfl w w.heap.size _ (markU (blkP l who node q) t) rfl Z.out.1 rfl (by omega) Z.out.2 (Nat.le_refl _) ?_; intro v1 w5 ho1 hb1 hg1 hat1; have Y := Lib.hid (And.intro ho1 hb1); clear ho1 hb1 hg1 hat1)
            go_roundw
            case rel => exact ⟨t + 1, by omega, by go_num, by rw [markU, if_pos F.out.1]; exact Y.out.1, Y.out.2⟩
            case measure => simp [intOf]; omega
        · obtain rfl : t = 4 := by omega
          go_wp2_with fail
          go_ret
          exact ⟨_, rfl, by rw [F2.out]; exact R.out.1, R.out.2⟩
    · rw [Bool.not_eq_true] at ha
      have F := Lib.hid (show blkF l who node mode = [] by rw [blkF, hv, ha]; rfl)
      go_enter Tryd.func23, Tryd.ntmps23
      go_wp2_with fail
      refine C.out.mono ?_
      rintro e w1 ⟨rfl, hb⟩
      have B := Lib.hid hb
      clear hb
      go_wp2_with (go_at_call 59; refine (isAsk_c _ _ _ _).mono ?_; rintro e w' ⟨rfl, rfl⟩)
      go_ret
      exact ⟨_, rfl, by rw [F.out]; exact Own.nil, B.out⟩
  · rw [Bool.not_eq_true] at hv
    have F := Lib.hid (show blkF l who node mode = [] by rw [blkF, hv]; rfl)
    go_enter Tryd.func23, Tryd.ntmps23
    go_wp2_with fail
    refine C.out.mono ?_
    rintro e w1 ⟨rfl, hb⟩
    have B := Lib.hid hb
    clear hb
    go_wp2_with fail
    go_ret
    exact ⟨_, rfl, by rw [F.out]; exact Own.nil, B.out⟩
def keepL (who : Int) (x : Lk) : Bool := !(x.who == who)
theorem freeL_eq (l : List Lk) (who : Int) : freeL l who = l.filter (keepL who) := rfl
set_option maxRecDepth 100000 in
set_option maxHeartbeats 2000000 in
theorem spec_FreeLocks_c (A : Option Addr) (c : Nat) (l : List Lk) (who : Int) (w : World) (h : Rd lkE w w.heap.size A l) (hl : l.length ≤ 1048576) :
    Calls Tryd.prog 31 #[.slice A l.length c, .int .i64 who] w fun e w' => ∃ v, e = .returned v ∧ Own lkE 64 w' w.heap.size v (freeF l who) ∧ Below w.heap.size w w' := by
  have H := Lib.hid h
  clear h
  have N := Lib.hid (own_new (E := lkE) (e := 64) w #[] [] w.heap.size (Nat.le_refl _) (by simp) rfl)
  have B0 := Lib.hid ((Below.refl w.heap.size w).alloc (Nat.le_refl _) (.cells #[] 64))
  by_cases hv : tabOk l = true
  · have F := Lib.hid (show freeF l who = l.filter (keepL who) by rw [freeF, if_pos hv]; rfl)
    have HV := Lib.hid hv
    clear hv
    go_enter Tryd.func31, Tryd.ntmps31
    go_wp2_with fail
    refine (spec_validTable_c A c l _ _ (H.out.grow B0.out) hl).mono ?_
    rintro e w1 ⟨rfl, hd⟩
    have B1 := Lib.hid (And.intro (B0.out.trans (hd.below _)) (N.out.grow (hd.below _)))
    clear hd
    rw [HV.out]
    go_wp2_with fail
    go_loopw [5, 6] (fun vo i wr => ∃ k : Nat, k ≤ l.length ∧ i = .int .i64 k ∧ Own lkE 64 wr w.heap.size vo ((l.take k).filter (keepL who)) ∧ Below w.heap.size w wr) (fun _ i _ => l.length - (intOf i).toNat)
    case atStart => exact ⟨0, by omega, rfl, B1.out.2, B1.out.1⟩
    case round =>
      obtain ⟨k, hk, rfl, ho, hbel⟩ := hrel
      obtain ⟨Ao, co, rfl, _, _, _⟩ := ho.form
      have R := Lib.hid (And.intro ho hbel)
      by_cases hlt : k < l.length
      · obtain ⟨b, o, rfl, hb, c0, c1, c2⟩ := (H.out.below hbel (Nat.le_refl _)).lk hlt
        have hlf : ((l.take k).filter (keepL who)).length ≤ 1048576 := Nat.le_trans (filter_take_le _ _ _) hl
        clear ho hbel
        by_cases h1 : (l[k].who == who) = true
        · have hn1 : (l[k].who != who) = false := by rw [bne, h1]; rfl
          have hf := Lib.hid (filter_no (p := keepL who) hlt (by simp [keepL, h1]))
          go_wp2_with fail
          go_roundw
          case rel => exact ⟨k + 1, by omega, by go_num, by rw [hf.out]; exact R.out.1, R.out.2⟩
          case measure => simp [intOf]; omega
        · rw [Bool.not_eq_true] at h1
          have hn1 : (l[k].who != who) = true := by rw [bne, h1]; rfl
          have hf := Lib.hid (filter_yes (p := keepL who) hlt (by simp [keepL, h1]))
          go_wp2_with (at_builtin; refine wpList_ap1 slLk rfl (.tmp 24) (.tmp 29) rfl _ _ l[k] rfl w w.heap.size _ _ rfl R.out.1 rfl (by omega) R.out.2 (Nat.le_refl _) ?_; intro v1 w1 ho1 hb1 hg1 hat1; have Z := Lib.hid (And.intro ho1 hb1); clear ho1 hb1 hg1 hat1)
          go_roundw
          case rel => exact ⟨k + 1, by omega, by go_num, by rw [hf.out]; exact Z.out.1, Z.out.2⟩
          case measure => simp [intOf]; omega
      · have hf := Lib.hid (filter_done (p := keepL who) (l := l) (k := k) (by omega))
        clear ho hbel
        go_wp2_with fail
        go_ret
        exact ⟨_, rfl, by rw [F.out, ← hf.out]; exact R.out.1, R.out.2⟩
  · rw [Bool.not_eq_true] at hv
    have F := Lib.hid (show freeF l who = [] by rw [freeF, hv]; rfl)
    have HV := Lib.hid hv
    clear hv
    go_enter Tryd.func31, Tryd.ntmps31
    go_wp2_with fail
    refine (spec_validTable_c A c l _ _ (H.out.grow B0.out) hl).mono ?_
    rintro e w1 ⟨rfl, hd⟩
    have B1 := Lib.hid (B0.out.trans (hd.below _))
    clear hd
    rw [HV.out]
    go_wp2_with fail
    go_ret
    exact ⟨_, rfl, by rw [F.out]; exact Own.nil, B1.out⟩
set_option maxRecDepth 100000 in
set_option maxHeartbeats 2000000 in
theorem impl_FreeLocks_c (A : Option Addr) (c : Nat) (l : List Lk) (who : Int) (w : World) (h : Rd lkE w w.heap.size A l) (hl : l.length ≤ 1048576) (hc : l.length ≤ c) (ht : TTab w) :
    Calls Tryd.prog 32 #[.slice A l.length c, .int .i64 who] w fun e w' => ∃ v, e = .returned v ∧ Own lkE 64 w' w.heap.size v (freeF l who) ∧ Below w.heap.size w w' := by
  have C := Lib.hid (impl_ValidTable_c A c l w h hl hc ht)
  have H := Lib.hid h
  clear h ht
  by_cases hv : tabOk l = true
  · have F := Lib.hid (show freeF l who = l.filter (keepL who) by rw [freeF, if_pos hv]; rfl)
    go_enter Tryd.func32, Tryd.ntmps32
    go_wp2_with fail
    refine C.out.mono ?_
    rintro e w1 ⟨rfl, hb⟩
    have B1 := Lib.hid hb
    clear hb
    go_wp2_with fail
    go_loopw [5, 13] (fun vo i wr => ∃ k : Nat, k ≤ l.length ∧ i = .int .i64 k ∧ Own lkE 64 wr w.heap.size vo ((l.take k).filter (keepL who)) ∧ Below w.heap.size w wr) (fun _ i _ => l.length - (intOf i).toNat)
    case atStart => exact ⟨0, by omega, rfl, Own.nil, B1.out⟩
    case round =>
      obtain ⟨k, hk, rfl, ho, hbel⟩ := hrel
      obtain ⟨Ao, co, rfl, _, _, _⟩ := ho.form
      have R := Lib.hid (And.intro ho hbel)
      by_cases hlt : k < l.length
      · obtain ⟨b, o, rfl, hb, c0, c1, c2⟩ := (H.out.below hbel (Nat.le_refl _)).lk hlt
        have hlf : ((l.take k).filter (keepL who)).length ≤ 1048576 := Nat.le_trans (filter_take_le _ _ _) hl
        clear ho hbel
        by_cases h1 : (l[k].who == who) = true
        · have hn1 : (l[k].who != who) = false := by rw [bne, h1]; rfl
          have hf := Lib.hid (filter_no (p := keepL who) hlt (by simp [keepL, h1]))
          go_wp2_with fail
          go_roundw
          case rel => exact ⟨k + 1, by omega, by go_num, by rw [hf.out]; exact R.out.1.alloc _, R.out.2.alloc R.out.2.size _⟩
          case measure => simp [intOf]; omega
        · rw [Bool.not_eq_true] at h1
          have hn1 : (l[k].who != who) = true := by rw [bne, h1]; rfl
          have hf := Lib.hid (filter_yes (p := keepL who) hlt (by simp [keepL, h1]))
          go_wp2_with (at_builtin; go_loud (refine wpList_ap1g slLk rfl (.tmp 21) (.tmp 23) rfl _ _ l[k] rfl w w.heap.size _ _ rfl (R.out.1.alloc _) _ (by simp) rfl (by omega) (R.out.2.alloc R.out.2.size _) (Nat.le_refl _) ?_); intro v1 w1 ho1 hb1 hg1 hat1; have Z := Lib.hid (And.intro ho1 hb1); clear ho1 hb1 hg1 hat1)
          go_roundw
          case rel => exact ⟨k + 1, by omega, by go_num, by rw [hf.out]; exact Z.out.1, Z.out.2⟩
          case measure => simp [intOf]; omega
      · have hf := Lib.hid (filter_done (p := keepL who) (l := l) (k := k) (by omega))
        clear ho hbel
        go_wp2_with fail
        go_ret
        exact ⟨_, rfl, by rw [F.out, ← hf.out]; exact R.out.1, R.out.2⟩
  · rw [Bool.not_eq_true] at hv
    have F := Lib.hid (show freeF l who = [] by rw [freeF, hv]; rfl)
    go_enter Tryd.func32, Tryd.ntmps32
    go_wp2_with fail
    refine C.out.mono ?_
    rintro e w1 ⟨rfl, hb⟩
    have B1 := Lib.hid hb
    clear hb
    go_wp2_with fail
    go_ret
    exact ⟨_, rfl, by rw [F.out]; exact Own.nil, B1.out⟩
end Go.Proofs.YteoeojbeaehdpaaDoor
