/-
  A lock is taken: the contracts of the reference's functions.
-/
import Derived.Test.YtfgcjdhcnalmmaaDoorTab4
import Derived.Test.YtfgcjdhcnalmmaaDoorMem4
import Derived.Test.YtfgcjdhcnalmmaaDoorClLk
namespace Go.Proofs.YtfgcjdhcnalmmaaDoor
open Go.RowKit

theorem grantL_none {l : List Lk} {who node mode : Int} (h : ∀ k (hk : k < l.length), isL who node l[k] = false) : grantL l who node mode = l ++ [⟨who, node, mode⟩] := by
  have e : l.findIdx? (isL who node) = none := by
    rw [List.findIdx?_eq_none_iff]
    intro x hx
    obtain ⟨k, hk, rfl⟩ := List.mem_iff_getElem.1 hx
    exact h k hk
  simp [grantL, e]
theorem grantL_some {l : List Lk} {who node mode : Int} {i : Nat} (hi : i < l.length) (h : isL who node l[i] = true) (h2 : ∀ k (hk : k < i), isL who node (l[k]'(by omega)) = false) : grantL l who node mode = l.set i { l[i] with mode := joinI l[i].mode mode } := by
  have e : l.findIdx? (isL who node) = some i := by
    rw [List.findIdx?_eq_some_iff_getElem]
    exact ⟨hi, h, fun j hj => by simp [h2 j hj]⟩
  simp only [grantL, e]
  apply List.ext_getElem (by simp)
  intro k h3 h4
  rw [List.getElem_modify, List.getElem_set]
  split
  · rename_i e2; subst e2; rfl
  · rfl
noncomputable def takeR (l : List Lk) (who node mode : Int) : List Lk := (takeF l who node mode).getD []
noncomputable def takeB (l : List Lk) (who node mode : Int) : Bool := (takeF l who node mode).isSome
theorem take_no {l : List Lk} {who node mode : Int} (h : takeF l who node mode = none) : takeR l who node mode = [] ∧ takeB l who node mode = false := by simp [takeR, takeB, h]
theorem take_yes {l m : List Lk} {who node mode : Int} (h : takeF l who node mode = some m) : takeR l who node mode = m ∧ takeB l who node mode = true := by simp [takeR, takeB, h]
theorem takeF_bad {l : List Lk} {who node mode : Int} (h : (tabOk l && askOk who node mode) = false) : takeF l who node mode = none := by rw [takeF, h]; rfl
theorem takeF_blk {l : List Lk} {who node mode : Int} (h : 0 < (blkL l who node (joinI (heldL l who node) mode)).length) : takeF l who node mode = none := by
  have : (blkL l who node (joinI (heldL l who node) mode)).isEmpty = false := by
    cases h2 : blkL l who node (joinI (heldL l who node) mode) with
    | nil => rw [h2] at h; simp at h
    | cons => rfl
  rw [takeF, this, Bool.and_false]; rfl
theorem takeF_ok {l : List Lk} {who node mode : Int} (h : (tabOk l && askOk who node mode) = true) (h2 : ¬ 0 < (blkL l who node (joinI (heldL l who node) mode)).length) : takeF l who node mode = some (grantL l who node mode) := by
  have : blkL l who node (joinI (heldL l who node) mode) = [] := List.eq_nil_of_length_eq_zero (by omega)
  rw [takeF, this, h]; rfl
theorem takeR_len (l : List Lk) (who node mode : Int) : (takeR l who node mode).length ≤ 49 := by
  unfold takeR
  cases h : takeF l who node mode with
  | none => simp
  | some m =>
    have h1 := takeF_keeps h
    have h2 := (tabOk_iff.1 (takeF_some h).1).2.2
    simp only [Option.getD_some]; omega

set_option maxRecDepth 100000 in
set_option maxHeartbeats 2000000 in
theorem grant_c (A : Option Addr) (c : Nat) (l : List Lk) (who node mode : Int) (w : World) (h : Rd lkE w w.heap.size A l) (hl : l.length ≤ 1048576) (hv : l.all lkOk = true) (hm : modeB mode = true) :
    Calls Tryd.prog 94 #[.slice A l.length c, .int .i64 who, .int .i64 node, .int .i64 mode] w fun e w' => ∃ v, e = .returned v ∧ Own lkE 57 w' w.heap.size v (grantL l who node mode) ∧ Below w.heap.size w w' := by
  have H := Lib.hid h
  have V := Lib.hid (And.intro hv hm)
  clear h hv hm
  have N := Lib.hid (own_new (E := lkE) (e := 57) w #[] [] w.heap.size (Nat.le_refl _) (by simp) rfl)
  have B0 := Lib.hid ((Below.refl w.heap.size w).alloc (Nat.le_refl _) (.cells #[] 57))
  go_enter Tryd.func94, Tryd.ntmps94
  go_wp2_with (at_builtin; refine wpList_ap slLk rfl (.tmp 11) (.tmp 12) rfl w.heap.size _ [] rfl N.out _ A c l rfl (H.out.grow B0.out) (by simp; omega) (by simp) ?_; intro v1 w1 ho1 hg1 hat1; rw [List.nil_append] at ho1; have Z := Lib.hid (And.intro ho1 (below_own B0.out N.out hg1 (by simp))); clear ho1 hg1 hat1)
  obtain ⟨Ao, co, rfl, _, _, _⟩ := Z.out.1.form
  go_loop [10] (fun i => ∃ k : Nat, k ≤ l.length ∧ i = .int .i64 k ∧ Hid (∀ j (hj : j < l.length), j < k → isL who node l[j] = false)) (fun i => l.length - (intOf i).toNat)
  case atStart => exact ⟨0, by omega, rfl, Lib.hid (fun j _ h => by omega)⟩
  case round =>
    obtain ⟨k, hk, rfl, hno⟩ := hrel
    by_cases hlt : k < l.length
    · obtain ⟨g, c', cs, e1, hbg, hblk, hlc, hcell, hput⟩ := Z.out.1.at hlt
      cases e1
      have c0 : w1.cell? ⟨g, k * 3, none⟩ = some (.int .i64 l[k].who) := hcell 0 _ rfl
      have c1 : w1.cell? ⟨g, k * 3 + 1, none⟩ = some (.int .i64 l[k].node) := hcell 1 _ rfl
      have c2 : w1.cell? ⟨g, k * 3 + 2, none⟩ = some (.int .i64 l[k].mode) := hcell 2 _ rfl
      have f2 := hblk.free (k * 3 + 2)
      have P := Lib.hid hput
      clear hput hcell hblk
      by_cases h1 : (l[k].who == who) = true
      · by_cases h2 : (l[k].node == node) = true
        · have F := Lib.hid (grantL_some (mode := mode) hlt (by simp [isL, h1, h2]) (fun j hj => hno.out j (by omega) hj))
          have M := Lib.hid (lkOk_mode (List.all_eq_true.1 V.out.1 _ (List.getElem_mem hlt)))
          go_wp2_with (go_at_call 56; refine (joined_c _ _ M.out V.out.2 _).mono ?_; rintro e w' ⟨rfl, rfl⟩)
          go_ret
          refine ⟨_, rfl, ?_, Z.out.2.setCell hbg _⟩
          rw [F.out]
          exact P.out 2 { l[k] with mode := joinI l[k].mode mode } _ (by show 2 < 3; omega) rfl
        · rw [Bool.not_eq_true] at h2
          have F := Lib.hid (show ∀ j (hj : j < l.length), j < k + 1 → isL who node l[j] = false from fun j hj hlt2 => by
            rcases Nat.lt_or_ge j k with h3 | h3
            · exact hno.out j hj h3
            · obtain rfl : j = k := by omega
              simp [isL, h2])
          go_wp2_with fail
          go_round
          case rel => exact ⟨k + 1, by omega, by go_num, F⟩
          case measure => simp [intOf]; omega
      · rw [Bool.not_eq_true] at h1
        have F := Lib.hid (show ∀ j (hj : j < l.length), j < k + 1 → isL who node l[j] = false from fun j hj hlt2 => by
          rcases Nat.lt_or_ge j k with h3 | h3
          · exact hno.out j hj h3
          · obtain rfl : j = k := by omega
            simp [isL, h1])
        go_wp2_with fail
        go_round
        case rel => exact ⟨k + 1, by omega, by go_num, F⟩
        case measure => simp [intOf]; omega
    · have F := Lib.hid (grantL_none (mode := mode) fun j hj => hno.out j hj (by omega))
      go_wp2_with (at_builtin; refine wpList_ap1 slLk rfl (.tmp 48) (.tmp 53) rfl _ _ (⟨who, node, mode⟩ : Lk) rfl w w.heap.size _ l rfl Z.out.1 rfl (by omega) Z.out.2 (Nat.le_refl _) ?_; intro v2 w2 ho2 hb2 hg2 hat2; have Y := Lib.hid (And.intro ho2 hb2); clear ho2 hb2 hg2 hat2)
      go_ret
      exact ⟨_, rfl, by rw [F.out]; exact Y.out.1, Y.out.2⟩
set_option maxRecDepth 100000 in
set_option maxHeartbeats 4000000 in
theorem spec_TakeLock_c (A : Option Addr) (c : Nat) (l : List Lk) (who node mode : Int) (w : World) (h : Rd lkE w w.heap.size A l) (hl : l.length ≤ 1048576) :
    Calls Tryd.prog 76 #[.slice A l.length c, .int .i64 who, .int .i64 node, .int .i64 mode] w fun e w' => ∃ v, e = .returned (.tuple #[v, .bool (takeB l who node mode)]) ∧ Own lkE 57 w' w.heap.size v (takeR l who node mode) ∧ Below w.heap.size w w' := by
  have C := Lib.hid (validAsk_c A c l who node mode _ w h hl)
  have H := Lib.hid h
  clear h
  by_cases hv : (tabOk l && askOk who node mode) = true
  · have V := Lib.hid (show l.all lkOk = true ∧ modeB mode = true ∧ modeB (heldL l who node) = true ∧ modeB (joinI (heldL l who node) mode) = true by
      rw [Bool.and_eq_true] at hv
      have h1 := (tabOk_iff.1 hv.1).1
      have h2 := (askOk_iff.1 hv.2).2.2
      have h3 := heldL_mode h1 who node
      have h4 := joinI_ok h3 h2
      exact ⟨h1, modeB_iff.2 (by omega), h3, modeB_iff.2 (by omega)⟩)
    have HV := Lib.hid hv
    clear hv
    have W4 := Lib.hid (blkL_eq l who node (joinI (heldL l who node) mode))
    obtain ⟨q, hq⟩ : ∃ q, joinI (heldL l who node) mode = q := ⟨_, rfl⟩
    have V2 := Lib.hid (show modeB q = true by rw [← hq]; exact V.out.2.2.2)
    have HQ := Lib.hid hq
    clear hq
    by_cases hb : 0 < (blkL l who node q).length
    · have F := Lib.hid (take_no (takeF_blk (l := l) (who := who) (node := node) (mode := mode) (by rw [HQ.out]; exact hb)))
      go_enter Tryd.func76, Tryd.ntmps76
      go_wp2_with fail
      refine C.out.mono ?_
      rintro e w1 ⟨rfl, hd⟩
      have B := Lib.hid hd
      clear hd
      rw [HV.out]
      go_wp2_with fail
      refine (held_c A c l who node _ _ (H.out.dr B.out) hl).mono ?_
      rintro e w' ⟨rfl, rfl⟩
      go_wp2_with fail
      refine (joined_c _ _ V.out.2.2.1 V.out.2.1 _).mono ?_
      rintro e w' ⟨rfl, rfl⟩
      rw [HQ.out]
      go_wp2_with fail
      refine (blockers_c A c l who node q _ ((H.out.dr B.out).more (B.out.below w.heap.size).size) hl V.out.1 V2.out).mono ?_
      rintro e w2 ⟨v, rfl, ho, hb2⟩
      obtain ⟨Ao, co, rfl, _, _, _⟩ := ho.form
      have R := Lib.hid ((B.out.below w.heap.size).trans (hb2.mono (B.out.below w.heap.size).size))
      clear ho hb2
      go_wp2_with fail
      go_ret2
      rw [F.out.1, F.out.2]
      exact ⟨_, rfl, Own.nil, R.out⟩
    · have F := Lib.hid (take_yes (takeF_ok (l := l) (who := who) (node := node) (mode := mode) HV.out (by rw [HQ.out]; exact hb)))
      go_enter Tryd.func76, Tryd.ntmps76
      go_wp2_with fail
      refine C.out.mono ?_
      rintro e w1 ⟨rfl, hd⟩
      have B := Lib.hid hd
      clear hd
      rw [HV.out]
      go_wp2_with fail
      refine (held_c A c l who node _ _ (H.out.dr B.out) hl).mono ?_
      rintro e w' ⟨rfl, rfl⟩
      go_wp2_with fail
      refine (joined_c _ _ V.out.2.2.1 V.out.2.1 _).mono ?_
      rintro e w' ⟨rfl, rfl⟩
      rw [HQ.out]
      go_wp2_with fail
      refine (blockers_c A c l who node q _ ((H.out.dr B.out).more (B.out.below w.heap.size).size) hl V.out.1 V2.out).mono ?_
      rintro e w2 ⟨v, rfl, ho, hb2⟩
      obtain ⟨Ao, co, rfl, _, _, _⟩ := ho.form
      have R := Lib.hid ((B.out.below w.heap.size).trans (hb2.mono (B.out.below w.heap.size).size))
      clear ho hb2
      go_wp2_with fail
      refine (grant_c A c l who node mode _ (H.out.grow R.out) hl V.out.1 V.out.2.1).mono ?_
      rintro e w3 ⟨v3, rfl, ho, hb2⟩
      have S := Lib.hid (And.intro (ho.base R.out.size) (R.out.trans (hb2.mono R.out.size)))
      clear ho hb2
      go_wp2_with fail
      go_ret2
      rw [F.out.1, F.out.2]
      exact ⟨_, rfl, S.out.1, S.out.2⟩
  · rw [Bool.not_eq_true] at hv
    have F := Lib.hid (take_no (takeF_bad hv))
    have HV := Lib.hid hv
    clear hv
    go_enter Tryd.func76, Tryd.ntmps76
    go_wp2_with fail
    refine C.out.mono ?_
    rintro e w1 ⟨rfl, hd⟩
    have B := Lib.hid hd
    clear hd
    rw [HV.out]
    go_wp2_with fail
    go_ret2
    rw [F.out.1, F.out.2]
    exact ⟨_, rfl, Own.nil, B.out.below _⟩
set_option maxRecDepth 100000 in
set_option maxHeartbeats 8000000 in
theorem impl_TakeLock_c (A : Option Addr) (c : Nat) (l : List Lk) (who node mode : Int) (w : World) (h : Rd lkE w w.heap.size A l) (hl : l.length ≤ 1048576) (hc : l.length ≤ c) (ht : TTab w) (hj : JTab w) :
    Calls Tryd.prog 45 #[.slice A l.length c, .int .i64 who, .int .i64 node, .int .i64 mode] w fun e w' => ∃ v, e = .returned (.tuple #[v, .bool (takeB l who node mode)]) ∧ Own lkE 57 w' w.heap.size v (takeR l who node mode) ∧ Below w.heap.size w w' := by
  have C := Lib.hid (impl_ValidTable_c A c l w h hl hc ht)
  have H := Lib.hid h
  have T := Lib.hid (And.intro ht hj)
  clear h ht hj
  by_cases hv : tabOk l = true
  · by_cases ha : askOk who node mode = true
    · have V := Lib.hid (show l.all lkOk = true ∧ modeB mode = true by
        exact ⟨(tabOk_iff.1 hv).1, modeB_iff.2 (by have := (askOk_iff.1 ha).2.2; omega)⟩)
      have HV := Lib.hid (show (tabOk l && askOk who node mode) = true by rw [hv, ha]; rfl)
      have FB := Lib.hid (show blkF l who node mode = blkL l who node (joinI (heldL l who node) mode) by rw [blkF, hv, ha]; rfl)
      have h4 := blkF_len l who node mode
      obtain ⟨bl, hbl⟩ : ∃ bl, blkF l who node mode = bl := ⟨_, rfl⟩
      have HBL := Lib.hid hbl
      rw [hbl] at h4
      clear hbl
      by_cases hb : 0 < bl.length
      · have F := Lib.hid (take_no (takeF_blk (l := l) (who := who) (node := node) (mode := mode) (by rw [← FB.out, HBL.out]; exact hb)))
        go_enter Tryd.func45, Tryd.ntmps45
        go_wp2_with fail
        refine C.out.mono ?_
        rintro e w1 ⟨rfl, hb1⟩
        have B := Lib.hid hb1
        clear hb1
        go_wp2_with (go_at_call 77; refine (isAsk_c _ _ _ _).mono ?_; rintro e w' ⟨rfl, rfl⟩)
        refine (impl_LockBlockers_c A c l who node mode _ (H.out.grow B.out) hl hc (T.out.1.below B.out) (T.out.2.below B.out)).mono ?_
        rintro e w2 ⟨v, rfl, ho, hb2⟩
        rw [HBL.out] at ho
        obtain ⟨Ao, co, rfl, _, _, _⟩ := ho.form
        have R := Lib.hid (B.out.trans (hb2.mono B.out.size))
        clear ho hb2
        go_wp2_with fail
        go_ret2
        rw [F.out.1, F.out.2]
        exact ⟨_, rfl, Own.nil, R.out⟩
      · have F := Lib.hid (take_yes (takeF_ok (l := l) (who := who) (node := node) (mode := mode) HV.out (by rw [← FB.out, HBL.out]; exact hb)))
        rcases lockI_cases l who node with ⟨h1, _, h3⟩ | ⟨i, hi, h1, _, h2, h3⟩
        · have G := Lib.hid (And.intro h1 (grantL_none (mode := mode) h3))
          clear h1 h3
          go_enter Tryd.func45, Tryd.ntmps45
          go_wp2_with fail
          refine C.out.mono ?_
          rintro e w1 ⟨rfl, hb1⟩
          have B := Lib.hid hb1
          clear hb1
          go_wp2_with (go_at_call 77; refine (isAsk_c _ _ _ _).mono ?_; rintro e w' ⟨rfl, rfl⟩)
          refine (impl_LockBlockers_c A c l who node mode _ (H.out.grow B.out) hl hc (T.out.1.below B.out) (T.out.2.below B.out)).mono ?_
          rintro e w2 ⟨v, rfl, ho, hb2⟩
          rw [HBL.out] at ho
          obtain ⟨Ao, co, rfl, _, _, _⟩ := ho.form
          have R := Lib.hid (B.out.trans (hb2.mono B.out.size))
          clear ho hb2
          go_wp2_with fail
          refine (cloneLk_c A c l _ (H.out.grow R.out) hl).mono ?_
          rintro e w3 ⟨v3, rfl, ho, hb2⟩
          obtain ⟨Ac, cc, rfl, _, _, _⟩ := ho.form
          have S := Lib.hid (And.intro (ho.base R.out.size) (R.out.trans (hb2.mono R.out.size)))
          clear ho hb2
          go_wp2_with fail
          refine (lockAt_c A c l who node _ (H.out.grow S.out.2) hl).mono ?_
          rintro e w4 ⟨rfl, hb2⟩
          have S2 := Lib.hid (And.intro (S.out.1.grow hb2) (S.out.2.trans (hb2.mono S.out.2.size)))
          clear hb2
          rw [G.out.1]
          go_wp2_with (at_builtin; refine wpList_ap1 slLk rfl (.tmp 39) (.tmp 44) rfl _ _ (⟨who, node, mode⟩ : Lk) rfl w w.heap.size _ l rfl S2.out.1 rfl (by have := (tabOk_iff.1 hv).2.2; omega) S2.out.2 (Nat.le_refl _) ?_; intro v5 w5 ho5 hb5 hg5 hat5; have Y := Lib.hid (And.intro ho5 hb5); clear ho5 hb5 hg5 hat5)
          go_ret2
          rw [F.out.1, F.out.2, G.out.2]
          exact ⟨_, rfl, Y.out.1, Y.out.2⟩
        · have G := Lib.hid (And.intro h1 (grantL_some (mode := mode) hi h2 h3))
          clear h1 h2 h3
          have M := Lib.hid (lkOk_mode (List.all_eq_true.1 V.out.1 _ (List.getElem_mem hi)))
          have J := Lib.hid (show joinM l[i].mode mode = joinI l[i].mode mode by rw [joinM, M.out, V.out.2]; rfl)
          go_enter Tryd.func45, Tryd.ntmps45
          go_wp2_with fail
          refine C.out.mono ?_
          rintro e w1 ⟨rfl, hb1⟩
          have B := Lib.hid hb1
          clear hb1
          go_wp2_with (go_at_call 77; refine (isAsk_c _ _ _ _).mono ?_; rintro e w' ⟨rfl, rfl⟩)
          refine (impl_LockBlockers_c A c l who node mode _ (H.out.grow B.out) hl hc (T.out.1.below B.out) (T.out.2.below B.out)).mono ?_
          rintro e w2 ⟨v, rfl, ho, hb2⟩
          rw [HBL.out] at ho
          obtain ⟨Ao, co, rfl, _, _, _⟩ := ho.form
          have R := Lib.hid (B.out.trans (hb2.mono B.out.size))
          clear ho hb2
          go_wp2_with fail
          refine (cloneLk_c A c l _ (H.out.grow R.out) hl).mono ?_
          rintro e w3 ⟨v3, rfl, ho, hb2⟩
          have S := Lib.hid (And.intro (ho.base R.out.size) (R.out.trans (hb2.mono R.out.size)))
          clear ho hb2
          go_wp2_with fail
          refine (lockAt_c A c l who node _ (H.out.grow S.out.2) hl).mono ?_
          rintro e w4 ⟨rfl, hb2⟩
          have S2 := Lib.hid (And.intro (S.out.1.grow hb2) (S.out.2.trans (hb2.mono S.out.2.size)))
          clear hb2
          rw [G.out.1]
          obtain ⟨g, c', cs, rfl, hbg, hblk, hlc, hcell, hput⟩ := S2.out.1.at hi
          obtain ⟨b, o, rfl, hb', c0, c1, c2⟩ := (H.out.grow S2.out.2).lk hi
          have d2 : w4.cell? ⟨g, i * 3 + 2, none⟩ = some (.int .i64 l[i].mode) := hcell 2 _ rfl
          have f2 := hblk.free (i * 3 + 2)
          have P := Lib.hid hput
          clear hput hcell hblk
          go_wp2_with fail
          refine (impl_JoinModes_c _ _ _ (T.out.2.below S2.out.2)).mono ?_
          rintro e w' ⟨rfl, rfl⟩
          rw [J.out]
          go_wp2_with fail
          go_ret2
          rw [F.out.1, F.out.2, G.out.2]
          exact ⟨_, rfl, P.out 2 { l[i] with mode := joinI l[i].mode mode } _ (by show 2 < 3; omega) rfl, S2.out.2.setCell hbg _⟩
    · rw [Bool.not_eq_true] at ha
      have F := Lib.hid (take_no (takeF_bad (l := l) (who := who) (node := node) (mode := mode) (by rw [hv, ha]; rfl)))
      go_enter Tryd.func45, Tryd.ntmps45
      go_wp2_with fail
      refine C.out.mono ?_
      rintro e w1 ⟨rfl, hb1⟩
      have B := Lib.hid hb1
      clear hb1
      go_wp2_with (go_at_call 77; refine (isAsk_c _ _ _ _).mono ?_; rintro e w' ⟨rfl, rfl⟩)
      go_ret2
      rw [F.out.1, F.out.2]
      exact ⟨_, rfl, Own.nil, B.out⟩
  · rw [Bool.not_eq_true] at hv
    have F := Lib.hid (take_no (takeF_bad (l := l) (who := who) (node := node) (mode := mode) (by rw [hv]; rfl)))
    go_enter Tryd.func45, Tryd.ntmps45
    go_wp2_with fail
    refine C.out.mono ?_
    rintro e w1 ⟨rfl, hb1⟩
    have B := Lib.hid hb1
    clear hb1
    go_wp2_with fail
    go_ret2
    rw [F.out.1, F.out.2]
    exact ⟨_, rfl, Own.nil, B.out⟩
end Go.Proofs.YtfgcjdhcnalmmaaDoor
