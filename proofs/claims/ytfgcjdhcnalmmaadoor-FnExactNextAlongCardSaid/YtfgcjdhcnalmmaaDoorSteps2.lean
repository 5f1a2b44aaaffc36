/-
  Schedules: the contracts of the reference's check and of its table.
-/
import Derived.Test.YtfgcjdhcnalmmaaDoorSteps
namespace Go.Proofs.YtfgcjdhcnalmmaaDoor
open Go.RowKit

set_option maxHeartbeats 1000000 in
theorem validStep_c (s : Stp) (w : World) :
    Calls Tryd.prog 87 #[.agg #[.int .i64 s.who, .bool s.free, .int .i64 s.node, .int .i64 s.mode]] w fun e w' => e = .returned (.bool (stepOk s)) ∧ Below w.heap.size w w' := by
  have hc : (stepOk s = false ∧ (inR s.who 0 3 = false ∨ (inR s.who 0 3 = true ∧ inR s.node 0 11 = false))) ∨ ((inR s.who 0 3 = true ∧ inR s.node 0 11 = true) ∧ ((s.free = true ∧ stepOk s = (s.mode == 0)) ∨ (s.free = false ∧ stepOk s = inR s.mode 1 5))) := by
    unfold stepOk
    cases inR s.who 0 3 <;> cases inR s.node 0 11 <;> cases s.free <;> simp
  rcases hc with ⟨h0, h1 | ⟨h1, h2⟩⟩ | ⟨⟨h1, h2⟩, ⟨h3, h4⟩ | ⟨h3, h4⟩⟩
  · have F := Lib.hid h0
    clear h0
    go_enter Tryd.func87, Tryd.ntmps87
    go_wp2_with (go_at_call 49; refine (inRange_c _ _ _ _).mono ?_; rintro e w' ⟨rfl, rfl⟩)
    go_ret
    exact ⟨ret_bool F.out.symm, (Below.refl _ _).alloc (Nat.le_refl _) _⟩
  · have F := Lib.hid h0
    clear h0
    go_enter Tryd.func87, Tryd.ntmps87
    go_wp2_with (go_at_call 49; refine (inRange_c _ _ _ _).mono ?_; rintro e w' ⟨rfl, rfl⟩)
    go_ret
    exact ⟨ret_bool F.out.symm, (Below.refl _ _).alloc (Nat.le_refl _) _⟩
  · have F := Lib.hid h4
    clear h4
    go_enter Tryd.func87, Tryd.ntmps87
    go_wp2_with (go_at_call 49; refine (inRange_c _ _ _ _).mono ?_; rintro e w' ⟨rfl, rfl⟩)
    all_goals
      go_ret
      exact ⟨ret_bool (by first | (rw [F.out]; done) | (rw [F.out]; simp [*])), (Below.refl _ _).alloc (Nat.le_refl _) _⟩
  · have F := Lib.hid h4
    clear h4
    go_enter Tryd.func87, Tryd.ntmps87
    go_wp2_with (go_at_call 49; refine (inRange_c _ _ _ _).mono ?_; rintro e w' ⟨rfl, rfl⟩)
    all_goals
      go_ret
      exact ⟨ret_bool (by first | (rw [F.out]; done) | (rw [F.out]; simp [*])), (Below.refl _ _).alloc (Nat.le_refl _) _⟩
def notL (who node : Int) (x : Lk) : Bool := !(isL who node x)
set_option maxRecDepth 100000 in
set_option maxHeartbeats 2000000 in
theorem freeOne_c (A : Option Addr) (c : Nat) (l : List Lk) (who node : Int) (w : World) (h : Rd lkE w w.heap.size A l) (hl : l.length ≤ 1048576) :
    Calls Tryd.prog 92 #[.slice A l.length c, .int .i64 who, .int .i64 node] w fun e w' => ∃ v, e = .returned v ∧ Own lkE 57 w' w.heap.size v (l.filter (notL who node)) ∧ Below w.heap.size w w' := by
  have H := Lib.hid h
  clear h
  have N := Lib.hid (own_new (E := lkE) (e := 57) w #[] [] w.heap.size (Nat.le_refl _) (by simp) rfl)
  have B0 := Lib.hid ((Below.refl w.heap.size w).alloc (Nat.le_refl _) (.cells #[] 57))
  go_enter Tryd.func92, Tryd.ntmps92
  go_wp2_with fail
  go_loopw [7, 8] (fun vo i wr => ∃ k : Nat, k ≤ l.length ∧ i = .int .i64 k ∧ Own lkE 57 wr w.heap.size vo ((l.take k).filter (notL who node)) ∧ Below w.heap.size w wr) (fun _ i _ => l.length - (intOf i).toNat)
  case atStart => exact ⟨0, by omega, rfl, N.out, B0.out⟩
  case round =>
    obtain ⟨k, hk, rfl, ho, hbel⟩ := hrel
    obtain ⟨Ao, co, rfl, _, _, _⟩ := ho.form
    have R := Lib.hid (And.intro ho hbel)
    by_cases hlt : k < l.length
    · obtain ⟨b, o, rfl, hb, c0, c1, c2⟩ := (H.out.below hbel (Nat.le_refl _)).lk hlt
      have hlf : ((l.take k).filter (notL who node)).length ≤ 1048576 := Nat.le_trans (filter_take_le _ _ _) hl
      clear ho hbel
      have hc : ((l[k].who == who) = true ∧ (l[k].node == node) = true ∧ notL who node l[k] = false) ∨ ((l[k].who == who) = false ∧ notL who node l[k] = true) ∨ ((l[k].who == who) = true ∧ (l[k].node == node) = false ∧ notL who node l[k] = true) := by
        unfold notL isL
        cases (l[k].who == who) <;> cases (l[k].node == node) <;> simp
      rcases hc with ⟨h1, h2, h3⟩ | ⟨h1, h3⟩ | ⟨h1, h2, h3⟩
      · have hn1 : (l[k].who != who) = false := by rw [bne, h1]; rfl
        have hn2 : (l[k].node != node) = false := by rw [bne, h2]; rfl
        have hf := Lib.hid (filter_no (p := notL who node) hlt h3)
        clear h3
        go_wp2_with fail
        go_roundw
        case rel => exact ⟨k + 1, by omega, by go_num, by rw [hf.out]; exact R.out.1, R.out.2⟩
        case measure => simp [intOf]; omega
      · have hn1 : (l[k].who != who) = true := by rw [bne, h1]; rfl
        have hf := Lib.hid (filter_yes (p := notL who node) hlt h3)
        clear h3
        go_wp2_with (at_builtin; refine wpList_ap1 slLk rfl (.tmp 32) (.tmp 37) rfl _ _ l[k] rfl w w.heap.size _ _ rfl R.out.1 rfl (by omega) R.out.2 (Nat.le_refl _) ?_; intro v1 w1 ho1 hb1 hg1 hat1; have Z := Lib.hid (And.intro ho1 hb1); clear ho1 hb1 hg1 hat1)
        go_roundw
        case rel => exact ⟨k + 1, by omega, by go_num, by rw [hf.out]; exact Z.out.1, Z.out.2⟩
        case measure => simp [intOf]; omega
      · have hn1 : (l[k].who != who) = false := by rw [bne, h1]; rfl
        have hn2 : (l[k].node != node) = true := by rw [bne, h2]; rfl
        have hf := Lib.hid (filter_yes (p := notL who node) hlt h3)
        clear h3
        go_wp2_with (at_builtin; refine wpList_ap1 slLk rfl (.tmp 32) (.tmp 37) rfl _ _ l[k] rfl w w.heap.size _ _ rfl R.out.1 rfl (by omega) R.out.2 (Nat.le_refl _) ?_; intro v1 w1 ho1 hb1 hg1 hat1; have Z := Lib.hid (And.intro ho1 hb1); clear ho1 hb1 hg1 hat1)
        go_roundw
        case rel => exact ⟨k + 1, by omega, by go_num, by rw [hf.out]; exact Z.out.1, Z.out.2⟩
        case measure => simp [intOf]; omega
    · have hf := Lib.hid (filter_done (p := notL who node) (l := l) (k := k) (by omega))
      clear ho hbel
      go_wp2_with fail
      go_ret
      exact ⟨_, rfl, by rw [← hf.out]; exact R.out.1, R.out.2⟩
theorem doS_take {l : List Lk} {s : Stp} (h : s.free = false) : doS l s = takeF l s.who s.node s.mode := by rw [doS, h]; rfl
theorem doS_none {l : List Lk} {s : Stp} (h : s.free = true) (h2 : (heldL l s.who s.node == 0) = true) : doS l s = none := by rw [doS, if_pos h, if_pos h2]
theorem doS_some {l : List Lk} {s : Stp} (h : s.free = true) (h2 : (heldL l s.who s.node == 0) = false) : doS l s = some (l.filter (notL s.who s.node)) := by rw [doS, if_pos h, if_neg (by rw [h2]; simp)]; rfl
theorem doS_len {l m : List Lk} {s : Stp} (h : doS l s = some m) : m.length ≤ l.length + 1 := by
  unfold doS at h
  split at h
  · split at h
    · cases h
    · have := Option.some.inj h
      subst this
      exact Nat.le_trans (List.length_filter_le _ _) (by omega)
  · exact (takeF_keeps h).2
theorem runS_len : ∀ {r : List Stp} {l m : List Lk}, runN doS l r = some m → m.length ≤ l.length + r.length
  | [], l, m, e => by
    have := Option.some.inj e
    subst this
    simp
  | s :: r, l, m, e => by
    simp only [runN] at e
    cases hd : doS l s with
    | none => rw [hd] at e; cases e
    | some k =>
      rw [hd] at e
      have h1 := doS_len hd
      have h2 := runS_len e
      simp only [List.length_cons]; omega
set_option maxRecDepth 100000 in
set_option maxHeartbeats 4000000 in
theorem tableAfter_c (A : Option Addr) (c : Nat) (r : List Stp) (w : World) (h : Rd stpE w w.heap.size A r) (hl : r.length ≤ 16) :
    Calls Tryd.prog 69 #[.slice A r.length c] w fun e w' => ∃ v, e = .returned (.tuple #[v, .bool (runN doS [] r).isSome]) ∧ Own lkE 57 w' w.heap.size v (oR (runN doS [] r)) ∧ Below w.heap.size w w' := by
  have H := Lib.hid h
  clear h
  have N := Lib.hid (own_new (E := lkE) (e := 57) w #[] [] w.heap.size (Nat.le_refl _) (by simp) rfl)
  have B0 := Lib.hid ((Below.refl w.heap.size w).alloc (Nat.le_refl _) (.cells #[] 57))
  go_enter Tryd.func69, Tryd.ntmps69
  go_wp2_with fail
  go_loopw [4, 5] (fun tv i wr => ∃ (k : Nat) (m : List Lk), k ≤ r.length ∧ i = .int .i64 k ∧ Hid (runN doS [] (r.take k) = some m) ∧ Own lkE 57 wr w.heap.size tv m ∧ Below w.heap.size w wr) (fun _ i _ => r.length - (intOf i).toNat)
  case atStart => exact ⟨0, [], by omega, rfl, Lib.hid rfl, N.out, B0.out⟩
  case round =>
    obtain ⟨k, m, hk, rfl, hrun, ho, hbel⟩ := hrel
    have hm : m.length ≤ 16 := by
      have := runS_len hrun.out
      rw [List.length_take] at this
      simp at this
      omega
    obtain ⟨At, ct, rfl, _, _, hrt⟩ := ho.form
    by_cases hlt : k < r.length
    · obtain ⟨b, o, rfl, hb, c0, c1, c2, c3⟩ := (H.out.below hbel (Nat.le_refl _)).stp hlt
      have R := Lib.hid (And.intro ho (And.intro hbel hrt))
      clear ho hbel hrt
      have hst := Lib.hid (runN_take hlt hrun.out)
      by_cases hf : r[k].free = true
      · have BB := Lib.hid (R.out.2.1.alloc R.out.2.1.size (.cells #[.int .i64 r[k].who, .bool true, .int .i64 r[k].node, .int .i64 r[k].mode] 78))
        have RR := Lib.hid (R.out.2.2.grow ((Below.refl _ _).alloc (Nat.le_refl _) (.cells #[.int .i64 r[k].who, .bool true, .int .i64 r[k].node, .int .i64 r[k].mode] 78)))
        by_cases h0 : (heldL m r[k].who r[k].node == 0) = true
        · have F := Lib.hid (show runN doS [] r = none from runN_none (k + 1) (hst.out.trans (doS_none hf h0)))
          have HH := Lib.hid h0
          clear h0
          go_wp2_with fail
          refine (held_c At ct m r[k].who r[k].node _ _ RR.out (by omega)).mono ?_
          rintro e w' ⟨rfl, rfl⟩
          have h0 := HH.out
          go_wp2_with fail
          go_ret2
          rw [F.out]
          exact ⟨_, rfl, Own.nil, BB.out⟩
        · rw [Bool.not_eq_true] at h0
          have F := Lib.hid (hst.out.trans (doS_some hf h0))
          have HH := Lib.hid h0
          clear h0
          go_wp2_with fail
          refine (held_c At ct m r[k].who r[k].node _ _ RR.out (by omega)).mono ?_
          rintro e w' ⟨rfl, rfl⟩
          have h0 := HH.out
          go_wp2_with fail
          refine (freeOne_c At ct m r[k].who r[k].node _ RR.out (by omega)).mono ?_
          rintro e w2 ⟨v, rfl, ho, hb2⟩
          have S := Lib.hid (And.intro (ho.base BB.out.size) (BB.out.trans (hb2.mono BB.out.size)))
          clear ho hb2
          go_wp2_with fail
          go_roundw
          case rel => exact ⟨k + 1, _, by omega, by go_num, F, S.out.1, S.out.2⟩
          case measure => simp [intOf]; omega
      · rw [Bool.not_eq_true] at hf
        have BB := Lib.hid (R.out.2.1.alloc R.out.2.1.size (.cells #[.int .i64 r[k].who, .bool false, .int .i64 r[k].node, .int .i64 r[k].mode] 78))
        have RR := Lib.hid (R.out.2.2.grow ((Below.refl _ _).alloc (Nat.le_refl _) (.cells #[.int .i64 r[k].who, .bool false, .int .i64 r[k].node, .int .i64 r[k].mode] 78)))
        have F := Lib.hid (hst.out.trans (doS_take hf))
        obtain ⟨o2, ho2⟩ : ∃ o2, takeF m r[k].who r[k].node r[k].mode = o2 := ⟨_, rfl⟩
        have HO := Lib.hid (And.intro ho2 (show takeR m r[k].who r[k].node r[k].mode = o2.getD [] ∧ takeB m r[k].who r[k].node r[k].mode = o2.isSome by rw [takeR, takeB, ho2]; exact ⟨rfl, rfl⟩))
        clear ho2
        go_wp2_with fail
        refine (spec_TakeLock_c At ct m r[k].who r[k].node r[k].mode _ RR.out (by omega)).mono ?_
        rintro e w2 ⟨v, rfl, ho, hb2⟩
        rw [HO.out.2.1] at ho
        rw [HO.out.2.2]
        have S := Lib.hid (And.intro (ho.base BB.out.size) (BB.out.trans (hb2.mono BB.out.size)))
        clear ho hb2
        cases o2 with
        | none =>
          have F2 := Lib.hid (show runN doS [] r = none from runN_none (k + 1) (F.out.trans HO.out.1))
          go_wp2_with fail
          go_ret2
          rw [F2.out]
          exact ⟨_, rfl, Own.nil, S.out.2⟩
        | some m2 =>
          go_wp2_with fail
          go_roundw
          case rel => exact ⟨k + 1, m2, by omega, by go_num, Lib.hid (F.out.trans HO.out.1), S.out.1, S.out.2⟩
          case measure => simp [intOf]; omega
    · have e : k = r.length := by omega
      subst e
      have F := Lib.hid (show runN doS [] r = some m by have := hrun.out; rwa [List.take_length] at this)
      have R := Lib.hid (And.intro ho hbel)
      clear ho hbel
      go_wp2_with fail
      go_ret2
      rw [F.out]
      exact ⟨_, rfl, R.out.1, R.out.2⟩
set_option maxHeartbeats 2000000 in
theorem validSteps_c (A : Option Addr) (c : Nat) (r : List Stp) (w : World) (h : Rd stpE w w.heap.size A r) (hl : r.length ≤ 1048576) :
    Calls Tryd.prog 62 #[.slice A r.length c] w fun e w' => e = .returned (.bool (stpOk r)) ∧ Below w.heap.size w w' := by
  have H := Lib.hid h
  clear h
  have SP := Lib.hid (stpOk_spec r)
  by_cases hlong : 16 < r.length
  · have F := Lib.hid (show stpOk r = false by rw [SP.out, show decide (r.length ≤ 16) = false by simp; omega]; rfl)
    go_enter Tryd.func62, Tryd.ntmps62
    go_wp2_with fail
    go_ret
    exact ⟨ret_bool F.out.symm, Below.refl _ _⟩
  go_enter Tryd.func62, Tryd.ntmps62
  go_wp2_with fail
  go_loopw [3] (fun i wr => ∃ k : Nat, k ≤ r.length ∧ i = .int .i64 k ∧ Hid ((r.take k).all stepOk = true) ∧ Below w.heap.size w wr) (fun i _ => r.length - (intOf i).toNat)
  case atStart => exact ⟨0, by omega, rfl, Lib.hid rfl, Below.refl _ _⟩
  case round =>
    obtain ⟨k, hk, rfl, hall, hbel⟩ := hrel
    by_cases hlt : k < r.length
    · obtain ⟨b, o, rfl, hb, c0, c1, c2, c3⟩ := (H.out.below hbel (Nat.le_refl _)).stp hlt
      have R := Lib.hid hbel
      clear hbel
      by_cases hs : stepOk r[k] = true
      · have HS := Lib.hid hs
        clear hs
        go_wp2_with fail
        refine (validStep_c r[k] _).mono ?_
        rintro e w1 ⟨rfl, hb1⟩
        have S := Lib.hid (R.out.trans (hb1.mono R.out.size))
        clear hb1
        rw [HS.out]
        go_wp2_with fail
        go_roundw
        case rel => exact ⟨k + 1, by omega, by go_num, Lib.hid (all_snoc hlt hall.out HS.out), S.out⟩
        case measure => simp [intOf]; omega
      · rw [Bool.not_eq_true] at hs
        have F := Lib.hid (show stpOk r = false by rw [SP.out, all_bad hlt hs, Bool.and_false]; rfl)
        have HS := Lib.hid hs
        clear hs
        go_wp2_with fail
        refine (validStep_c r[k] _).mono ?_
        rintro e w1 ⟨rfl, hb1⟩
        have S := Lib.hid (R.out.trans (hb1.mono R.out.size))
        clear hb1
        rw [HS.out]
        go_wp2_with fail
        go_ret
        exact ⟨ret_bool F.out.symm, S.out⟩
    · have F := Lib.hid (show stpOk r = (runN doS [] r).isSome by
        rw [SP.out, all_done (by omega) hall.out, show decide (r.length ≤ 16) = true by simp; omega]; rfl)
      have R := Lib.hid hbel
      clear hbel
      go_wp2_with fail
      refine (tableAfter_c A c r _ (H.out.grow R.out) (by omega)).mono ?_
      rintro e w1 ⟨v, rfl, _, hb1⟩
      have S := Lib.hid (R.out.trans (hb1.mono R.out.size))
      clear hb1
      go_wp2_with fail
      go_ret
      exact ⟨ret_bool F.out.symm, S.out⟩
end Go.Proofs.YtfgcjdhcnalmmaaDoor
