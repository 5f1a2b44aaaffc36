/-
  Valid tables: the contract of the program's check; where a lock lies and what is held.
-/
import Derived.Test.YteoeojbeaehdpaaDoorTab1
namespace Go.Proofs.YteoeojbeaehdpaaDoor
open Go.RowKit

set_option maxHeartbeats 1000000 in
theorem isAsk_c (a b m : Int) (w : World) :
    Calls Tryd.prog 59 #[.int .i64 a, .int .i64 b, .int .i64 m] w fun e w' => e = .returned (.bool (askOk a b m)) ∧ w = w' := by
  by_cases h1 : inR a 0 3 = true
  · by_cases h2 : inR b 0 11 = true
    · have F := Lib.hid (show askOk a b m = inR m 1 5 by simp [askOk, h1, h2])
      go_enter Tryd.func59, Tryd.ntmps59
      go_wp2_with (go_at_call 82; refine (within_c _ _ _ _).mono ?_; rintro e w' ⟨rfl, rfl⟩)
      go_ret
      exact ⟨ret_bool F.out.symm, rfl⟩
    · rw [Bool.not_eq_true] at h2
      have F := Lib.hid (show askOk a b m = false by simp [askOk, h2])
      go_enter Tryd.func59, Tryd.ntmps59
      go_wp2_with (go_at_call 82; refine (within_c _ _ _ _).mono ?_; rintro e w' ⟨rfl, rfl⟩)
      go_ret
      exact ⟨ret_bool F.out.symm, rfl⟩
  · rw [Bool.not_eq_true] at h1
    have F := Lib.hid (show askOk a b m = false by simp [askOk, h1])
    go_enter Tryd.func59, Tryd.ntmps59
    go_wp2_with (go_at_call 82; refine (within_c _ _ _ _).mono ?_; rintro e w' ⟨rfl, rfl⟩)
    go_ret
    exact ⟨ret_bool F.out.symm, rfl⟩

set_option maxRecDepth 100000 in
set_option maxHeartbeats 8000000 in
theorem impl_ValidTable_c (A : Option Addr) (c : Nat) (l : List Lk) (w : World) (h : Rd lkE w w.heap.size A l) (hl : l.length ≤ 1048576) (hc : l.length ≤ c) (ht : TTab w) :
    Calls Tryd.prog 18 #[.slice A l.length c] w fun e w' => e = .returned (.bool (tabOk l)) ∧ Below w.heap.size w w' := by
  have H := Lib.hid h
  have HT := Lib.hid ht
  clear h ht
  by_cases hlong : 48 < l.length
  · have F := Lib.hid (tabOk_long hlong)
    go_enter Tryd.func18, Tryd.ntmps18
    go_wp2_with fail
    go_ret
    exact ⟨ret_bool F.out.symm, Below.refl _ _⟩
  go_enter Tryd.func18, Tryd.ntmps18
  go_wp2_with fail
  go_loopw [12] (fun i wr => ∃ n : Nat, n ≤ l.length ∧ i = .int .i64 n ∧ Hid ((l.take n).all lkOk = true ∧ Calm (l.take n)) ∧ Below w.heap.size w wr) (fun i _ => l.length - (intOf i).toNat)
  case atStart => exact ⟨0, by omega, rfl, Lib.hid ⟨rfl, List.Pairwise.nil⟩, Below.refl _ _⟩
  case round =>
    obtain ⟨n, hn, rfl, hok, hbel⟩ := hrel
    by_cases hlt : n < l.length
    · obtain ⟨b, o, rfl, hb, c0, c1, c2⟩ := (H.out.below hbel (Nat.le_refl _)).lk hlt
      have R := Lib.hid hbel
      clear hbel
      by_cases hx : lkOk l[n] = true
      · have HX := Lib.hid hx
        have hx' : askOk l[n].who l[n].node l[n].mode = true := hx
        clear hx
        go_wp2_with (go_at_call 59; refine (isAsk_c _ _ _ _).mono ?_; rintro e w' ⟨rfl, rfl⟩)
        clear hx'
        go_loopw [29] (fun k wr' => ∃ m : Nat, m ≤ n ∧ k = .int .i64 m ∧ Hid ((l.take m).all (fun y => !clash l[n] y) = true) ∧ Blk wr' wr.heap.size 64 #[.int .i64 l[n].who, .int .i64 l[n].node, .int .i64 l[n].mode] ∧ Below w.heap.size w wr') (fun k _ => n - (intOf k).toNat)
        case atStart => exact ⟨0, by omega, rfl, Lib.hid rfl, Blk.new _ _ _, R.out.alloc R.out.size _⟩
        case round =>
          obtain ⟨m, hm, rfl, hno, hblk, hbel⟩ := hrel
          by_cases hlt2 : m < n
          · have hlm : m < l.length := by omega
            obtain ⟨b', o', e', hb'', g0, g1, g2⟩ := (H.out.below hbel (Nat.le_refl _)).lk hlm
            cases e'
            have d0 := (cell_of_row _ _ 0 _ _ _ hblk).trans (rfl : _ = some (Value.int .i64 l[n].who))
            have d1 := (cell_of_row _ _ 1 _ _ _ hblk).trans (rfl : _ = some (Value.int .i64 l[n].node))
            have d2 := (cell_of_row _ _ 2 _ _ _ hblk).trans (rfl : _ = some (Value.int .i64 l[n].mode))
            have hgl := hblk.lt
            have S := Lib.hid (And.intro hblk hbel)
            clear hblk hbel
            have TT : ∀ ob, TTab (World.alloc _ ob) := fun ob => HT.out.below (S.out.2.alloc S.out.2.size ob)
            have T := Lib.hid TT
            clear TT
            rcases clash_cases l[n] l[m] with ⟨e1, e4⟩ | ⟨e1, e2, e4⟩ | ⟨e1, e2, e3, e4⟩ | ⟨e1, e2, e3, e4⟩
            · have F := Lib.hid (all_snoc hlm hno.out (show (!clash l[n] l[m]) = true by rw [e4]; rfl))
              clear e4
              go_wp2_with fail
              go_roundw
              case rel => exact ⟨m + 1, by omega, by go_num, F, S.out.1.alloc _, S.out.2.alloc S.out.2.size _⟩
              case measure => simp [intOf]; omega
            · have F := Lib.hid (tabOk_clash hlt hlt2 e4)
              clear e4
              go_wp2_with fail
              go_ret
              exact ⟨ret_bool F.out.symm, S.out.2.alloc S.out.2.size _⟩
            · have F := Lib.hid (all_snoc hlm hno.out (show (!clash l[n] l[m]) = true by rw [e4]; rfl))
              clear e4
              go_wp2_with (go_at_call 60; refine (impl_GoTogether_c _ _ _ (T.out _)).mono ?_; rintro e w' ⟨rfl, rfl⟩)
              go_roundw
              case rel => exact ⟨m + 1, by omega, by go_num, F, S.out.1.alloc _, S.out.2.alloc S.out.2.size _⟩
              case measure => simp [intOf]; omega
            · have F := Lib.hid (tabOk_clash hlt hlt2 e4)
              clear e4
              go_wp2_with (go_at_call 60; refine (impl_GoTogether_c _ _ _ (T.out _)).mono ?_; rintro e w' ⟨rfl, rfl⟩)
              go_ret
              exact ⟨ret_bool F.out.symm, S.out.2.alloc S.out.2.size _⟩
          · have e : m = n := by omega
            subst e
            have F := Lib.hid (And.intro (all_snoc hlt hok.out.1 HX.out) (calm_snoc hlt hok.out.2 hno.out))
            have S := Lib.hid hbel
            clear hbel hblk
            go_wp2_with fail
            go_roundw
            case rel => exact ⟨m + 1, by omega, by go_num, F, S.out⟩
            case measure => simp [intOf]; omega
      · rw [Bool.not_eq_true] at hx
        have F := Lib.hid (tabOk_bad hlt hx)
        have hx' : askOk l[n].who l[n].node l[n].mode = false := hx
        clear hx
        go_wp2_with (go_at_call 59; refine (isAsk_c _ _ _ _).mono ?_; rintro e w' ⟨rfl, rfl⟩)
        go_ret
        exact ⟨ret_bool F.out.symm, R.out.alloc R.out.size _⟩
    · have e : n = l.length := by omega
      subst e
      have R := Lib.hid hbel
      have F := Lib.hid (show tabOk l = true by
        have h1 := hok.out
        rw [List.take_length] at h1
        exact tabOk_iff.2 ⟨h1.1, h1.2, by omega⟩)
      clear hbel
      go_wp2_with fail
      go_ret
      exact ⟨ret_bool F.out.symm, R.out⟩

set_option maxHeartbeats 1000000 in
theorem lockClo_c (x : Lk) (who node : Int) (g g' : Nat) (w : World) (hc : w.cell? ⟨g, 0, none⟩ = some (.int .i64 who)) (hc' : w.cell? ⟨g', 0, none⟩ = some (.int .i64 node)) :
    Calls Tryd.prog 85 #[.agg #[.int .i64 x.who, .int .i64 x.node, .int .i64 x.mode], .pointer (some ⟨g, 0, none⟩), .pointer (some ⟨g', 0, none⟩)] w fun e w' => e = .returned (.bool (isL who node x)) ∧ Below w.heap.size w w' := by
  have hg := cell_lt hc
  have hg' := cell_lt hc'
  have hne : w.heap.size ≠ g := by omega
  have hne' : w.heap.size ≠ g' := by omega
  by_cases h1 : (x.who == who) = true
  · have F := Lib.hid (show isL who node x = (x.node == node) by simp [isL, h1])
    go_enter Tryd.func85, Tryd.ntmps85
    go_wp2_with fail
    all_goals
      go_ret
      exact ⟨ret_bool (by rw [F.out]), (Below.refl _ _).alloc (Nat.le_refl _) _⟩
  · rw [Bool.not_eq_true] at h1
    have F := Lib.hid (show isL who node x = false by simp [isL, h1])
    go_enter Tryd.func85, Tryd.ntmps85
    go_wp2_with fail
    go_ret
    exact ⟨ret_bool F.out.symm, (Below.refl _ _).alloc (Nat.le_refl _) _⟩
set_option maxHeartbeats 1000000 in
theorem idxFL_c (A : Option Addr) (c : Nat) (l : List Lk) (who node : Int) (g g' : Nat) (w : World) (h : Rd lkE w w.heap.size A l) (hl : l.length ≤ 1048576) (hc : w.cell? ⟨g, 0, none⟩ = some (.int .i64 who)) (hc' : w.cell? ⟨g', 0, none⟩ = some (.int .i64 node)) :
    Calls Tryd.prog 84 #[.slice A l.length c, .func (.func 85) #[] #[.pointer (some ⟨g, 0, none⟩), .pointer (some ⟨g', 0, none⟩)]] w fun e w' => e = .returned (.int .i64 (idxP (isL who node) l)) ∧ Below w.heap.size w w' := by
  have H := Lib.hid h
  have C := Lib.hid (And.intro (And.intro hc (cell_lt hc)) (And.intro hc' (cell_lt hc')))
  clear h hc hc'
  go_enter Tryd.func84, Tryd.ntmps84
  go_wp2_with fail
  go_loopw [8] (fun i wr => ∃ k : Nat, k ≤ l.length ∧ i = .int .i64 k ∧ Hid ((l.take k).any (isL who node) = false) ∧ Below w.heap.size w wr) (fun i _ => l.length - (intOf i).toNat)
  case atStart => exact ⟨0, by omega, rfl, Lib.hid rfl, Below.refl _ _⟩
  case round =>
    obtain ⟨k, hk, rfl, hno, hbel⟩ := hrel
    by_cases hlt : k < l.length
    · obtain ⟨b, o, rfl, hb, c0, c1, c2⟩ := (H.out.below hbel (Nat.le_refl _)).lk hlt
      have R := Lib.hid hbel
      clear hbel
      by_cases hx : isL who node l[k] = true
      · have F := Lib.hid (idxP_at hlt hx hno.out)
        have HX := Lib.hid hx
        clear hx
        go_wp2_with fail
        refine (lockClo_c l[k] who node g g' _ ((R.out.cell (p := ⟨g, 0, none⟩) C.out.1.2).trans C.out.1.1) ((R.out.cell (p := ⟨g', 0, none⟩) C.out.2.2).trans C.out.2.1)).mono ?_
        rintro e w1 ⟨rfl, hb1⟩
        have R1 := Lib.hid (R.out.trans (hb1.mono R.out.size))
        clear hb1
        rw [HX.out]
        go_wp2_with fail
        go_ret
        exact ⟨ret_int F.out.symm, R1.out⟩
      · rw [Bool.not_eq_true] at hx
        have HX := Lib.hid hx
        clear hx
        go_wp2_with fail
        refine (lockClo_c l[k] who node g g' _ ((R.out.cell (p := ⟨g, 0, none⟩) C.out.1.2).trans C.out.1.1) ((R.out.cell (p := ⟨g', 0, none⟩) C.out.2.2).trans C.out.2.1)).mono ?_
        rintro e w1 ⟨rfl, hb1⟩
        have R1 := Lib.hid (R.out.trans (hb1.mono R.out.size))
        clear hb1
        rw [HX.out]
        go_wp2_with fail
        go_roundw
        case rel => exact ⟨k + 1, by omega, by go_num, Lib.hid (any_snoc hlt hno.out HX.out), R1.out⟩
        case measure => simp [intOf]; omega
    · have F := Lib.hid (idxP_no (any_done (by omega) hno.out))
      have R := Lib.hid hbel
      clear hbel
      go_wp2_with fail
      go_ret
      exact ⟨ret_int F.out.symm, R.out⟩
set_option maxHeartbeats 1000000 in
theorem lockAt_c (A : Option Addr) (c : Nat) (l : List Lk) (who node : Int) (w : World) (h : Rd lkE w w.heap.size A l) (hl : l.length ≤ 1048576) :
    Calls Tryd.prog 70 #[.slice A l.length c, .int .i64 who, .int .i64 node] w fun e w' => e = .returned (.int .i64 (lockI l who node)) ∧ Below w.heap.size w w' := by
  have hmf : ∀ (fn : Fn) (first cap : Array Value) (w : World), (Instr.makeFunc fn first cap).run Tryd.prog w = .ok (.func fn first cap) w := fun _ _ _ _ => rfl
  have B0 := Lib.hid (((Below.refl w.heap.size w).alloc (Nat.le_refl _) (.cells #[.int .i64 who] 3)).alloc (by simp) (.cells #[.int .i64 node] 3))
  have H := Lib.hid h
  clear h
  have k0 : ((w.alloc (.cells #[.int .i64 who] 3)).alloc (.cells #[.int .i64 node] 3)).cell? ⟨w.heap.size, 0, none⟩ = some (.int .i64 who) := cell_of_row _ _ _ _ _ _ ((Blk.new w _ _).alloc _)
  have k1 : ((w.alloc (.cells #[.int .i64 who] 3)).alloc (.cells #[.int .i64 node] 3)).cell? ⟨w.heap.size + 1, 0, none⟩ = some (.int .i64 node) := by
    simp
  have K := Lib.hid (And.intro k0 k1)
  clear k0 k1
  go_enter Tryd.func70, Tryd.ntmps70
  go_wp2_with fail
  refine (idxFL_c A c l who node w.heap.size (w.heap.size + 1) _ (H.out.grow B0.out) hl K.out.1 K.out.2).mono ?_
  rintro e w1 ⟨rfl, hb⟩
  have R := Lib.hid (B0.out.trans (hb.mono B0.out.size))
  clear hb
  go_wp2_with fail
  go_ret
  exact ⟨rfl, R.out⟩
set_option maxHeartbeats 1000000 in
theorem heldIn_c (A : Option Addr) (c : Nat) (l : List Lk) (who node : Int) (w : World) (h : Rd lkE w w.heap.size A l) (hl : l.length ≤ 1048576) :
    Calls Tryd.prog 63 #[.slice A l.length c, .int .i64 who, .int .i64 node] w fun e w' => e = .returned (.int .i64 (heldL l who node)) ∧ Below w.heap.size w w' := by
  have C := Lib.hid (lockAt_c A c l who node w h hl)
  have H := Lib.hid h
  clear h
  rcases lockI_cases l who node with ⟨h1, h2, _⟩ | ⟨i, hi, h1, h2, _⟩
  · have F := Lib.hid (And.intro h1 h2)
    clear h1 h2
    go_enter Tryd.func63, Tryd.ntmps63
    go_wp2_with fail
    refine C.out.mono ?_
    rintro e w1 ⟨rfl, hb⟩
    have R := Lib.hid hb
    clear hb
    rw [F.out.1]
    go_wp2_with fail
    go_ret
    exact ⟨ret_int F.out.2.symm, R.out⟩
  · have F := Lib.hid (And.intro h1 h2)
    clear h1 h2
    go_enter Tryd.func63, Tryd.ntmps63
    go_wp2_with fail
    refine C.out.mono ?_
    rintro e w1 ⟨rfl, hb⟩
    have R := Lib.hid hb
    obtain ⟨b, o, rfl, hb', c0, c1, c2⟩ := (H.out.below hb (Nat.le_refl _)).lk hi
    clear hb
    rw [F.out.1]
    go_wp2_with fail
    go_ret
    exact ⟨ret_int F.out.2.symm, R.out⟩
set_option maxHeartbeats 1000000 in
theorem held_c (A : Option Addr) (c : Nat) (l : List Lk) (who node : Int) (B : Nat) (w : World) (h : Rd lkE w B A l) (hl : l.length ≤ 1048576) :
    Calls Tryd.prog 62 #[.slice A l.length c, .int .i64 who, .int .i64 node] w fun e w' => e = .returned (.int .i64 (heldL l who node)) ∧ w = w' := by
  have H := Lib.hid h
  clear h
  go_enter Tryd.func62, Tryd.ntmps62
  go_wp2_with fail
  go_loop [7] (fun i => ∃ k : Nat, k ≤ l.length ∧ i = .int .i64 k ∧ Hid (∀ j (hj : j < l.length), j < k → isL who node l[j] = false)) (fun i => l.length - (intOf i).toNat)
  case atStart => exact ⟨0, by omega, rfl, Lib.hid (fun j _ h => by omega)⟩
  case round =>
    obtain ⟨k, hk, rfl, hno⟩ := hrel
    by_cases hlt : k < l.length
    · obtain ⟨b, o, rfl, hb, c0, c1, c2⟩ := H.out.lk hlt
      by_cases h1 : (l[k].who == who) = true
      · by_cases h2 : (l[k].node == node) = true
        · have F := Lib.hid (lockI_some hlt (by simp [isL, h1, h2]) (fun j hj => hno.out j (by omega) hj)).2
          go_wp2_with fail
          go_ret
          exact ⟨ret_int F.out.symm, rfl⟩
        · rw [Bool.not_eq_true] at h2
          have F := Lib.hid (show ∀ j (hj : j < l.length), j < k + 1 → isL who node l[j] = false from fun j hj hlt2 => by
            rcases Nat.lt_or_ge j k with h3 | h3
            · exact hno.out j hj h3
            · obtain rfl : j = k := by omega
              simp [isL, h2])
          go_wp2_with fail
          go_round
          case rel => exact ⟨k + 1, by omega, by go_num, F⟩
          case measure => simp [intOf]; omega
      · rw [Bool.not_eq_true] at h1
        have F := Lib.hid (show ∀ j (hj : j < l.length), j < k + 1 → isL who node l[j] = false from fun j hj hlt2 => by
          rcases Nat.lt_or_ge j k with h3 | h3
          · exact hno.out j hj h3
          · obtain rfl : j = k := by omega
            simp [isL, h1])
        go_wp2_with fail
        go_round
        case rel => exact ⟨k + 1, by omega, by go_num, F⟩
        case measure => simp [intOf]; omega
    · have F := Lib.hid (lockI_none fun j hj => hno.out j hj (by omega)).2
      go_wp2_with fail
      go_ret
      exact ⟨ret_int F.out.symm, rfl⟩
end Go.Proofs.YteoeojbeaehdpaaDoor
