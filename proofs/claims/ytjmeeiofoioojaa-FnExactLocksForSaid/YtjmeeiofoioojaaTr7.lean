/-
  The locks for a lock on a node: the contracts of the reference's and the program's functions.
-/
import Derived.Test.YtjmeeiofoioojaaTr6
import Derived.Test.YtjmeeiofoioojaaMem3
import Derived.Test.YtjmeeiofoioojaaMem6
import Derived.Test.YtjmeeiofoioojaaTLk
import Derived.Test.YtjmeeiofoioojaaNeed
namespace Go.Proofs.Ytjmeeiofoioojaa
open Go.RowKit

def lkNeed (who mode : Int) (n : Int) : Lk := ⟨who, n, needI mode⟩
def lksL (P : List Int) (who node mode : Int) : List Lk := (P.take (P.length - 1)).map (lkNeed who mode) ++ [⟨who, node, mode⟩]
noncomputable def lksB (t : List Nd) (who node mode : Int) : Bool := nodeB t node && (inR who 0 3 && inR mode 1 5)
noncomputable def lksF (t : List Nd) (who node mode : Int) : List Lk := if lksB t who node mode = true then lksL (pathL t node.toNat) who node mode else []
theorem lks_no {t : List Nd} {who node mode : Int} (h : lksB t who node mode = false) : lksF t who node mode = [] := by simp [lksF, h]
theorem lks_yes {t : List Nd} {who mode : Int} {k : Nat} (h : lksB t who k mode = true) : lksF t who k mode = lksL (pathL t k) who k mode := by simp [lksF, h]
theorem lksF_len (t : List Nd) (who node mode : Int) : (lksF t who node mode).length ≤ 6 := by
  unfold lksF
  split
  · rename_i h
    simp only [lksB, Bool.and_eq_true] at h
    have h1 := nodeB_iff.1 h.1
    have := pathL_len (treeOk_iff.1 h1.1).1 (i := node.toNat) (by have := atOk_iff.1 h1.2; omega)
    simp [lksL]; omega
  · simp
theorem map_snoc {α β : Type} {f : α → β} {l : List α} {k : Nat} (hk : k < l.length) : (l.take (k + 1)).map f = (l.take k).map f ++ [f l[k]] := by
  rw [List.take_succ_eq_append_getElem hk, List.map_append]; rfl
theorem pathL_pos {t : List Nd} (h : OkTo t t.length) {i : Nat} (hi : i < t.length) : 0 < (pathL t i).length := by
  have := upL_len h i hi
  simp [pathL]; omega
theorem mode_of {m : Int} (h : inR m 1 5 = true) : modeB m = true ∧ needM m = needI m := by
  have h1 : modeB m = true := by rw [modeB_iff]; simp [inR] at h; omega
  exact ⟨h1, by simp [needM, h1]⟩

set_option maxRecDepth 100000 in
set_option maxHeartbeats 1000000 in
theorem locksFor_c (A : Option Addr) (c : Nat) (t : List Nd) (who mode : Int) (i : Nat) (w : World) (h : Rd ndE w w.heap.size A t) (hl : t.length ≤ 1048577) (ho : OkTo t t.length) (hi : i < t.length) (hm : modeB mode = true) :
    Calls Try.prog 76 #[.slice A t.length c, .int .i64 who, .int .i64 i, .int .i64 mode] w fun e w' => ∃ u, e = .returned u ∧ Own lkE 84 w' w.heap.size u (lksL (pathL t i) who i mode) ∧ Below w.heap.size w w' := by
  have H := Lib.hid (And.intro h (And.intro ho hm))
  clear h hm
  obtain ⟨P, hP⟩ : ∃ P, pathL t i = P := ⟨_, rfl⟩
  have hpos : 0 < P.length := by rw [← hP]; exact pathL_pos ho hi
  have h5 : P.length ≤ 5 := by rw [← hP]; exact pathL_len ho hi
  have HP := Lib.hid hP
  clear ho hP
  have N := Lib.hid (own_new (E := lkE) (e := 84) w #[] [] w.heap.size (Nat.le_refl _) (by simp) rfl)
  have B0 := Lib.hid ((Below.refl w.heap.size w).alloc (Nat.le_refl _) (.cells #[] 84))
  go_enter Try.func76, Try.ntmps76
  go_wp2_with fail
  refine (pathTo_c A c t i _ (H.out.1.grow B0.out) hl H.out.2.1 hi).mono ?_
  rintro e w1 ⟨u, rfl, ho, hb⟩
  rw [HP.out] at ho
  obtain ⟨Ap, cp, rfl, hcp, _, _⟩ := ho.form
  have PA := Lib.hid (show RdA inE w1 Ap P (.slice (some ⟨w.heap.size, 0, none⟩) 0 0) from RdA.own ho (fun k hk => by cases hk; simp))
  have Z := Lib.hid (And.intro (show Own lkE 84 w1 w.heap.size (.slice (some ⟨w.heap.size, 0, none⟩) 0 0) [] from N.out.grow hb) (B0.out.trans (hb.mono B0.out.size)))
  clear ho hb hcp
  go_wp2_with fail
  go_loopw [9, 11] (fun v iv wr => ∃ (k : Nat) (L : List Lk), iv = .int .i64 k ∧ k + 1 ≤ P.length ∧ L.length ≤ 5 ∧ Hid (L = (P.take k).map (lkNeed who mode)) ∧ RdA inE wr Ap P v ∧ Own lkE 84 wr w.heap.size v L ∧ Below w.heap.size w wr) (fun _ iv _ => P.length - (intOf iv).toNat)
  case atStart => exact ⟨0, [], rfl, by omega, by simp, Lib.hid rfl, PA.out, Z.out.1, Z.out.2⟩
  case round =>
    obtain ⟨k, L, rfl, hk, hlL, hL, hpa, ho, hbel⟩ := hrel
    obtain ⟨Ao, co, rfl, _, _, _⟩ := ho.form
    by_cases hlt : k + 1 < P.length
    · obtain ⟨b, o, rfl, hb, c0⟩ := hpa.rd.int (show k < P.length by omega)
      have R := Lib.hid (And.intro ho (And.intro hbel hpa))
      clear ho hbel hpa
      have S := Lib.hid (show L ++ [lkNeed who mode P[k]] = (P.take (k + 1)).map (lkNeed who mode) by rw [map_snoc (by omega), hL.out])
      have S2 : (L ++ [lkNeed who mode P[k]]).length ≤ 5 := by rw [S.out, List.length_map, List.length_take]; omega
      have hlti : (k : Int) + 1 < (P.length : Int) := by omega
      have hkP : k < P.length := by omega
      go_wp2_with fail
      go_region_law (first
        | (refine step_ap1 slLk rfl (.tmp 23) (.tmp 32) rfl _ _ (lkNeed who mode P[k]) rfl w w.heap.size _ _ rfl (R.out.1.grow (below_drewN (Below.refl _ _) _)) _ (by simp) rfl (by omega) (below_drewN R.out.2.1 _) (Nat.le_refl _) ?_; intro v1 w2 ho1 hb1 hg1 hat1; have Q := Lib.hid (And.intro ho1 (And.intro hb1 ((R.out.2.2.grow (below_drewN (Below.refl _ _) _)).push hg1 hat1))); clear ho1 hb1 hg1 hat1)
        | (go_simp; go_at_call 88; refine (needAbove_c mode H.out.2.2 _).mono ?_; rintro e w' ⟨rfl, rfl⟩))
      go_wp2_with fail
      all_goals first
        | (go_roundw; (case rel => exact ⟨k + 1, _, by go_num, by omega, S2, S, Q.out.2.2, Q.out.1, Q.out.2.1⟩); (case measure => simp [intOf]; omega))
        | (refine ⟨⟨k + 1, _, by go_num, by omega, S2, S, Q.out.2.2, Q.out.1, Q.out.2.1⟩, ?_⟩; simp [intOf]; omega)
    · have e : k = P.length - 1 := by omega
      have hlti : ¬ (k : Int) + 1 < (P.length : Int) := by omega
      have R := Lib.hid (And.intro ho hbel)
      have F := Lib.hid (show L ++ [⟨who, i, mode⟩] = lksL P who i mode by rw [lksL, hL.out, e])
      clear ho hbel hpa e
      go_wp2_with (at_builtin; refine wpList_ap1 slLk rfl (.tmp 34) (.tmp 39) rfl _ _ (⟨who, i, mode⟩ : Lk) rfl w w.heap.size _ L rfl R.out.1 rfl (by omega) R.out.2 (Nat.le_refl _) ?_; intro v3 w3 ho3 hb3 hg3 hat3; have Y := Lib.hid (And.intro ho3 hb3); clear ho3 hb3 hg3 hat3)
      go_ret
      exact ⟨_, rfl, by rw [HP.out, ← F.out]; exact Y.out.1, Y.out.2⟩
set_option maxRecDepth 100000 in
set_option maxHeartbeats 1000000 in
theorem spec_LocksFor_c (A : Option Addr) (c : Nat) (t : List Nd) (who a mode : Int) (w : World) (h : Rd ndE w w.heap.size A t) (hl : t.length ≤ 1048576) (hc : t.length ≤ c) :
    Calls Try.prog 45 #[.slice A t.length c, .int .i64 who, .int .i64 a, .int .i64 mode] w fun e w' => ∃ u, e = .returned u ∧ Own lkE 84 w' w.heap.size u (lksF t who a mode) ∧ Below w.heap.size w w' := by
  have H := Lib.hid h
  clear h
  by_cases h1 : treeOk t = true
  · by_cases hw : inR who 0 3 = true
    · by_cases h3 : atOk t a = true
      · by_cases hm : inR mode 1 5 = true
        · have h2 : nodeB t a = true := nodeB_iff.2 ⟨h1, h3⟩
          have h4 : inR a 0 ((t.length : Int) - 1) = true := h3
          obtain ⟨k, rfl, hk⟩ := atOk_nat h3
          have F := Lib.hid (lks_yes (show lksB t who k mode = true by rw [lksB, h2, hw, hm]; rfl))
          have OK := Lib.hid (nodeB_okTo h2)
          have HT := Lib.hid h1
          have HM := Lib.hid (mode_of hm).1
          clear h1 h2 h3
          go_enter Try.func45, Try.ntmps45
          go_wp2_with fail
          refine (validTree_c A c t _ _ H.out (by omega) hc).mono ?_
          rintro e w1 ⟨rfl, hd⟩
          have B := Lib.hid (hd.below w.heap.size)
          clear hd
          rw [HT.out]
          go_wp2_with (go_at_call 57; refine (inRange_c _ _ _ _).mono ?_; rintro e w' ⟨rfl, rfl⟩)
          refine (locksFor_c A c t who mode k _ (H.out.grow B.out) (by omega) OK.out hk HM.out).mono ?_
          rintro e w2 ⟨u, rfl, ho, hb⟩
          have Z := Lib.hid (And.intro (ho.base B.out.size) (B.out.trans (hb.mono B.out.size)))
          clear ho hb
          go_wp2_with fail
          go_ret
          exact ⟨_, rfl, by rw [F.out]; exact Z.out.1, Z.out.2⟩
        · rw [Bool.not_eq_true] at hm
          have h4 : inR a 0 ((t.length : Int) - 1) = true := h3
          have F := Lib.hid (lks_no (t := t) (who := who) (node := a) (mode := mode) (by rw [lksB, hm]; simp))
          have HT := Lib.hid h1
          clear h1 h3
          go_enter Try.func45, Try.ntmps45
          go_wp2_with fail
          refine (validTree_c A c t _ _ H.out (by omega) hc).mono ?_
          rintro e w1 ⟨rfl, hd⟩
          have B := Lib.hid hd
          clear hd
          rw [HT.out]
          go_wp2_with (go_at_call 57; refine (inRange_c _ _ _ _).mono ?_; rintro e w' ⟨rfl, rfl⟩)
          go_ret
          exact ⟨_, rfl, by rw [F.out]; exact Own.nil, B.out.below _⟩
      · rw [Bool.not_eq_true] at h3
        have h4 : inR a 0 ((t.length : Int) - 1) = false := h3
        have F := Lib.hid (lks_no (t := t) (who := who) (node := a) (mode := mode) (by rw [lksB, nodeB_out h3]; rfl))
        have HT := Lib.hid h1
        clear h1 h3
        go_enter Try.func45, Try.ntmps45
        go_wp2_with fail
        refine (validTree_c A c t _ _ H.out (by omega) hc).mono ?_
        rintro e w1 ⟨rfl, hd⟩
        have B := Lib.hid hd
        clear hd
        rw [HT.out]
        go_wp2_with (go_at_call 57; refine (inRange_c _ _ _ _).mono ?_; rintro e w' ⟨rfl, rfl⟩)
        go_ret
        exact ⟨_, rfl, by rw [F.out]; exact Own.nil, B.out.below _⟩
    · rw [Bool.not_eq_true] at hw
      have F := Lib.hid (lks_no (t := t) (who := who) (node := a) (mode := mode) (by rw [lksB, hw]; simp))
      have HT := Lib.hid h1
      clear h1
      go_enter Try.func45, Try.ntmps45
      go_wp2_with fail
      refine (validTree_c A c t _ _ H.out (by omega) hc).mono ?_
      rintro e w1 ⟨rfl, hd⟩
      have B := Lib.hid hd
      clear hd
      rw [HT.out]
      go_wp2_with (go_at_call 57; refine (inRange_c _ _ _ _).mono ?_; rintro e w' ⟨rfl, rfl⟩)
      go_ret
      exact ⟨_, rfl, by rw [F.out]; exact Own.nil, B.out.below _⟩
  · rw [Bool.not_eq_true] at h1
    have F := Lib.hid (lks_no (t := t) (who := who) (node := a) (mode := mode) (by rw [lksB, nodeB_bad h1]; rfl))
    have HT := Lib.hid h1
    clear h1
    go_enter Try.func45, Try.ntmps45
    go_wp2_with fail
    refine (validTree_c A c t _ _ H.out (by omega) hc).mono ?_
    rintro e w1 ⟨rfl, hd⟩
    have B := Lib.hid hd
    clear hd
    rw [HT.out]
    go_wp2_with fail
    go_ret
    exact ⟨_, rfl, by rw [F.out]; exact Own.nil, B.out.below _⟩
def askB (who node mode : Int) : Bool := (inR who 0 3 && inR node 0 11) && inR mode 1 5
set_option maxHeartbeats 1000000 in
theorem isAskB_c (a b m : Int) (v : Bool) (h : askB a b m = v) (w : World) :
    Calls Try.prog 77 #[.int .i64 a, .int .i64 b, .int .i64 m] w fun e w' => e = .returned (.bool v) ∧ w = w' := by
  subst h
  by_cases h1 : inR a 0 3 = true
  · by_cases h2 : inR b 0 11 = true
    · have F := Lib.hid (show askB a b m = inR m 1 5 by simp [askB, h1, h2])
      go_enter Try.func77, Try.ntmps77
      go_wp2_with (go_at_call 53; refine (within_c _ _ _ _).mono ?_; rintro e w' ⟨rfl, rfl⟩)
      go_ret
      exact ⟨ret_bool F.out.symm, rfl⟩
    · rw [Bool.not_eq_true] at h2
      have F := Lib.hid (show askB a b m = false by simp [askB, h2])
      go_enter Try.func77, Try.ntmps77
      go_wp2_with (go_at_call 53; refine (within_c _ _ _ _).mono ?_; rintro e w' ⟨rfl, rfl⟩)
      go_ret
      exact ⟨ret_bool F.out.symm, rfl⟩
  · rw [Bool.not_eq_true] at h1
    have F := Lib.hid (show askB a b m = false by simp [askB, h1])
    go_enter Try.func77, Try.ntmps77
    go_wp2_with (go_at_call 53; refine (within_c _ _ _ _).mono ?_; rintro e w' ⟨rfl, rfl⟩)
    go_ret
    exact ⟨ret_bool F.out.symm, rfl⟩
set_option maxRecDepth 100000 in
set_option maxHeartbeats 1000000 in
theorem impl_LocksFor_c (A : Option Addr) (c : Nat) (t : List Nd) (who a mode : Int) (w : World) (h : Rd ndE w w.heap.size A t) (hl : t.length ≤ 1048576) (hc : t.length ≤ c) :
    Calls Try.prog 46 #[.slice A t.length c, .int .i64 who, .int .i64 a, .int .i64 mode] w fun e w' => ∃ u, e = .returned u ∧ Own lkE 84 w' w.heap.size u (lksF t who a mode) ∧ Below w.heap.size w w' := by
  have H := Lib.hid h
  clear h
  by_cases h2 : nodeB t a = true
  · obtain ⟨i, rfl, hi⟩ := nodeB_nat h2
    have h11 : inR (i : Int) 0 11 = true := by have := nodeB_len h2; simp [inR]; omega
    by_cases hq : (inR who 0 3 && inR mode 1 5) = true
    · have HA := Lib.hid (show askB who i mode = true by rw [Bool.and_eq_true] at hq; simp [askB, hq.1, hq.2, h11])
      have F := Lib.hid (lks_yes (show lksB t who i mode = true by rw [lksB, h2, hq]; rfl))
      have HM := Lib.hid (mode_of (show inR mode 1 5 = true by rw [Bool.and_eq_true] at hq; exact hq.2)).2
      obtain ⟨P, hP⟩ : ∃ P, pathL t i = P := ⟨_, rfl⟩
      have hpos : 0 < P.length := by rw [← hP]; exact pathL_pos (nodeB_okTo h2) hi
      have h5 : P.length ≤ 5 := by rw [← hP]; exact pathL_len (nodeB_okTo h2) hi
      have HP := Lib.hid (show pathF t i = P by rw [path_yes h2, hP])
      have FP := Lib.hid (show lksF t who i mode = lksL P who i mode by rw [F.out, hP])
      have HB := Lib.hid h2
      clear h2 hq h11 hP
      have ln : ((P.length : Int) - 1).toNat = P.length - 1 := by omega
      have l0 : (0 : Int) ≤ (P.length : Int) - 1 := by omega
      go_enter Try.func46, Try.ntmps46
      go_wp2_with fail
      refine (isNode_c A c t i _ H.out (by omega) hc).mono ?_
      rintro e w1 ⟨rfl, hb⟩
      have B := Lib.hid hb
      clear hb
      rw [HB.out]
      go_wp2_with (go_at_call 77; refine (isAskB_c _ _ _ true HA.out _).mono ?_; rintro e w' ⟨rfl, rfl⟩)
      refine (impl_PathTo_c A c t i _ (H.out.grow B.out) hl hc).mono ?_
      rintro e w2 ⟨u, rfl, ho, hb⟩
      rw [HP.out] at ho
      obtain ⟨Ap, cp, rfl, hcp, _, _⟩ := ho.form
      have PA := Lib.hid (show RdA inE w2 Ap P (.slice none 0 0) from RdA.own ho (fun k hk => by cases hk))
      have Z := Lib.hid (B.out.trans (hb.mono B.out.size))
      clear ho hb
      have hcp2 : (P.length : Int) - 1 ≤ (cp : Int) := by omega
      have hcp3 : P.length - 1 ≤ cp := by omega
      go_wp2_with fail
      go_loopw [10, 33] (fun v iv wr => ∃ (k : Nat) (L : List Lk), iv = .int .i64 k ∧ k + 1 ≤ P.length ∧ L.length ≤ 5 ∧ Hid (L = (P.take k).map (lkNeed who mode)) ∧ RdA inE wr Ap P v ∧ Own lkE 84 wr w.heap.size v L ∧ Below w.heap.size w wr) (fun _ iv _ => P.length - (intOf iv).toNat)
      case atStart => exact ⟨0, [], rfl, by omega, by simp, Lib.hid rfl, PA.out, Own.nil, Z.out⟩
      case round =>
        obtain ⟨k, L, rfl, hk, hlL, hL, hpa, ho, hbel⟩ := hrel
        obtain ⟨Ao, co, rfl, _, _, _⟩ := ho.form
        by_cases hlt : k < P.length - 1
        · obtain ⟨b, o, rfl, hb, c0⟩ := hpa.rd.int (show k < P.length by omega)
          have R := Lib.hid (And.intro ho (And.intro hbel hpa))
          clear ho hbel hpa
          have S := Lib.hid (show L ++ [lkNeed who mode P[k]] = (P.take (k + 1)).map (lkNeed who mode) by rw [map_snoc (by omega), hL.out])
          have S2 : (L ++ [lkNeed who mode P[k]]).length ≤ 5 := by rw [S.out, List.length_map, List.length_take]; omega
          go_wp2_with (first | (go_at_call 78; refine (impl_NeedAbove_c mode _).mono ?_; rintro e w' ⟨rfl, rfl⟩; rw [HM.out]) | (at_builtin; refine wpList_ap1 slLk rfl (.tmp 37) (.tmp 43) rfl _ _ (lkNeed who mode P[k]) rfl w w.heap.size _ L rfl R.out.1 rfl (by omega) R.out.2.1 (Nat.le_refl _) ?_; intro v3 w3 ho3 hb3 hg3 hat3; have Y := Lib.hid (And.intro ho3 (And.intro hb3 (R.out.2.2.push hg3 hat3))); clear ho3 hb3 hg3 hat3))
          go_roundw
          case rel => exact ⟨k + 1, _, by go_num, by omega, S2, S, Y.out.2.2, Y.out.1, Y.out.2.1⟩
          case measure => simp [intOf]; omega
        · have e : k = P.length - 1 := by omega
          have R := Lib.hid (And.intro ho hbel)
          have F4 := Lib.hid (show L ++ [⟨who, i, mode⟩] = lksL P who i mode by rw [lksL, hL.out, e])
          clear ho hbel hpa e
          go_wp2_with (at_builtin; refine wpList_ap1 slLk rfl (.tmp 46) (.tmp 51) rfl _ _ (⟨who, i, mode⟩ : Lk) rfl w w.heap.size _ L rfl R.out.1 rfl (by omega) R.out.2 (Nat.le_refl _) ?_; intro v3 w3 ho3 hb3 hg3 hat3; have Y := Lib.hid (And.intro ho3 hb3); clear ho3 hb3 hg3 hat3)
          go_ret
          exact ⟨_, rfl, by rw [FP.out, ← F4.out]; exact Y.out.1, Y.out.2⟩
    · rw [Bool.not_eq_true] at hq
      have HA := Lib.hid (show askB who i mode = false by
        rw [Bool.and_eq_false_iff] at hq
        rcases hq with hq | hq <;> simp [askB, hq])
      have F := Lib.hid (lks_no (t := t) (who := who) (node := i) (mode := mode) (by rw [lksB, hq]; simp))
      have HB := Lib.hid h2
      clear h2 hq h11
      go_enter Try.func46, Try.ntmps46
      go_wp2_with fail
      refine (isNode_c A c t i _ H.out (by omega) hc).mono ?_
      rintro e w1 ⟨rfl, hb⟩
      have B := Lib.hid hb
      clear hb
      rw [HB.out]
      go_wp2_with (go_at_call 77; refine (isAskB_c _ _ _ false HA.out _).mono ?_; rintro e w' ⟨rfl, rfl⟩)
      go_ret
      exact ⟨_, rfl, by rw [F.out]; exact Own.nil, B.out⟩
  · rw [Bool.not_eq_true] at h2
    have F := Lib.hid (lks_no (t := t) (who := who) (node := a) (mode := mode) (by rw [lksB, h2]; rfl))
    have HB := Lib.hid h2
    clear h2
    go_enter Try.func46, Try.ntmps46
    go_wp2_with fail
    refine (isNode_c A c t a _ H.out (by omega) hc).mono ?_
    rintro e w1 ⟨rfl, hb⟩
    have B := Lib.hid hb
    clear hb
    rw [HB.out]
    go_wp2_with fail
    go_ret
    exact ⟨_, rfl, by rw [F.out]; exact Own.nil, B.out⟩
end Go.Proofs.Ytjmeeiofoioojaa
