/-
  Valid tables: the contracts of the reference's and the program's check.
-/
import Derived.Test.YteoeojbeaehdpaaDoorPTab
import Derived.Test.YteoeojbeaehdpaaDoorPList
import Derived.Test.YteoeojbeaehdpaaDoorModeB
namespace Go.Proofs.YteoeojbeaehdpaaDoor
open Go.RowKit

theorem clash_cases (x y : Lk) : ((x.node == y.node) = false ∧ clash x y = false) ∨ ((x.node == y.node) = true ∧ (x.who == y.who) = true ∧ clash x y = true) ∨
    ((x.node == y.node) = true ∧ (x.who == y.who) = false ∧ togM x.mode y.mode = true ∧ clash x y = false) ∨ ((x.node == y.node) = true ∧ (x.who == y.who) = false ∧ togM x.mode y.mode = false ∧ clash x y = true) := by
  unfold clash
  cases (x.node == y.node) <;> cases (x.who == y.who) <;> cases togM x.mode y.mode <;> simp

set_option maxRecDepth 100000 in
set_option maxHeartbeats 8000000 in
theorem spec_validTable_c (A : Option Addr) (c : Nat) (l : List Lk) (B : Nat) (w : World) (h : Rd lkE w B A l) (hl : l.length ≤ 1048576) :
    Calls Tryd.prog 57 #[.slice A l.length c] w fun e w' => e = .returned (.bool (tabOk l)) ∧ Dr w w' := by
  have H := Lib.hid h
  clear h
  go_enter Tryd.func57, Tryd.ntmps57
  go_wp2_with fail
  go_loopw [3, 4] (fun i _ wr => ∃ n : Nat, n ≤ l.length ∧ i = .int .i64 n ∧ Hid ((l.take n).all lkOk = true ∧ Calm (l.take n)) ∧ Dr w wr) (fun i _ _ => l.length - (intOf i).toNat)
  case atStart => exact ⟨0, by omega, rfl, Lib.hid ⟨rfl, List.Pairwise.nil⟩, Dr.refl w⟩
  case round =>
    obtain ⟨n, hn, rfl, hok, hd⟩ := hrel
    by_cases hlt : n < l.length
    · obtain ⟨b, o, rfl, hb, c0, c1, c2⟩ := (H.out.dr hd).lk hlt
      have R := Lib.hid hd
      clear hd
      by_cases h1 : inR l[n].who 0 3 = true
      · by_cases h2 : inR l[n].node 0 11 = true
        · by_cases h3 : inR l[n].mode 1 5 = true
          · have hx : lkOk l[n] = true := by simp [lkOk, askOk, h1, h2, h3]
            have HX := Lib.hid hx
            clear hx
            go_wp2_with (go_at_call 80; refine (inRange_c _ _ _ _).mono ?_; rintro e w' ⟨rfl, rfl⟩)
            go_loopw [4] (fun k wr' => ∃ m : Nat, m ≤ n ∧ k = .int .i64 m ∧ Hid ((l.take m).all (fun y => !clash l[n] y) = true) ∧ Dr w wr') (fun k _ => n - (intOf k).toNat)
            case atStart => exact ⟨0, by omega, rfl, Lib.hid rfl, R.out⟩
            case round =>
              obtain ⟨m, hm, rfl, hno, hd⟩ := hrel
              by_cases hlt2 : m < n
              · have hlm : m < l.length := by omega
                obtain ⟨b', o', e', hb', d0, d1, d2⟩ := (H.out.dr hd).lk hlt
                cases e'
                obtain ⟨b', o', e', hb'', g0, g1, g2⟩ := (H.out.dr hd).lk hlm
                cases e'
                have hxm : lkOk l[m] = true := List.all_eq_true.1 hok.out.1 _ (by rw [List.mem_iff_getElem]; exact ⟨m, by simp; omega, by simp⟩)
                have m1 := Lib.hid (lkOk_mode hxm)
                have m2 := Lib.hid (lkOk_mode HX.out)
                have S := Lib.hid hd
                clear hd hxm
                rcases clash_cases l[n] l[m] with ⟨e1, e4⟩ | ⟨e1, e2, e4⟩ | ⟨e1, e2, e3, e4⟩ | ⟨e1, e2, e3, e4⟩
                · rw [BEq.comm] at e1
                  have F := Lib.hid (all_snoc hlm hno.out (show (!clash l[n] l[m]) = true by rw [e4]; rfl))
                  clear e4
                  go_wp2_with fail
                  go_quiet (fail)
                  go_wp2_with fail
                  go_roundw
                  case rel => exact ⟨m + 1, by omega, by go_num, F, S.out.drewN _⟩
                  case measure => simp [intOf]; omega
                · rw [BEq.comm] at e1 e2
                  have F := Lib.hid (tabOk_clash hlt hlt2 e4)
                  clear e4
                  go_wp2_with fail
                  go_quiet (fail)
                  go_wp2_with fail
                  go_ret
                  exact ⟨ret_bool F.out.symm, S.out.drewN _⟩
                · rw [BEq.comm] at e1 e2
                  have F := Lib.hid (all_snoc hlm hno.out (show (!clash l[n] l[m]) = true by rw [e4]; rfl))
                  have T := Lib.hid (show togI l[m].mode l[n].mode = true by rw [← togM_of m1.out m2.out, togM_comm]; exact e3)
                  clear e4 e3
                  go_wp2_with fail
                  go_quiet ((go_at_call 81; exact goTogether_q _ _ m1.out m2.out true T.out _ _))
                  go_wp2_with fail
                  go_roundw
                  case rel => exact ⟨m + 1, by omega, by go_num, F, S.out.drewN _⟩
                  case measure => simp [intOf]; omega
                · rw [BEq.comm] at e1 e2
                  have F := Lib.hid (tabOk_clash hlt hlt2 e4)
                  have T := Lib.hid (show togI l[m].mode l[n].mode = false by rw [← togM_of m1.out m2.out, togM_comm]; exact e3)
                  clear e4 e3
                  go_wp2_with fail
                  go_quiet ((go_at_call 81; exact goTogether_q _ _ m1.out m2.out false T.out _ _))
                  go_wp2_with fail
                  go_ret
                  exact ⟨ret_bool F.out.symm, S.out.drewN _⟩
              · have e : m = n := by omega
                subst e
                have F := Lib.hid (And.intro (all_snoc hlt hok.out.1 HX.out) (calm_snoc hlt hok.out.2 hno.out))
                have S := Lib.hid hd
                clear hd
                go_wp2_with fail
                go_roundw
                case rel => exact ⟨m + 1, by omega, by go_num, F, S.out⟩
                case measure => simp [intOf]; omega
          · rw [Bool.not_eq_true] at h3
            have F := Lib.hid (tabOk_bad hlt (by simp [lkOk, askOk, h3]))
            go_wp2_with (go_at_call 80; refine (inRange_c _ _ _ _).mono ?_; rintro e w' ⟨rfl, rfl⟩)
            go_ret
            exact ⟨ret_bool F.out.symm, R.out⟩
        · rw [Bool.not_eq_true] at h2
          have F := Lib.hid (tabOk_bad hlt (by simp [lkOk, askOk, h2]))
          go_wp2_with (go_at_call 80; refine (inRange_c _ _ _ _).mono ?_; rintro e w' ⟨rfl, rfl⟩)
          go_ret
          exact ⟨ret_bool F.out.symm, R.out⟩
      · rw [Bool.not_eq_true] at h1
        have F := Lib.hid (tabOk_bad hlt (by simp [lkOk, askOk, h1]))
        go_wp2_with (go_at_call 80; refine (inRange_c _ _ _ _).mono ?_; rintro e w' ⟨rfl, rfl⟩)
        go_ret
        exact ⟨ret_bool F.out.symm, R.out⟩
    · have e : n = l.length := by omega
      subst e
      have R := Lib.hid hd
      have F := Lib.hid (show tabOk l = decide (l.length ≤ 48) by
        have h1 := hok.out
        rw [List.take_length] at h1
        rw [Bool.eq_iff_iff, tabOk_iff, decide_eq_true_eq]
        exact ⟨fun h => h.2.2, fun h => ⟨h1.1, h1.2, h⟩⟩)
      clear hd
      go_wp2_with fail
      go_ret
      exact ⟨ret_bool (by rw [F.out]; exact decide_eq_decide.2 (by omega)), R.out⟩
end Go.Proofs.YteoeojbeaehdpaaDoor
