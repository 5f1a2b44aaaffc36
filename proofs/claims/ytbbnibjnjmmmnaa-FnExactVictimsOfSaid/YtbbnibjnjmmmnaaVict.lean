/-
  Victims: the contracts of the reference's and the program's function, and of the library's DeleteFunc at waits.
-/
import Derived.Test.YtbbnibjnjmmmnaaDead
import Derived.Test.YtbbnibjnjmmmnaaMem3
import Derived.Test.YtbbnibjnjmmmnaaClWt
import Derived.Test.YtbbnibjnjmmmnaaPList
namespace Go.Proofs.Ytbbnibjnjmmmnaa
open Go.RowKit

set_option maxRecDepth 100000 in
set_option maxHeartbeats 2000000 in
theorem dropped_c (A : Option Addr) (c : Nat) (wl : List Wt) (v : Int) (w : World) (h : Rd wtE w w.heap.size A wl) (hl : wl.length ≤ 1048576) :
    Calls Try.prog 74 #[.slice A wl.length c, .int .i64 v] w fun e w' => ∃ v', e = .returned v' ∧ Own wtE 39 w' w.heap.size v' (dropW v wl) ∧ Below w.heap.size w w' := by
  have H := Lib.hid h
  clear h
  have N := Lib.hid (own_new (E := wtE) (e := 39) w #[] [] w.heap.size (Nat.le_refl _) (by simp) rfl)
  have B0 := Lib.hid ((Below.refl w.heap.size w).alloc (Nat.le_refl _) (.cells #[] 39))
  go_enter Try.func74, Try.ntmps74
  go_wp2_with fail
  go_loopw [5, 6] (fun vo i wr => ∃ k : Nat, k ≤ wl.length ∧ i = .int .i64 k ∧ Own wtE 39 wr w.heap.size vo ((wl.take k).filter (keepW v)) ∧ Below w.heap.size w wr) (fun _ i _ => wl.length - (intOf i).toNat)
  case atStart => exact ⟨0, by omega, rfl, N.out, B0.out⟩
  case round =>
    obtain ⟨k, hk, rfl, ho, hbel⟩ := hrel
    obtain ⟨Ao, co, rfl, _, _, _⟩ := ho.form
    have R := Lib.hid (And.intro ho hbel)
    by_cases hlt : k < wl.length
    · obtain ⟨b, o, rfl, hb, c0, c1⟩ := (H.out.below hbel (Nat.le_refl _)).wt hlt
      have hlf : ((wl.take k).filter (keepW v)).length ≤ 1048576 := Nat.le_trans (filter_take_le _ _ _) hl
      clear ho hbel
      by_cases h1 : (wl[k].who == v) = true
      · have hn1 : (wl[k].who != v) = false := by rw [bne, h1]; rfl
        have hf := Lib.hid (filter_no (p := keepW v) hlt (by simp [keepW, h1]))
        go_wp2_with fail
        go_roundw
        case rel => exact ⟨k + 1, by omega, by go_num, by rw [hf.out]; exact R.out.1, R.out.2⟩
        case measure => simp [intOf]; omega
      · rw [Bool.not_eq_true] at h1
        have hn1 : (wl[k].who != v) = true := by rw [bne, h1]; rfl
        by_cases h2 : (wl[k].wfor == v) = true
        · have hn2 : (wl[k].wfor != v) = false := by rw [bne, h2]; rfl
          have hf := Lib.hid (filter_no (p := keepW v) hlt (by simp [keepW, h2]))
          go_wp2_with fail
          go_roundw
          case rel => exact ⟨k + 1, by omega, by go_num, by rw [hf.out]; exact R.out.1, R.out.2⟩
          case measure => simp [intOf]; omega
        · rw [Bool.not_eq_true] at h2
          have hn2 : (wl[k].wfor != v) = true := by rw [bne, h2]; rfl
          have hf := Lib.hid (filter_yes (p := keepW v) hlt (by simp [keepW, h1, h2]))
          go_wp2_with (at_builtin; refine wpList_ap1 slWt rfl (.tmp 30) (.tmp 35) rfl _ _ wl[k] rfl w w.heap.size _ _ rfl R.out.1 rfl (by omega) R.out.2 (Nat.le_refl _) ?_; intro v1 w1 ho1 hb1 hg1 hat1; have Z := Lib.hid (And.intro ho1 hb1); clear ho1 hb1 hg1 hat1)
          go_roundw
          case rel => exact ⟨k + 1, by omega, by go_num, by rw [hf.out]; exact Z.out.1, Z.out.2⟩
          case measure => simp [intOf]; omega
    · have hf := Lib.hid (filter_done (p := keepW v) (l := wl) (k := k) (by omega))
      clear ho hbel
      go_wp2_with fail
      go_ret
      exact ⟨_, rfl, by unfold dropW; rw [← hf.out]; exact R.out.1, R.out.2⟩
set_option maxRecDepth 100000 in
set_option maxHeartbeats 4000000 in
theorem spec_VictimsOf_c (A : Option Addr) (c : Nat) (wl : List Wt) (w : World) (h : Rd wtE w w.heap.size A wl) (hl : wl.length ≤ 1048576) :
    Calls Try.prog 51 #[.slice A wl.length c] w fun e w' => ∃ v, e = .returned v ∧ Own inE 3 w' w.heap.size v (victF wl) ∧ Below w.heap.size w w' := by
  have H := Lib.hid h
  clear h
  have N := Lib.hid (own_new (E := inE) (e := 3) w #[] [] w.heap.size (Nat.le_refl _) (by simp) rfl)
  have B0 := Lib.hid ((Below.refl w.heap.size w).alloc (Nat.le_refl _) (.cells #[] 3))
  by_cases hv : validWt wl = true
  · have V := Lib.hid (VInv.start hv)
    go_enter Try.func51, Try.ntmps51
    go_wp2_with fail
    refine (spec_validWaits_c A c wl _ (H.out.grow B0.out) hl).mono ?_
    rintro e w1 ⟨rfl, hb⟩
    have B1 := Lib.hid (B0.out.trans (hb.mono B0.out.size))
    have O1 := Lib.hid (N.out.grow hb)
    clear hb
    go_wp2_with fail
    go_loopw [0, 3] (fun vw vo wr => ∃ (D : List Int) (l : List Wt) (A : Option Addr) (c : Nat), vw = .slice A l.length c ∧ Hid (VInv wl D l) ∧ RdA wtE wr A l vo ∧ Own inE 3 wr w.heap.size vo D ∧ Below w.heap.size w wr) (fun vw _ _ => lenOf vw)
    case atStart => exact ⟨[], wl, A, c, rfl, V, RdA.old (H.out.below B1.out (Nat.le_refl _)) B1.out.size (fun k hk => (O1.out.lt k hk).1), O1.out, B1.out⟩
    case round =>
      obtain ⟨D, l, A', c', rfl, hinv, hra, ho, hbel⟩ := hrel
      obtain ⟨Ao, co, rfl, _, _, _⟩ := ho.form
      have hDl := hinv.out.len
      have R := Lib.hid (And.intro hra (And.intro ho hbel))
      clear hra ho hbel
      go_wp2_with fail
      refine (spec_DeadlockOf_c A' c' l _ R.out.1.rd (by omega)).mono ?_
      rintro e w2 ⟨v2, rfl, ho2, hb2⟩
      obtain ⟨A2, c2, rfl, _, _, hr2⟩ := ho2.form
      have hd4 := deadF_len l
      have Z := Lib.hid (And.intro (R.out.1.grow hb2) (And.intro (R.out.2.1.grow hb2) (And.intro (R.out.2.2.trans (hb2.mono R.out.2.2.size)) (And.intro ho2 hb2.size))))
      have L2 := Lib.hid R.out.2.1.lt
      clear ho2 hb2
      by_cases hp : 0 < (deadF l).length
      · obtain ⟨b, o, rfl, hb, d0⟩ := hr2.int (k := (deadF l).length - 1) (by omega)
        have hst := hinv.out.step hp
        obtain ⟨v, hv2⟩ : ∃ v, v = (deadF l)[(deadF l).length - 1] := ⟨_, rfl⟩
        rw [← hv2] at d0 hst
        have ST := Lib.hid hst
        have hne0 : ((((deadF l).length : Nat) : Int) == 0) = false := by rw [beq_eq_false_iff_ne]; omega
        have HV := Lib.hid hv2
        clear hr2 hst hv2
        go_wp2_with (at_builtin; go_loud (refine wpList_ap1 slIn rfl (.tmp 15) (.tmp 22) rfl _ _ v rfl w w.heap.size _ D rfl Z.out.2.1 rfl (by omega) Z.out.2.2.1 (Nat.le_refl _) ?_); intro v1 w3 ho1 hb1 hg1 hat1; go_loud (have Y := Lib.hid (And.intro ho1 (And.intro hb1 (And.intro (Z.out.1.push hg1 hat1) (Z.out.2.2.2.1.kept hg1 (own_ne' (fun k hk => (Z.out.2.2.2.1.lt k hk).1) (fun k hk => (L2.out k hk).2) (Nat.le_refl _))))))); clear ho1 hb1 hg1 hat1; obtain ⟨b2, o2, e2, _, d1⟩ := Y.out.2.2.2.rd.1.int (k := (deadF l).length - 1) (by omega); cases e2; rw [← HV.out] at d1)
        refine (dropped_c _ _ l v _ Y.out.2.2.1.rd (by omega)).mono ?_
        rintro e w4 ⟨v4, rfl, ho4, hb4⟩
        obtain ⟨A4, c4, rfl, _, _, _⟩ := ho4.form
        have X := Lib.hid (And.intro ho4 (And.intro (Y.out.1.grow hb4) (And.intro (Y.out.2.1.trans (hb4.mono Y.out.2.1.size)) Y.out.1.lt)))
        clear ho4 hb4 d1
        go_wp2_with fail
        go_roundw
        case rel => exact ⟨D ++ [v], dropW v l, A4, c4, rfl, Lib.hid ST.out.1, RdA.own X.out.1 (fun k hk => (X.out.2.2.2 k hk).2), X.out.2.1, X.out.2.2.1⟩
        case measure => simpa [lenOf] using ST.out.2
      · have hd0 : deadF l = [] := List.eq_nil_of_length_eq_zero (by omega)
        have F := Lib.hid (hinv.out.fin hd0)
        rw [hd0]
        clear hr2 hp
        go_wp2_with fail
        go_ret
        exact ⟨_, rfl, by rw [F.out]; exact Z.out.2.1, Z.out.2.2.1⟩
  · rw [Bool.not_eq_true] at hv
    have F := Lib.hid (show victF wl = [] by rw [victF, hv]; rfl)
    go_enter Try.func51, Try.ntmps51
    go_wp2_with fail
    refine (spec_validWaits_c A c wl _ (H.out.grow B0.out) hl).mono ?_
    rintro e w1 ⟨rfl, hb⟩
    have B1 := Lib.hid (B0.out.trans (hb.mono B0.out.size))
    clear hb
    go_wp2_with fail
    go_ret
    exact ⟨_, rfl, by rw [F.out]; exact Own.nil, B1.out⟩
end Go.Proofs.Ytbbnibjnjmmmnaa
