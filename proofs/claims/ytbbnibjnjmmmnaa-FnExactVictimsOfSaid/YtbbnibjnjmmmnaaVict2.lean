/-
  Victims: the contract of the program's function.
-/
import Derived.Test.YtbbnibjnjmmmnaaDelF2
namespace Go.Proofs.Ytbbnibjnjmmmnaa
open Go.RowKit

set_option maxRecDepth 100000 in
set_option maxHeartbeats 4000000 in
theorem impl_VictimsOf_c (A : Option Addr) (c : Nat) (wl : List Wt) (w : World) (h : Rd wtE w w.heap.size A wl) (hl : wl.length ≤ 1048576) :
    Calls Try.prog 52 #[.slice A wl.length c] w fun e w' => ∃ v, e = .returned v ∧ Own inE 3 w' w.heap.size v (victF wl) ∧ Below w.heap.size w w' := by
  have C := Lib.hid (impl_ValidWaits_c A c wl w h hl)
  have H := Lib.hid h
  clear h
  by_cases hv : validWt wl = true
  · have V := Lib.hid (VInv.start hv)
    have hmf : ∀ (fn : Fn) (first cap : Array Value) (w : World), (Instr.makeFunc fn first cap).run Try.prog w = .ok (.func fn first cap) w := fun _ _ _ _ => rfl
    go_enter Try.func52, Try.ntmps52
    go_wp2_with fail
    refine C.out.mono ?_
    rintro e w1 ⟨rfl, hb⟩
    have B1 := Lib.hid hb
    clear hb
    go_wp2_with fail
    refine (cloneWt_c A c wl _ (H.out.grow B1.out) hl).mono ?_
    rintro e w2 ⟨v0, rfl, ho, hb⟩
    have Z0 := Lib.hid (And.intro (ho.base B1.out.size) (B1.out.trans (hb.mono B1.out.size)))
    clear ho hb
    go_wp2_with fail
    go_loopw [3, 4] (fun vw vo wr => ∃ (D : List Int) (l : List Wt), Hid (VInv wl D l) ∧ Own wtE 39 wr w.heap.size vw l ∧ Own inE 3 wr w.heap.size vo D ∧ Hid (Apart vw vo) ∧ Below w.heap.size w wr) (fun vw _ _ => lenOf vw)
    case atStart => exact ⟨[], wl, V, Z0.out.1, Own.nil, Lib.hid (Apart.symm (.inl rfl)), Z0.out.2⟩
    case round =>
      obtain ⟨D, l, hinv, how, ho, hap, hbel⟩ := hrel
      have hDl := hinv.out.len
      obtain ⟨A', c', rfl, _, _, hrl⟩ := how.form
      obtain ⟨Ao, co, rfl, _, _, _⟩ := ho.form
      have R := Lib.hid (And.intro how (And.intro ho (And.intro hbel hrl)))
      clear how ho hbel hrl
      go_wp2_with fail
      refine (impl_DeadlockOf_c A' c' l _ R.out.2.2.2 (by omega)).mono ?_
      rintro e w3 ⟨v2, rfl, ho2, hb2⟩
      obtain ⟨A2, c2, rfl, _, _, hr2⟩ := ho2.form
      have hd4 := deadF_len l
      have Z := Lib.hid (And.intro (R.out.1.grow hb2) (And.intro (R.out.2.1.grow hb2) (R.out.2.2.1.trans (hb2.mono R.out.2.2.1.size))))
      clear ho2 hb2
      by_cases hp : 0 < (deadF l).length
      · obtain ⟨b, o, rfl, hb, d0⟩ := hr2.int (k := (deadF l).length - 1) (by omega)
        have hst := hinv.out.step hp
        obtain ⟨v, hv2⟩ : ∃ v, v = (deadF l)[(deadF l).length - 1] := ⟨_, rfl⟩
        rw [← hv2] at d0 hst
        have ST := Lib.hid hst
        have hne0 : ((((deadF l).length : Nat) : Int) == 0) = false := by rw [beq_eq_false_iff_ne]; omega
        clear hr2 hst hv2
        go_wp2_with (at_builtin; go_loud (refine wpList_ap1g slIn rfl (.tmp 24) (.tmp 26) rfl _ _ v rfl w w.heap.size _ D rfl (Z.out.2.1.alloc _) _ (by simp) rfl (by omega) (Z.out.2.2.alloc Z.out.2.2.size _) (Nat.le_refl _) ?_); intro v1 w4 ho1 hb1 hg1 hat1; go_loud (have Y := Lib.hid (And.intro ho1 (And.intro hb1 (And.intro ((Z.out.1.alloc _).kept' hg1 hap.out) (And.intro (Apart.grown hap.out (Z.out.1.alloc _) hat1) ((Blk.new w3 3 #[.int .i64 v]).kept hg1 (fun e => by have := (Z.out.2.1.lt _ e.symm).2; omega))))))); clear ho1 hb1 hg1 hat1)
        refine (delFW_c _ l v w3.heap.size w.heap.size _ Y.out.2.2.1 (by omega) (cell_of_row _ _ _ _ _ _ Y.out.2.2.2.2) (fun e => by have := (Z.out.1.lt _ e).2; omega)).mono ?_
        rintro e w5 ⟨v5, rfl, ho5, he5, hg5⟩
        obtain ⟨A5, c5, rfl, _, _, _⟩ := ho5.form
        have X := Lib.hid (And.intro ho5 (And.intro (Y.out.1.kept hg5 Y.out.2.2.2.1.symm) (And.intro (below_own Y.out.2.1 Y.out.2.2.1 hg5 Y.out.2.1.size) (show Apart (Value.slice A5 (dropW v l).length c5) v1 from by have := Y.out.2.2.2.1; unfold Apart at this ⊢; rw [he5]; exact this))))
        clear ho5 he5 hg5
        go_wp2_with fail
        go_roundw
        case rel => exact ⟨D ++ [v], dropW v l, Lib.hid ST.out.1, X.out.1, X.out.2.1, Lib.hid X.out.2.2.2, X.out.2.2.1⟩
        case measure => simpa [lenOf] using ST.out.2
      · have hd0 : deadF l = [] := List.eq_nil_of_length_eq_zero (by omega)
        have F := Lib.hid (hinv.out.fin hd0)
        rw [hd0]
        clear hr2 hp
        go_wp2_with fail
        go_ret
        exact ⟨_, rfl, by rw [F.out]; exact Z.out.2.1, Z.out.2.2⟩
  · rw [Bool.not_eq_true] at hv
    have F := Lib.hid (show victF wl = [] by rw [victF, hv]; rfl)
    go_enter Try.func52, Try.ntmps52
    go_wp2_with fail
    refine C.out.mono ?_
    rintro e w1 ⟨rfl, hb⟩
    have B1 := Lib.hid hb
    clear hb
    go_wp2_with fail
    go_ret
    exact ⟨_, rfl, by rw [F.out]; exact Own.nil, B1.out⟩
end Go.Proofs.Ytbbnibjnjmmmnaa
