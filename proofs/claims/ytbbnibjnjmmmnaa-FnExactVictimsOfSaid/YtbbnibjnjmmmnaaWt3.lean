/-
  Who waits for whom: the reference's exported function; the program's stack.
-/
import Derived.Test.YtbbnibjnjmmmnaaWt2
namespace Go.Proofs.Ytbbnibjnjmmmnaa
open Go.RowKit

noncomputable def waitsF (wl : List Wt) (who : Int) : List Int := if validWt wl then waitsL wl who else []
theorem validWt_iff {wl : List Wt} : validWt wl = true ↔ wl.all wtOk = true ∧ wl.length ≤ 12 := by
  rw [validWt, Bool.and_eq_true, decide_eq_true_eq]

set_option maxHeartbeats 1000000 in
theorem spec_WaitsFor_c (A : Option Addr) (c : Nat) (wl : List Wt) (who : Int) (w : World) (h : Rd wtE w w.heap.size A wl) (hl : wl.length ≤ 1048576) :
    Calls Try.prog 46 #[.slice A wl.length c, .int .i64 who] w fun e w' => ∃ v, e = .returned v ∧ Own inE 3 w' w.heap.size v (waitsF wl who) ∧ Below w.heap.size w w' := by
  have C := Lib.hid (spec_validWaits_c A c wl w h hl)
  have H := Lib.hid h
  clear h
  by_cases hv : validWt wl = true
  · have hf : waitsF wl who = waitsL wl who := by rw [waitsF, if_pos hv]
    have F := Lib.hid hf
    have V := Lib.hid (validWt_iff.1 hv)
    clear hf
    go_enter Try.func46, Try.ntmps46
    go_wp2_with fail
    refine C.out.mono ?_
    rintro e w1 ⟨rfl, hb⟩
    have B1 := Lib.hid hb
    clear hb
    go_wp2_with fail
    refine (spec_reached_c A c wl who _ (H.out.grow B1.out) V.out.2 V.out.1).mono ?_
    rintro e w2 ⟨v, rfl, ho, hb⟩
    have Z := Lib.hid (And.intro ho hb)
    clear ho hb
    go_wp2_with fail
    go_ret
    exact ⟨v, rfl, by rw [F.out]; exact Z.out.1.base B1.out.size, B1.out.trans (Z.out.2.mono B1.out.size)⟩
  · rw [Bool.not_eq_true] at hv
    have hf : waitsF wl who = [] := by rw [waitsF, hv]; rfl
    have F := Lib.hid hf
    clear hf
    go_enter Try.func46, Try.ntmps46
    go_wp2_with fail
    refine C.out.mono ?_
    rintro e w1 ⟨rfl, hb⟩
    have B1 := Lib.hid hb
    clear hb
    go_wp2_with fail
    go_ret
    exact ⟨_, rfl, by rw [F.out]; exact Own.nil, B1.out⟩
end Go.Proofs.Ytbbnibjnjmmmnaa
