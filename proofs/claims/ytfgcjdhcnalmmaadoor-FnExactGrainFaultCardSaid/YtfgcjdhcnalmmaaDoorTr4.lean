/-
  Kids, nodes above others, the meeting of two nodes: the contracts of the reference's and the program's functions.
-/
import Derived.Test.YtfgcjdhcnalmmaaDoorTr3
namespace Go.Proofs.YtfgcjdhcnalmmaaDoor
open Go.RowKit

set_option maxRecDepth 100000 in
set_option maxHeartbeats 1000000 in
theorem isNode_c (A : Option Addr) (c : Nat) (t : List Nd) (a : Int) (w : World) (h : Rd ndE w w.heap.size A t) (hl : t.length ≤ 1048577) (hc : t.length ≤ c) :
    Calls Tryd.prog 83 #[.slice A t.length c, .int .i64 a] w fun e w' => e = .returned (.bool (nodeB t a)) ∧ Below w.heap.size w w' := by
  have H := Lib.hid h
  clear h
  by_cases ha : atOk t a = true
  · have F := Lib.hid (show nodeB t a = treeOk t by rw [nodeB, ha, Bool.and_true])
    have ha2 : inR a 0 ((t.length : Int) - 1) = true := ha
    clear ha
    go_enter Tryd.func83, Tryd.ntmps83
    go_wp2_with (go_at_call 72; refine (within_c _ _ _ _).mono ?_; rintro e w' ⟨rfl, rfl⟩)
    refine (impl_ValidTree_c A c t _ H.out hl hc).mono ?_
    rintro e w1 ⟨rfl, hb⟩
    have B := Lib.hid hb
    clear hb
    go_wp2_with fail
    go_ret
    exact ⟨ret_bool F.out.symm, B.out⟩
  · rw [Bool.not_eq_true] at ha
    have F := Lib.hid (nodeB_out ha)
    have ha2 : inR a 0 ((t.length : Int) - 1) = false := ha
    clear ha
    go_enter Tryd.func83, Tryd.ntmps83
    go_wp2_with (go_at_call 72; refine (within_c _ _ _ _).mono ?_; rintro e w' ⟨rfl, rfl⟩)
    go_ret
    exact ⟨ret_bool F.out.symm, Below.refl _ _⟩
theorem nodeB_nat {t : List Nd} {a : Int} (h : nodeB t a = true) : ∃ k : Nat, a = (k : Int) ∧ k < t.length := atOk_nat (nodeB_iff.1 h).2
theorem nodeB_okTo {t : List Nd} {a : Int} (h : nodeB t a = true) : OkTo t t.length := (treeOk_iff.1 (nodeB_iff.1 h).1).1
theorem node_cases (t : List Nd) (a : Int) : (treeOk t = false ∧ nodeB t a = false) ∨ (treeOk t = true ∧ atOk t a = false ∧ nodeB t a = false) ∨ (treeOk t = true ∧ atOk t a = true ∧ nodeB t a = true) := by
  unfold nodeB
  cases treeOk t <;> cases atOk t a <;> simp

theorem impl_ValidTreeL_c (A : Option Addr) (c : Nat) (t : List Nd) (w : World) (h : Rd ndE w w.heap.size A t) (hl : t.length ≤ 1048576) (hc : t.length ≤ c) :
    Calls Tryd.prog 58 #[.slice A t.length c] w fun e w' => e = .returned (.bool (treeOk t)) ∧ Below w.heap.size w w' := impl_ValidTree_c A c t w h (by omega) hc
theorem isAbv_no1 {t : List Nd} {a b : Int} (h : nodeB t a = false) : isAbvF t a b = false := by simp [isAbvF, h]
theorem isAbv_no2 {t : List Nd} {a b : Int} (h : nodeB t b = false) : isAbvF t a b = false := by simp [isAbvF, h]
theorem isAbv_yes {t : List Nd} {a b : Nat} (h : nodeB t a = true) (h2 : nodeB t b = true) : isAbvF t a b = abv t a b := by simp [isAbvF, h, h2]
theorem meet_no1 {t : List Nd} {a b : Int} (h : nodeB t a = false) : meetF t a b = -1 := by simp [meetF, h]
theorem meet_no2 {t : List Nd} {a b : Int} (h : nodeB t b = false) : meetF t a b = -1 := by simp [meetF, h]
theorem meet_yes {t : List Nd} {a b : Nat} (h : nodeB t a = true) (h2 : nodeB t b = true) : meetF t a b = (meetN t a b (t.length - 1) : Int) := by simp [meetF, h, h2]
end Go.Proofs.YtfgcjdhcnalmmaaDoor
