/-
  slices.Clone of locks: a slice of the call's own that holds the same list.
-/
import Derived.Test.YtfgcjdhcnalmmaaDoorTLk
import Derived.Test.YtfgcjdhcnalmmaaDoorMem2
import Derived.WalkSpells
namespace Go.Proofs.YtfgcjdhcnalmmaaDoor
open Go.RowKit

set_option maxHeartbeats 1000000 in
theorem cloneLk_c (A : Option Addr) (c : Nat) (l : List Lk) (w : World) (h : Rd lkE w w.heap.size A l) (hl : l.length ≤ 1048576) :
    Calls Tryd.prog 44 #[.slice A l.length c] w fun e w' => ∃ v, e = .returned v ∧ Own lkE 57 w' w.heap.size v l ∧ Below w.heap.size w w' := by
  have hnil := fun (W : World) (a : Option Addr) (n c : Nat) => Lib.run_eql_slice_nil (P := Tryd.prog) W 24 57 a n c 0 0 Tryd.underlying24
  cases A with
  | none =>
    obtain rfl : l = [] := by
      rcases h with h | ⟨b, o, h1, _⟩
      · exact h
      · cases h1
    clear h
    go_enter Tryd.func44, Tryd.ntmps44
    go_wp2_with fail
    go_ret
    exact ⟨_, rfl, Own.nil, Below.refl _ _⟩
  | some a =>
    have H := Lib.hid h
    have N := Lib.hid (own_new (E := lkE) (e := 57) w #[] [] w.heap.size (Nat.le_refl _) (by simp) rfl)
    clear h
    go_enter Tryd.func44, Tryd.ntmps44
    go_wp2_with (at_builtin; refine wpList_ap slLk rfl (.tmp 5) (.tmp 6) rfl w.heap.size _ [] rfl N.out _ (some a) c l rfl (H.out.grow ((Below.refl _ _).alloc (Nat.le_refl _) _)) (by simp; omega) (by simp) ?_; intro v' w' ho hg hat; have Z := Lib.hid (And.intro ho (below_own ((Below.refl _ _).alloc (Nat.le_refl _) _) N.out hg (by simp))); clear ho hg hat)
    go_ret
    exact ⟨_, rfl, by have := Z.out.1; rwa [List.nil_append] at this, Z.out.2⟩
end Go.Proofs.YtfgcjdhcnalmmaaDoor
