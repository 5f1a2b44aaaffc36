/-
  slices.Clone of nodes: a slice of the call's own that holds the same list.
-/
import Derived.Test.YtjmeeiofoioojaaTNd
import Derived.Test.YtjmeeiofoioojaaMem2
import Derived.WalkSpells
namespace Go.Proofs.Ytjmeeiofoioojaa
open Go.RowKit

set_option maxHeartbeats 1000000 in
theorem cloneNd_c (A : Option Addr) (c : Nat) (l : List Nd) (w : World) (h : Rd ndE w w.heap.size A l) (hl : l.length ≤ 1048576) :
    Calls Try.prog 62 #[.slice A l.length c] w fun e w' => ∃ v, e = .returned v ∧ Own ndE 57 w' w.heap.size v l ∧ Below w.heap.size w w' := by
  have hnil := fun (W : World) (a : Option Addr) (n c : Nat) => Lib.run_eql_slice_nil (P := Try.prog) W 25 57 a n c 0 0 Try.underlying25
  cases A with
  | none =>
    obtain rfl : l = [] := by
      rcases h with h | ⟨b, o, h1, _⟩
      · exact h
      · cases h1
    clear h
    go_enter Try.func62, Try.ntmps62
    go_wp2_with fail
    go_ret
    exact ⟨_, rfl, Own.nil, Below.refl _ _⟩
  | some a =>
    have H := Lib.hid h
    have N := Lib.hid (own_new (E := ndE) (e := 57) w #[] [] w.heap.size (Nat.le_refl _) (by simp) rfl)
    clear h
    go_enter Try.func62, Try.ntmps62
    go_wp2_with (at_builtin; refine wpList_ap slNd rfl (.tmp 5) (.tmp 6) rfl w.heap.size _ [] rfl N.out _ (some a) c l rfl (H.out.grow ((Below.refl _ _).alloc (Nat.le_refl _) _)) (by simp; omega) (by simp) ?_; intro v' w' ho hg hat; have Z := Lib.hid (And.intro ho (below_own ((Below.refl _ _).alloc (Nat.le_refl _) _) N.out hg (by simp))); clear ho hg hat)
    go_ret
    exact ⟨_, rfl, by have := Z.out.1; rwa [List.nil_append] at this, Z.out.2⟩
end Go.Proofs.Ytjmeeiofoioojaa
