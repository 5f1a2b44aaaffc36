/-
  The contracts of the generators of modes: whatever the code, one or two numbers; nothing that was there turns.
-/
import Derived.Test.YtbfaaolbdgpnoaaDoorGen
namespace Go.Proofs.YtbfaaolbdgpnoaaDoor
open Go.RowKit

theorem Rdr.alloc {w : World} {g : Nat} {l : List Int} {p : Nat} (h : Rdr w g l p) (o : Obj) : Rdr (w.alloc o) g l p :=
  h.below (B := w.heap.size) ((Below.refl _ _).alloc (Nat.le_refl _) o) h.lt
theorem Rdr.grown {w w' : World} {g : Nat} {l : List Int} {p : Nat} (h : Rdr w g l p) (hb : Below w.heap.size w w') : Rdr w' g l p := h.below hb h.lt

/-- 'one' of a list that the text writes out. -/
theorem one_lit (g : Nat) (l : List Int) (p : Nat) (hp : p < 100000) (w : World) (h : Rdr w g l p) (cs : Array Value) (T : TypeId) (n : Nat) (xs : List Int) (hn : 1 ≤ n) (hn2 : n ≤ 100000) (hlen : n ≤ xs.length) (hcs : cs = (xs.map (Value.int .i64)).toArray) :
    Calls Tryd.prog 40 #[.pointer (some ⟨g, 0, none⟩), .slice (some ⟨w.heap.size, 0, none⟩) n n] (w.alloc (.cells cs T)) fun e w' => ∃ x, x ∈ xs ∧ e = .returned (.int .i64 x) ∧ Rdr w' g l (p + 1) ∧ w.grownBy w' (some g) := by
  have hlt := h.lt
  refine (one_c g l p hp _ (h.alloc _) w.heap.size n n xs hn hn2 hlen (fun k x hx => ?_) (by omega) (by simp)).mono ?_
  · subst hcs
    rw [cell_of_row _ _ _ _ _ _ (heap_alloc_new w _)]
    simp [hx]
  · rintro e w' ⟨x, hx, rfl, hr, hg, hz⟩
    exact ⟨x, hx, rfl, hr, ⟨hg.os, hg.tape, hg.output, by have := hg.size; simp at this; omega, fun k hk hne => (hg.block k (by simp; omega) hne).trans (Below.heap_alloc w _ k hk)⟩⟩

def genModes : List Int := [0, 1, 2, 3, 4, 5, 5, 3, -1, 6]
set_option maxHeartbeats 400000 in
theorem someMode_c (g : Nat) (l : List Int) (p : Nat) (hp : p < 100000) (w : World) (h : Rdr w g l p) :
    Calls Tryd.prog 36 #[.pointer (some ⟨g, 0, none⟩)] w fun e w' => ∃ x, x ∈ genModes ∧ e = .returned (.int .i64 x) ∧ Rdr w' g l (p + 1) ∧ w.grownBy w' (some g) := by
  have H := Lib.hid h
  clear h
  go_enter Tryd.func36, Tryd.ntmps36
  go_wp2_with fail
  refine (one_lit g l p hp w H.out _ _ 10 genModes (by omega) (by omega) (by decide) rfl).mono ?_
  rintro e w' ⟨x, hx, rfl, hr, hg⟩
  have X := Lib.hid (And.intro hx (And.intro hr hg))
  clear hx hr hg
  go_wp2_with fail
  go_ret
  exact ⟨x, X.out.1, rfl, X.out.2.1, X.out.2.2⟩

set_option maxHeartbeats 400000 in
theorem DrawGoTogether_c (A : Option Addr) (c : Nat) (l : List Int) (w : World) (h : BytesAt w w.heap.size A l) (hl : l.length ≤ c) :
    Calls Tryd.prog 26 #[.slice A l.length c] w fun e w' => ∃ x y, x ∈ genModes ∧ y ∈ genModes ∧ e = .returned (.tuple #[.int .i64 x, .int .i64 y]) ∧ Below w.heap.size w w' := by
  have H := Lib.hid h
  clear h
  go_enter Tryd.func26, Tryd.ntmps26
  go_wp2_with fail
  refine (newReader_c A c l w H.out hl).mono ?_
  rintro e w1 ⟨rfl, hr, hb, hz⟩
  have X1 := Lib.hid (And.intro hr (And.intro hb hz))
  clear hr hb hz
  go_wp2_with fail
  refine (someMode_c _ _ 0 (by omega) _ X1.out.1).mono ?_
  rintro e w2 ⟨x, hx, rfl, hr, hg⟩
  have X2 := Lib.hid (And.intro hx (And.intro hr hg))
  clear hx hr hg
  go_wp2_with fail
  refine (someMode_c _ _ _ (by omega) _ X2.out.2.1).mono ?_
  rintro e w3 ⟨y, hy, rfl, hr, hg⟩
  have X3 := Lib.hid (And.intro hy (And.intro hr hg))
  clear hy hr hg
  go_wp2_with fail
  go_ret2
  refine ⟨x, y, X2.out.1, X3.out.1, rfl, X1.out.2.1.trans ((below_of_grown X2.out.2.2 (Nat.le_refl _) ?_).trans (below_of_grown X3.out.2.2 (Nat.le_refl _) ?_))⟩
  · have := X1.out.2.1.size; omega
  · have := X1.out.2.1.size; have := X2.out.2.2.size; omega

set_option maxHeartbeats 400000 in
theorem DrawJoinModes_c (A : Option Addr) (c : Nat) (l : List Int) (w : World) (h : BytesAt w w.heap.size A l) (hl : l.length ≤ c) :
    Calls Tryd.prog 27 #[.slice A l.length c] w fun e w' => ∃ x y, x ∈ genModes ∧ y ∈ genModes ∧ e = .returned (.tuple #[.int .i64 x, .int .i64 y]) ∧ Below w.heap.size w w' := by
  have H := Lib.hid h
  clear h
  go_enter Tryd.func27, Tryd.ntmps27
  go_wp2_with fail
  refine (DrawGoTogether_c A c l w H.out hl).mono ?_
  rintro e w1 ⟨x, y, hx, hy, rfl, hb⟩
  have X := Lib.hid (And.intro hx (And.intro hy hb))
  clear hx hy hb
  go_wp2_with fail
  go_ret2
  exact ⟨x, y, X.out.1, X.out.2.1, rfl, X.out.2.2⟩

set_option maxHeartbeats 400000 in
theorem DrawIsStronger_c (A : Option Addr) (c : Nat) (l : List Int) (w : World) (h : BytesAt w w.heap.size A l) (hl : l.length ≤ c) :
    Calls Tryd.prog 25 #[.slice A l.length c] w fun e w' => ∃ x y, x ∈ genModes ∧ y ∈ genModes ∧ e = .returned (.tuple #[.int .i64 x, .int .i64 y]) ∧ Below w.heap.size w w' := by
  have H := Lib.hid h
  clear h
  go_enter Tryd.func25, Tryd.ntmps25
  go_wp2_with fail
  refine (DrawGoTogether_c A c l w H.out hl).mono ?_
  rintro e w1 ⟨x, y, hx, hy, rfl, hb⟩
  have X := Lib.hid (And.intro hx (And.intro hy hb))
  clear hx hy hb
  go_wp2_with fail
  go_ret2
  exact ⟨x, y, X.out.1, X.out.2.1, rfl, X.out.2.2⟩

set_option maxHeartbeats 400000 in
theorem DrawNeedAbove_c (A : Option Addr) (c : Nat) (l : List Int) (w : World) (h : BytesAt w w.heap.size A l) (hl : l.length ≤ c) :
    Calls Tryd.prog 28 #[.slice A l.length c] w fun e w' => ∃ x, x ∈ genModes ∧ e = .returned (.int .i64 x) ∧ Below w.heap.size w w' := by
  have H := Lib.hid h
  clear h
  go_enter Tryd.func28, Tryd.ntmps28
  go_wp2_with fail
  refine (newReader_c A c l w H.out hl).mono ?_
  rintro e w1 ⟨rfl, hr, hb, hz⟩
  have X1 := Lib.hid (And.intro hr (And.intro hb hz))
  clear hr hb hz
  go_wp2_with fail
  refine (someMode_c _ _ 0 (by omega) _ X1.out.1).mono ?_
  rintro e w2 ⟨x, hx, rfl, hr, hg⟩
  have X2 := Lib.hid (And.intro hx (And.intro hr hg))
  clear hx hr hg
  go_wp2_with fail
  go_ret
  refine ⟨x, X2.out.1, rfl, X1.out.2.1.trans (below_of_grown X2.out.2.2 (Nat.le_refl _) ?_)⟩
  have := X1.out.2.1.size; omega
end Go.Proofs.YtbfaaolbdgpnoaaDoor
