/-
  A node's path: the contract of the reference's own walk up.
-/
import Derived.Test.YtfgcjdhcnalmmaaDoorTr4
import Derived.Test.YtfgcjdhcnalmmaaDoorTIn
namespace Go.Proofs.YtfgcjdhcnalmmaaDoor
open Go.RowKit

def upI (t : List Nd) (i : Nat) : List Int := (upL t i).map fun (x : Nat) => (x : Int)
theorem pathL_up (t : List Nd) (i : Nat) : pathL t i = (upI t i).reverse := by simp [pathL, upI, List.map_reverse]
theorem upI_zero (t : List Nd) : upI t 0 = [0] := rfl
theorem upI_step {t : List Nd} (h : OkTo t t.length) {i p : Nat} (hi : i < t.length) (h0 : 0 < i) (hp : t[i].par = (p : Int)) : upI t i = (i : Int) :: upI t p := by
  rw [upI, upL_step h hi h0 hp]; rfl
theorem upI_len {t : List Nd} (h : OkTo t t.length) {i : Nat} (hi : i < t.length) : (upI t i).length ≤ 5 := by
  have h1 := upL_len h i hi
  have h2 := dep_le h hi
  simp only [upI, List.length_map]; omega
theorem pathL_zero (t : List Nd) : pathL t 0 = [0] := rfl
theorem pathL_step {t : List Nd} (h : OkTo t t.length) {i p : Nat} (hi : i < t.length) (h0 : 0 < i) (hp : t[i].par = (p : Int)) : pathL t i = pathL t p ++ [(i : Int)] := by
  rw [pathL_up, pathL_up, upI_step h hi h0 hp, List.reverse_cons]
theorem path_no {t : List Nd} {a : Int} (h : nodeB t a = false) : pathF t a = [] := by simp [pathF, h]
theorem path_yes {t : List Nd} {k : Nat} (h : nodeB t k = true) : pathF t k = pathL t k := by simp [pathF, h]

set_option maxRecDepth 100000 in
set_option maxHeartbeats 1000000 in
theorem pathTo_c (A : Option Addr) (c : Nat) (t : List Nd) (i : Nat) (w : World) (h : Rd ndE w w.heap.size A t) (hl : t.length ≤ 1048577) (ho : OkTo t t.length) (hi : i < t.length) :
    Calls Tryd.prog 82 #[.slice A t.length c, .int .i64 i] w fun e w' => ∃ u, e = .returned u ∧ Own inE 3 w' w.heap.size u (pathL t i) ∧ Below w.heap.size w w' := by
  have H := Lib.hid (And.intro h ho)
  clear h ho
  have N := Lib.hid (own_new (E := inE) (e := 3) w #[.int .i64 i] [(i : Int)] w.heap.size (Nat.le_refl _) (by simp) rfl)
  have B0 := Lib.hid ((Below.refl w.heap.size w).alloc (Nat.le_refl _) (.cells #[.int .i64 i] 3))
  go_enter Tryd.func82, Tryd.ntmps82
  go_wp2_with fail
  go_loopw [1, 5] (fun jv v wr => ∃ (j : Nat) (L : List Int), jv = .int .i64 j ∧ j ≤ i ∧ L.length + j ≤ i + 1 ∧ Hid (∃ L', L = (j : Int) :: L' ∧ pathL t i = pathL t j ++ L') ∧ Own inE 3 wr w.heap.size v L ∧ Below w.heap.size w wr) (fun jv _ _ => (intOf jv).toNat)
  case atStart => exact ⟨i, [(i : Int)], rfl, Nat.le_refl _, by simp; omega, Lib.hid ⟨[], rfl, by simp⟩, N.out, B0.out⟩
  case round =>
    obtain ⟨j, L, rfl, hj, hlen, hm, ho, hbel⟩ := hrel
    obtain ⟨Ao, co, rfl, _, _, hr⟩ := ho.form
    have R := Lib.hid (And.intro ho (And.intro hbel hr))
    by_cases h0 : 0 < j
    · obtain ⟨b, o, rfl, hb, c0, c1, c2⟩ := (H.out.1.below hbel (Nat.le_refl _)).nd (show j < t.length by omega)
      obtain ⟨p, hp, hpj⟩ := H.out.2.parN (show j < t.length by omega) h0
      have F := Lib.hid (show ∃ L', [(p : Int)] ++ L = (p : Int) :: L' ∧ pathL t i = pathL t p ++ L' by
        obtain ⟨L', e1, e2⟩ := hm.out
        refine ⟨L, rfl, ?_⟩
        rw [e2, pathL_step H.out.2 (by omega) h0 hp, e1, List.append_assoc]; rfl)
      rw [hp] at c0
      have N2 := Lib.hid (own_new (E := inE) (e := 3) wr #[.int .i64 p] [(p : Int)] w.heap.size hbel.size (by simp) rfl)
      clear ho hbel hr hp
      go_wp2_with (at_builtin; refine wpList_ap slIn rfl (.tmp 16) (.tmp 17) rfl w.heap.size _ [(p : Int)] rfl N2.out _ Ao co L rfl (R.out.2.2.grow ((Below.refl _ _).alloc (Nat.le_refl _) _)) (by simp; omega) (by have := R.out.2.1.size; simp; omega) ?_; intro v2 w2 ho1 hg1 hat1; have Z := Lib.hid (And.intro ho1 (below_own (R.out.2.1.alloc R.out.2.1.size _) N2.out hg1 (by have := R.out.2.1.size; simp; omega))); clear ho1 hg1 hat1)
      go_roundw
      case rel => exact ⟨p, _, rfl, by omega, by simp; omega, F, Z.out.1, Z.out.2⟩
      case measure => simp [intOf]; omega
    · have F := Lib.hid (show L = pathL t i by
        obtain ⟨L', e1, e2⟩ := hm.out
        obtain rfl : j = 0 := by omega
        rw [e1, e2, pathL_zero]; rfl)
      clear ho hbel hr
      go_wp2_with fail
      go_ret
      exact ⟨_, rfl, by rw [← F.out]; exact R.out.1, R.out.2.1⟩
end Go.Proofs.YtfgcjdhcnalmmaaDoor
