/-
  The library's IndexFunc and DeleteFunc at waits, with the program's closure.
-/
import Derived.Test.YtbbnibjnjmmmnaaVict
import Derived.Laws.IdiomCopy
namespace Go.Proofs.Ytbbnibjnjmmmnaa
open Go.RowKit

theorem Blk.setCells {g : Nat} {e : TypeId} : ∀ (vs : List Value) {w : World} {cs : Array Value} (o : Nat), Blk w g e cs → Blk (w.setCells g o vs) g e (setAll cs o vs)
  | [], _, _, _, h => h
  | v :: vs, _, _, o, h => Blk.setCells vs (o + 1) (h.set o v)
theorem only_setCells {g : Nat} : ∀ (vs : List Value) {a w : World} (o : Nat), a.grownBy w (some g) → a.grownBy (w.setCells g o vs) (some g)
  | [], _, _, _, h => h
  | _ :: vs, _, _, o, h => only_setCells vs (o + 1) (only_set h)
theorem setAll_near (vs : List Value) : ∀ (cs : Array Value) (i : Nat), (setAll cs i vs).toList.take i = cs.toList.take i := by
  induction vs with
  | nil => intro cs i; rfl
  | cons v vs ih =>
    intro cs i
    rw [setAll]
    have h1 := ih (cs.setIfInBounds i v) (i + 1)
    have h2 : ∀ l : List Value, l.take i = (l.take (i + 1)).take i := fun l => by rw [List.take_take, Nat.min_eq_left (by omega)]
    rw [h2, h1, ← h2, Array.toList_setIfInBounds, List.take_set_of_le (Nat.le_refl _)]
theorem setAll_take_le (vs : List Value) (cs : Array Value) (i j : Nat) (h : j ≤ i) : (setAll cs i vs).toList.take j = cs.toList.take j := by
  have h2 : ∀ l : List Value, l.take j = (l.take i).take j := fun l => by rw [List.take_take, Nat.min_eq_left h]
  rw [h2, setAll_near, ← h2]
/-- 'clear(s)' at a slice of structs of one-cell fields -/
theorem run_clear_blk {P : Program} {t e ty : TypeId} {z : Value} {n : Nat} (ht : P.underlying t = some (.slice e)) (hv : ∀ w, (zeroValue e).run P w = .ok z w) (h1 : ∀ u ∈ (Builtin.zeroCells z.cells n).toList, u.oneCell' = true)
    {w : World} {g o c : Nat} {cs : Array Value} (hb : Blk w g e cs) (hn : 0 < n) (hs : o + n * z.cells.size ≤ cs.size) :
    (Builtin.clear_ #[t] ty #[.slice (some ⟨g, o, none⟩) n c]).run P w = .ok (.tuple #[]) (w.setCells g o (Builtin.zeroCells z.cells n).toList) := by
  have hlen : (Builtin.zeroCells z.cells n).toList.length = n * z.cells.size := by simp [Builtin.zeroCells]
  have hst := run_storeCells_cells (P := P) g o (Builtin.zeroCells z.cells n).toList 0 w (fun j hj => by
      obtain ⟨u, hu⟩ := hb.cell (o + j) (by omega)
      simp [hu]) (fun j _ => hb.free _) h1
  simp only [Nat.add_zero] at hst
  obtain ⟨m, rfl⟩ : ∃ m, n = m + 1 := ⟨n - 1, by omega⟩
  simp [Builtin.clear_, run_underlying ht, hv, hst]

set_option maxHeartbeats 1000000 in
theorem victClo_c (x : Wt) (v : Int) (g : Nat) (w : World) (hc : w.cell? ⟨g, 0, none⟩ = some (.int .i64 v)) :
    Calls Try.prog 77 #[.agg #[.int .i64 x.who, .int .i64 x.wfor], .pointer (some ⟨g, 0, none⟩)] w fun e w' => e = .returned (.bool (!(keepW v x))) ∧ Below w.heap.size w w' := by
  have hg := cell_lt hc
  have hne : w.heap.size ≠ g := by omega
  by_cases h1 : (x.who == v) = true
  · have F := Lib.hid (show (!(keepW v x)) = true by simp [keepW, h1])
    go_enter Try.func77, Try.ntmps77
    go_wp2_with fail
    go_ret
    exact ⟨ret_bool F.out.symm, (Below.refl _ _).alloc (Nat.le_refl _) _⟩
  · rw [Bool.not_eq_true] at h1
    by_cases h2 : (x.wfor == v) = true
    · have F := Lib.hid (show (!(keepW v x)) = true by simp [keepW, h2])
      go_enter Try.func77, Try.ntmps77
      go_wp2_with fail
      go_ret
      exact ⟨ret_bool F.out.symm, (Below.refl _ _).alloc (Nat.le_refl _) _⟩
    · rw [Bool.not_eq_true] at h2
      have F := Lib.hid (show (!(keepW v x)) = false by simp [keepW, h1, h2])
      go_enter Try.func77, Try.ntmps77
      go_wp2_with fail
      go_ret
      exact ⟨ret_bool F.out.symm, (Below.refl _ _).alloc (Nat.le_refl _) _⟩
set_option maxHeartbeats 1000000 in
theorem idxFW_c (A : Option Addr) (c : Nat) (l : List Wt) (v : Int) (g : Nat) (w : World) (h : Rd wtE w w.heap.size A l) (hl : l.length ≤ 1048576) (hc : w.cell? ⟨g, 0, none⟩ = some (.int .i64 v)) :
    Calls Try.prog 82 #[.slice A l.length c, .func (.func 77) #[] #[.pointer (some ⟨g, 0, none⟩)]] w fun e w' => e = .returned (.int .i64 (idxP (fun x => !(keepW v x)) l)) ∧ Below w.heap.size w w' := by
  have H := Lib.hid h
  have C := Lib.hid (And.intro hc (cell_lt hc))
  clear h hc
  go_enter Try.func82, Try.ntmps82
  go_wp2_with fail
  go_loopw [8] (fun i wr => ∃ k : Nat, k ≤ l.length ∧ i = .int .i64 k ∧ Hid ((l.take k).any (fun x => !(keepW v x)) = false) ∧ Below w.heap.size w wr) (fun i _ => l.length - (intOf i).toNat)
  case atStart => exact ⟨0, by omega, rfl, Lib.hid rfl, Below.refl _ _⟩
  case round =>
    obtain ⟨k, hk, rfl, hno, hbel⟩ := hrel
    by_cases hlt : k < l.length
    · obtain ⟨b, o, rfl, hb, c0, c1⟩ := (H.out.below hbel (Nat.le_refl _)).wt hlt
      have R := Lib.hid hbel
      clear hbel
      by_cases hx : (!(keepW v l[k])) = true
      · have F := Lib.hid (idxP_at hlt hx hno.out)
        have HX := Lib.hid hx
        clear hx
        go_wp2_with fail
        refine (victClo_c l[k] v g _ ((R.out.cell (p := ⟨g, 0, none⟩) C.out.2).trans C.out.1)).mono ?_
        rintro e w1 ⟨rfl, hb1⟩
        have R1 := Lib.hid (R.out.trans (hb1.mono R.out.size))
        clear hb1
        rw [HX.out]
        go_wp2_with fail
        go_ret
        exact ⟨ret_int F.out.symm, R1.out⟩
      · rw [Bool.not_eq_true] at hx
        have HX := Lib.hid hx
        clear hx
        go_wp2_with fail
        refine (victClo_c l[k] v g _ ((R.out.cell (p := ⟨g, 0, none⟩) C.out.2).trans C.out.1)).mono ?_
        rintro e w1 ⟨rfl, hb1⟩
        have R1 := Lib.hid (R.out.trans (hb1.mono R.out.size))
        clear hb1
        rw [HX.out]
        go_wp2_with fail
        go_roundw
        case rel => exact ⟨k + 1, by omega, by go_num, Lib.hid (any_snoc hlt hno.out HX.out), R1.out⟩
        case measure => simp [intOf]; omega
    · have F := Lib.hid (idxP_no (any_done (by omega) hno.out))
      have R := Lib.hid hbel
      clear hbel
      go_wp2_with fail
      go_ret
      exact ⟨ret_int F.out.symm, R.out⟩
end Go.Proofs.Ytbbnibjnjmmmnaa
