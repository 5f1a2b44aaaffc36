/-
  Do all go along the rule of the path: the contracts; plain facts for what may be taken next.
-/
import Derived.Test.YtfgcjdhcnalmmaaDoorAl1
import Derived.Test.YtfgcjdhcnalmmaaDoorAl2
namespace Go.Proofs.YtfgcjdhcnalmmaaDoor
open Go.RowKit

noncomputable def goesF (t : List Nd) (r : List Stp) : Bool := (treeOk t && stpOk r) && (List.range 4).all fun i => decide (alongL t r (i : Int) < 0)
theorem goes_no {t : List Nd} {r : List Stp} {k : Nat} (hk : k < 4) (h : 0 ≤ alongL t r (k : Int)) : goesF t r = false := by
  unfold goesF
  have : (List.range 4).all (fun i => decide (alongL t r (i : Int) < 0)) = false := by
    rw [List.all_eq_false]
    exact ⟨k, List.mem_range.2 hk, by simp; omega⟩
  rw [this, Bool.and_false]
theorem goes_yes {t : List Nd} {r : List Stp} (h1 : treeOk t = true) (h2 : stpOk r = true) (h : ∀ i : Nat, i < 4 → alongL t r (i : Int) < 0) : goesF t r = true := by
  unfold goesF
  rw [h1, h2]
  simp only [Bool.and_self, Bool.true_and, List.all_eq_true, decide_eq_true_eq, List.mem_range]
  exact h

def asE (r : List Stp) (who : Int) (k : Nat) : AS := (r.take k).foldl (asNext who) AS0
theorem asE_step {r : List Stp} {who : Int} {k : Nat} (hk : k < r.length) : asE r who (k + 1) = asNext who (asE r who k) r[k] := by
  rw [asE, asE, List.take_succ_eq_append_getElem hk, List.foldl_append]; rfl
theorem asE_inv {r : List Stp} (h : stpOk r = true) (who : Int) : ∀ (k : Nat), k ≤ r.length → ∀ m, runN doI [] (r.take k) = some m → ASInv who (asE r who k) m
  | 0, _, m, hm => by
    have : m = [] := by simpa [runN] using hm.symm
    subst this
    exact ASInv.start who
  | k + 1, hk, m, hm => by
    obtain ⟨m0, hm0⟩ := run_take_some h k
    have D := runN_take hk hm0
    rw [hm] at D
    rw [asE_step hk]
    exact (asE_inv h who k (by omega) m0 hm0).next ((step_same (run_keeps Tab0.nil hm0).1 (stp_at h hk)).trans D.symm)
theorem asE_had (r : List Stp) (who : Int) : ∀ k, k ≤ r.length → (asE r who k).had.length ≤ k
  | 0, _ => by simp [asE, AS0]
  | k + 1, hk => by
    rw [asE_step hk]
    have := (as_len who (asE r who k) r[k]).2
    have := asE_had r who k (by omega)
    omega
theorem along_neg {t : List Nd} {who : Int} : ∀ {r : List Stp} {s : AS} {k : Nat}, alongS t who s r k < 0 → alongS t who s r k = -1
  | [], _, _, _ => rfl
  | x :: r, s, k, h => by
    rw [alongS] at h ⊢
    split at h
    · omega
    · rename_i hc
      rw [if_neg hc]
      exact along_neg h
def nextS (who : Int) (n : Nat) : Stp := ⟨who, false, (n : Int), 5⟩
def nextP (t : List Nd) (r : List Stp) (m : List Lk) (who : Int) (n : Nat) : Bool := decide (alongL t (r ++ [nextS who n]) who < 0) && (((blkL m who n 5).length : Int) == 0)
noncomputable def nextF (t : List Nd) (r : List Stp) (who : Int) : List Int := if ((treeOk t && stpOk r) && inR who 0 3) && decide (alongL t r who < 0) then markU (nextP t r (oR (tabF r)) who) t.length else []
theorem nextF_len (t : List Nd) (r : List Stp) (who : Int) : (nextF t r who).length ≤ 12 := by
  unfold nextF
  split
  · rename_i h
    simp only [Bool.and_eq_true] at h
    have h1 := markU_len (nextP t r (oR (tabF r)) who) t.length
    have h2 : t.length ≤ 12 := by
      rcases Nat.lt_or_ge 12 t.length with h3 | h3
      · rw [treeOk_long (.inr h3)] at h; simp at h
      · exact h3
    omega
  · simp
theorem tree12 {t : List Nd} (h : treeOk t = true) : t.length ≤ 12 := by
  rcases Nat.lt_or_ge 12 t.length with h3 | h3
  · rw [treeOk_long (.inr h3)] at h; simp at h
  · exact h3
/-- may the node be taken next: the reference's walk with one more step, and the program's test -/
theorem next_go {t : List Nd} {r : List Stp} {who : Int} {m : List Lk} (h : stpOk r = true) (h2 : alongL t r who < 0) (hm : runN doI [] r = some m) (n : Nat) : decide (alongL t (r ++ [nextS who n]) who < 0) = goB t m (asE r who r.length).had who n := by
  have h3 : alongS t who AS0 r 0 = -1 := along_neg h2
  have h4 := along_snoc (x := nextS who n) h3
  have h5 : runN doI [] (r.take r.length) = some m := by rw [List.take_length]; exact hm
  have h6 := bad_go (asE_inv h who r.length (Nat.le_refl _) m h5) t (x := nextS who n) (j := n) rfl
  have h7 : r.foldl (asNext who) AS0 = asE r who r.length := by rw [asE, List.take_length]
  rw [alongL, h4, h7, h6]
  have h8 : takes who (nextS who n) = true := by simp [takes, nextS]
  rw [h8]
  cases goB t m (asE r who r.length).had who n
  · simp [nextS]
  · simp [nextS]
theorem tab_some {r : List Stp} (h : stpOk r = true) : ∃ m, tabF r = some m ∧ runN doS [] r = some m ∧ runN doI [] r = some m ∧ Tab0 m ∧ m.length ≤ 16 := by
  have h1 := tabF_spec h
  cases e : tabF r with
  | none => rw [stpOk, e] at h; cases h
  | some m =>
    have h2 := tabF_len e
    refine ⟨m, rfl, by rw [← h1.1, e], ?_, h2.1, h2.2⟩
    rw [tabF, if_pos h1.2.1] at e
    exact e
theorem joinI_five {m : Int} (h : modeB m = true) : joinI m 5 = 5 := by rcases modeB_cases h with rfl | rfl | rfl | rfl | rfl | rfl <;> rfl
theorem blkF_five {m : List Lk} (h : Tab0 m) (hl : m.length ≤ 16) {who : Int} (hw : inR who 0 3 = true) {n : Nat} (hn : n ≤ 11) : blkF m who n 5 = blkL m who n 5 := by
  have h1 : tabOk m = true := h.tab (by omega)
  have h2 : askOk who n 5 = true := by
    simp [inR] at hw
    exact askOk_iff.2 ⟨by omega, by omega, by omega, by omega⟩
  rw [blkF, h1, h2, joinI_five (heldL_mode h.ok who n)]; rfl

set_option maxRecDepth 100000 in
set_option maxHeartbeats 2000000 in
theorem spec_GoesAlong_c (A : Option Addr) (c : Nat) (t : List Nd) (A2 : Option Addr) (c2 : Nat) (r : List Stp) (w : World) (h : Rd ndE w w.heap.size A t) (h2 : Rd stpE w w.heap.size A2 r) (hl : t.length ≤ 1048576) (hl2 : r.length ≤ 1048576) (hc : t.length ≤ c) :
    Calls Tryd.prog 31 #[.slice A t.length c, .slice A2 r.length c2] w fun e w' => e = .returned (.bool (goesF t r)) ∧ Below w.heap.size w w' := by
  have H := Lib.hid h
  have H2 := Lib.hid h2
  clear h h2
  cases h1 : treeOk t
  · have F := Lib.hid (show goesF t r = false by rw [goesF, h1]; rfl)
    have HT := Lib.hid h1
    clear h1
    go_enter Tryd.func31, Tryd.ntmps31
    go_wp2_with fail
    refine (validTree_c A c t _ _ H.out (by omega) hc).mono ?_
    rintro e w1 ⟨rfl, hd⟩
    have B1 := Lib.hid (hd.below w.heap.size)
    clear hd
    rw [HT.out]
    go_wp2_with fail
    go_ret
    exact ⟨ret_bool F.out.symm, B1.out⟩
  cases h3 : stpOk r
  · have F := Lib.hid (show goesF t r = false by rw [goesF, h1, h3]; rfl)
    have HT := Lib.hid h1
    have HT2 := Lib.hid h3
    clear h1 h3
    go_enter Tryd.func31, Tryd.ntmps31
    go_wp2_with fail
    refine (validTree_c A c t _ _ H.out (by omega) hc).mono ?_
    rintro e w1 ⟨rfl, hd⟩
    have B1 := Lib.hid (hd.below w.heap.size)
    clear hd
    rw [HT.out]
    go_wp2_with fail
    refine (validSteps_c A2 c2 r _ (H2.out.grow B1.out) hl2).mono ?_
    rintro e w2 ⟨rfl, hb⟩
    have B2 := Lib.hid (B1.out.trans (hb.mono B1.out.size))
    clear hb
    rw [HT2.out]
    go_wp2_with fail
    go_ret
    exact ⟨ret_bool F.out.symm, B2.out⟩
  have HT := Lib.hid h1
  have HT2 := Lib.hid h3
  have hr := (tabF_spec h3).2.1
  clear h1 h3
  go_enter Tryd.func31, Tryd.ntmps31
  go_wp2_with fail
  refine (validTree_c A c t _ _ H.out (by omega) hc).mono ?_
  rintro e w1 ⟨rfl, hd⟩
  have B1 := Lib.hid (hd.below w.heap.size)
  clear hd
  rw [HT.out]
  go_wp2_with fail
  refine (validSteps_c A2 c2 r _ (H2.out.grow B1.out) hl2).mono ?_
  rintro e w2 ⟨rfl, hb⟩
  have B2 := Lib.hid (B1.out.trans (hb.mono B1.out.size))
  clear hb
  rw [HT2.out]
  go_wp2_with fail
  go_loopw [5] (fun i wr => ∃ k : Nat, i = .int .i64 k ∧ k ≤ 4 ∧ Hid (∀ i, i < k → alongL t r (i : Int) < 0) ∧ Below w.heap.size w wr) (fun i _ => 4 - (intOf i).toNat)
  case atStart => exact ⟨0, rfl, by omega, Lib.hid (fun _ h => absurd h (by omega)), B2.out⟩
  case round =>
    obtain ⟨k, rfl, hk, hno, hbel⟩ := hrel
    have R := Lib.hid hbel
    clear hbel
    by_cases hlt : k < 4
    · obtain ⟨z, hz⟩ : ∃ z, alongL t r (k : Int) = z := ⟨_, rfl⟩
      have Z := Lib.hid hz
      have ZF := Lib.hid (show alongF t r k = z by rw [alongF, HT.out, HT2.out, ← hz]; rfl)
      clear hz
      go_wp2_with fail
      refine (alongFault_c A c t A2 c2 r k _ (H.out.grow R.out) (H2.out.grow R.out) (by omega) (by omega) (fun k hk => step_node (stp_at HT2.out hk))).mono ?_
      rintro e w3 ⟨rfl, hb⟩
      have B3 := Lib.hid (R.out.trans (hb.mono R.out.size))
      clear hb
      rw [Z.out]
      by_cases h0 : 0 ≤ z
      · have F := Lib.hid (goes_no (t := t) (r := r) hlt (by rw [Z.out]; exact h0))
        go_wp2_with fail
        go_ret
        exact ⟨ret_bool F.out.symm, B3.out⟩
      · have F := Lib.hid (show ∀ i, i < k + 1 → alongL t r (i : Int) < 0 by
          intro i hi
          by_cases e : i = k
          · subst e; rw [Z.out]; omega
          · exact hno.out i (by omega))
        go_wp2_with fail
        go_roundw
        case rel => exact ⟨k + 1, by go_num, by omega, F, B3.out⟩
        case measure => simp [intOf]; omega
    · obtain rfl : k = 4 := by omega
      have F := Lib.hid (goes_yes HT.out HT2.out hno.out)
      go_wp2_with fail
      go_ret
      exact ⟨ret_bool F.out.symm, R.out⟩

set_option maxRecDepth 100000 in
set_option maxHeartbeats 2000000 in
theorem impl_GoesAlong_c (A : Option Addr) (c : Nat) (t : List Nd) (A2 : Option Addr) (c2 : Nat) (r : List Stp) (w : World) (h : Rd ndE w w.heap.size A t) (h2 : Rd stpE w w.heap.size A2 r) (hl : t.length ≤ 1048576) (hl2 : r.length ≤ 1048576) (hc : t.length ≤ c) (ht : TTab w) (hj : JTab w) :
    Calls Tryd.prog 32 #[.slice A t.length c, .slice A2 r.length c2] w fun e w' => e = .returned (.bool (goesF t r)) ∧ Below w.heap.size w w' := by
  have H := Lib.hid h
  have H2 := Lib.hid h2
  clear h h2
  have T := Lib.hid (And.intro ht hj)
  clear ht hj
  cases h1 : treeOk t
  · have F := Lib.hid (show goesF t r = false by rw [goesF, h1]; rfl)
    have HT := Lib.hid h1
    clear h1
    go_enter Tryd.func32, Tryd.ntmps32
    go_wp2_with fail
    refine (impl_ValidTree_c A c t _ H.out (by omega) hc).mono ?_
    rintro e w1 ⟨rfl, hb⟩
    have B1 := Lib.hid hb
    clear hb
    rw [HT.out]
    go_wp2_with fail
    go_ret
    exact ⟨ret_bool F.out.symm, B1.out⟩
  cases h3 : stpOk r
  · have F := Lib.hid (show goesF t r = false by rw [goesF, h1, h3]; rfl)
    have HT := Lib.hid h1
    have HT2 := Lib.hid h3
    clear h1 h3
    go_enter Tryd.func32, Tryd.ntmps32
    go_wp2_with fail
    refine (impl_ValidTree_c A c t _ H.out (by omega) hc).mono ?_
    rintro e w1 ⟨rfl, hb⟩
    have B1 := Lib.hid hb
    clear hb
    rw [HT.out]
    go_wp2_with fail
    refine (impl_ValidSteps_c A2 c2 r _ (H2.out.grow B1.out) hl2 (T.out.1.below B1.out) (T.out.2.below B1.out)).mono ?_
    rintro e w2 ⟨rfl, hb⟩
    have B2 := Lib.hid (B1.out.trans (hb.mono B1.out.size))
    clear hb
    rw [HT2.out]
    go_wp2_with fail
    go_ret
    exact ⟨ret_bool F.out.symm, B2.out⟩
  have HT := Lib.hid h1
  have HT2 := Lib.hid h3
  have hr := (tabF_spec h3).2.1
  clear h1 h3
  go_enter Tryd.func32, Tryd.ntmps32
  go_wp2_with fail
  refine (impl_ValidTree_c A c t _ H.out (by omega) hc).mono ?_
  rintro e w1 ⟨rfl, hb⟩
  have B1 := Lib.hid hb
  clear hb
  rw [HT.out]
  go_wp2_with fail
  refine (impl_ValidSteps_c A2 c2 r _ (H2.out.grow B1.out) hl2 (T.out.1.below B1.out) (T.out.2.below B1.out)).mono ?_
  rintro e w2 ⟨rfl, hb⟩
  have B2 := Lib.hid (B1.out.trans (hb.mono B1.out.size))
  clear hb
  rw [HT2.out]
  go_wp2_with fail
  go_loopw [14] (fun i wr => ∃ k : Nat, i = .int .i64 k ∧ k ≤ 4 ∧ Hid (∀ i, i < k → alongL t r (i : Int) < 0) ∧ Below w.heap.size w wr) (fun i _ => 4 - (intOf i).toNat)
  case atStart => exact ⟨0, rfl, by omega, Lib.hid (fun _ h => absurd h (by omega)), B2.out⟩
  case round =>
    obtain ⟨k, rfl, hk, hno, hbel⟩ := hrel
    have R := Lib.hid hbel
    clear hbel
    by_cases hlt : k < 4
    · obtain ⟨z, hz⟩ : ∃ z, alongL t r (k : Int) = z := ⟨_, rfl⟩
      have Z := Lib.hid hz
      have ZF := Lib.hid (show alongF t r k = z by rw [alongF, HT.out, HT2.out, ← hz]; rfl)
      clear hz
      go_wp2_with fail
      refine (impl_AlongFault_c A c t A2 c2 r k _ (H.out.grow R.out) (H2.out.grow R.out) hl hl2 hc (T.out.1.below R.out) (T.out.2.below R.out)).mono ?_
      rintro e w3 ⟨rfl, hb⟩
      have B3 := Lib.hid (R.out.trans (hb.mono R.out.size))
      clear hb
      rw [ZF.out]
      by_cases h0 : 0 ≤ z
      · have F := Lib.hid (goes_no (t := t) (r := r) hlt (by rw [Z.out]; exact h0))
        go_wp2_with fail
        go_ret
        exact ⟨ret_bool F.out.symm, B3.out⟩
      · have F := Lib.hid (show ∀ i, i < k + 1 → alongL t r (i : Int) < 0 by
          intro i hi
          by_cases e : i = k
          · subst e; rw [Z.out]; omega
          · exact hno.out i (by omega))
        go_wp2_with fail
        go_roundw
        case rel => exact ⟨k + 1, by go_num, by omega, F, B3.out⟩
        case measure => simp [intOf]; omega
    · obtain rfl : k = 4 := by omega
      have F := Lib.hid (goes_yes HT.out HT2.out hno.out)
      go_wp2_with fail
      go_ret
      exact ⟨ret_bool F.out.symm, R.out⟩
end Go.Proofs.YtfgcjdhcnalmmaaDoor
