/-
  Deadlocks: the contracts of the reference's and the program's function; a number looked for in a list by the library.
-/
import Derived.Test.YtbbnibjnjmmmnaaPDead
import Derived.Test.YtbbnibjnjmmmnaaWt4
namespace Go.Proofs.Ytbbnibjnjmmmnaa
open Go.RowKit

noncomputable def deadP (wl : List Wt) (i : Nat) : Bool := hasI (waitsL wl (i : Int)) (i : Int)
def idxI (l : List Int) (x : Int) : Int := match l.findIdx? (· == x) with
  | some i => (i : Int)
  | none => -1
theorem idxI_has (l : List Int) (x : Int) : decide (0 ≤ idxI l x) = hasI l x := by
  unfold idxI hasI
  cases h : l.findIdx? (· == x) with
  | none =>
    rw [List.findIdx?_eq_none_iff] at h
    simp only [show ¬ (0 : Int) ≤ -1 by omega, decide_false]
    rw [eq_comm, List.any_eq_false]
    intro y hy; simpa using h y hy
  | some i =>
    rw [List.findIdx?_eq_some_iff_getElem] at h
    obtain ⟨hi, h1, _⟩ := h
    simp only [show (0 : Int) ≤ (i : Int) by omega, decide_true]
    rw [eq_comm, List.any_eq_true]
    exact ⟨l[i], List.getElem_mem hi, h1⟩
theorem idxI_at {l : List Int} {x : Int} {k : Nat} (hk : k < l.length) (h : (l[k] == x) = true) (h2 : (l.take k).any (· == x) = false) : idxI l x = (k : Int) := by
  have : l.findIdx? (· == x) = some k := by
    rw [List.findIdx?_eq_some_iff_getElem]
    refine ⟨hk, h, fun j hj => ?_⟩
    rw [List.any_eq_false] at h2
    have := h2 l[j] (by rw [List.mem_iff_getElem]; exact ⟨j, by simp; omega, by simp⟩)
    simpa using this
  simp [idxI, this]
theorem idxI_no {l : List Int} {x : Int} (h2 : l.any (· == x) = false) : idxI l x = -1 := by
  have : l.findIdx? (· == x) = none := by
    rw [List.findIdx?_eq_none_iff]
    rw [List.any_eq_false] at h2
    intro y hy; simpa using h2 y hy
  simp [idxI, this]

set_option maxHeartbeats 1000000 in
theorem index_c (A : Option Addr) (c : Nat) (l : List Int) (x : Int) (B : Nat) (w : World) (h : Rd inE w B A l) (hl : l.length ≤ 1048576) :
    Calls Try.prog 81 #[.slice A l.length c, .int .i64 x] w fun e w' => e = .returned (.int .i64 (idxI l x)) ∧ w = w' := by
  have H := Lib.hid h
  clear h
  go_enter Try.func81, Try.ntmps81
  go_wp2_with fail
  go_loop [8] (fun i => ∃ k : Nat, k ≤ l.length ∧ i = .int .i64 k ∧ Hid ((l.take k).any (· == x) = false)) (fun i => l.length - (intOf i).toNat)
  case atStart => exact ⟨0, by omega, rfl, Lib.hid rfl⟩
  case round =>
    obtain ⟨k, hk, rfl, hno⟩ := hrel
    by_cases hlt : k < l.length
    · obtain ⟨b, o, rfl, hb, c0⟩ := H.out.int hlt
      by_cases hx : (x == l[k]) = true
      · have hfin := Lib.hid (idxI_at hlt (by rw [BEq.comm]; exact hx) hno.out)
        go_wp2_with fail
        go_ret
        exact ⟨ret_int hfin.out.symm, rfl⟩
      · rw [Bool.not_eq_true] at hx
        go_wp2_with fail
        go_round
        case rel => exact ⟨k + 1, by omega, by go_num, Lib.hid (by rw [List.take_succ_eq_append_getElem hlt, List.any_append, hno.out]; rw [BEq.comm] at hx; simpa using hx)⟩
        case measure => simp [intOf]; omega
    · have hfin := Lib.hid (idxI_no (l := l) (x := x) (by have := hno.out; rwa [List.take_of_length_le (by omega)] at this))
      go_wp2_with fail
      go_ret
      exact ⟨ret_int hfin.out.symm, rfl⟩
set_option maxHeartbeats 1000000 in
theorem contains_c (A : Option Addr) (c : Nat) (l : List Int) (x : Int) (B : Nat) (w : World) (h : Rd inE w B A l) (hl : l.length ≤ 1048576) :
    Calls Try.prog 73 #[.slice A l.length c, .int .i64 x] w fun e w' => e = .returned (.bool (hasI l x)) ∧ w = w' := by
  have C := Lib.hid (index_c A c l x B w h hl)
  have F := Lib.hid (idxI_has l x)
  clear h
  go_enter Try.func73, Try.ntmps73
  go_wp2_with fail
  refine C.out.mono ?_
  rintro e w' ⟨rfl, rfl⟩
  go_wp2_with fail
  go_ret
  exact ⟨ret_bool F.out, rfl⟩

set_option maxRecDepth 100000 in
set_option maxHeartbeats 2000000 in
theorem spec_DeadlockOf_c (A : Option Addr) (c : Nat) (wl : List Wt) (w : World) (h : Rd wtE w w.heap.size A wl) (hl : wl.length ≤ 1048576) :
    Calls Try.prog 49 #[.slice A wl.length c] w fun e w' => ∃ v, e = .returned v ∧ Own inE 3 w' w.heap.size v (deadF wl) ∧ Below w.heap.size w w' := by
  have H := Lib.hid h
  clear h
  have N := Lib.hid (own_new (E := inE) (e := 3) w #[] [] w.heap.size (Nat.le_refl _) (by simp) rfl)
  have B0 := Lib.hid ((Below.refl w.heap.size w).alloc (Nat.le_refl _) (.cells #[] 3))
  by_cases hv : validWt wl = true
  · have F := Lib.hid (show deadF wl = markU (deadP wl) 4 by rw [deadF, if_pos hv]; rfl)
    have V := Lib.hid (validWt_iff.1 hv)
    go_enter Try.func49, Try.ntmps49
    go_wp2_with fail
    refine (spec_validWaits_c A c wl _ (H.out.grow B0.out) hl).mono ?_
    rintro e w1 ⟨rfl, hb⟩
    have B1 := Lib.hid (B0.out.trans (hb.mono B0.out.size))
    have O1 := Lib.hid (N.out.grow hb)
    clear hb
    go_wp2_with fail
    go_loopw [3, 4] (fun v i wr => ∃ t : Nat, t ≤ 4 ∧ i = .int .i64 t ∧ Own inE 3 wr w.heap.size v (markU (deadP wl) t) ∧ Below w.heap.size w wr) (fun _ i _ => 4 - (intOf i).toNat)
    case atStart => exact ⟨0, by omega, rfl, O1.out, B1.out⟩
    case round =>
      obtain ⟨t, ht, rfl, ho, hbel⟩ := hrel
      obtain ⟨Ao, co, rfl, _, _, _⟩ := ho.form
      have R := Lib.hid (And.intro ho hbel)
      clear ho hbel
      by_cases hlt : t < 4
      · go_wp2_with fail
        refine (spec_reached_c A c wl (t : Int) _ (H.out.grow R.out.2) V.out.2 V.out.1).mono ?_
        rintro e w2 ⟨v2, rfl, ho2, hb2⟩
        obtain ⟨A2, c2, rfl, _, _, hr2⟩ := ho2.form
        have Q := Lib.hid hr2
        have Z := Lib.hid (And.intro (R.out.1.grow hb2) (R.out.2.trans (hb2.mono R.out.2.size)))
        clear ho2 hb2 hr2
        have hwl : (waitsL wl (t : Int)).length ≤ 4 := markU_len _ 4
        by_cases hh : hasI (waitsL wl (t : Int)) (t : Int) = true
        · go_wp2_with fail
          refine (isIn_c _ _ _ _ _ _ Q.out (by omega)).mono ?_
          rintro e w' ⟨rfl, rfl⟩
          go_wp2_with (at_builtin; refine wpList_ap1 slIn rfl (.tmp 18) (.tmp 20) rfl _ _ (t : Int) rfl w w.heap.size _ (markU (deadP wl) t) rfl Z.out.1 rfl (by have := markU_len (deadP wl) t; omega) Z.out.2 (Nat.le_refl _) ?_; intro v1 w3 ho1 hb1 hg1 hat1; have Y := Lib.hid (And.intro ho1 hb1); clear ho1 hb1 hg1 hat1)
          go_roundw
          case rel => exact ⟨t + 1, by omega, by go_num, by rw [markU, if_pos (show deadP wl t = true from hh)]; exact Y.out.1, Y.out.2⟩
          case measure => simp [intOf]; omega
        · rw [Bool.not_eq_true] at hh
          go_wp2_with fail
          refine (isIn_c _ _ _ _ _ _ Q.out (by omega)).mono ?_
          rintro e w' ⟨rfl, rfl⟩
          go_wp2_with fail
          go_roundw
          case rel => exact ⟨t + 1, by omega, by go_num, by rw [markU, show deadP wl t = false from hh]; simpa using Z.out.1, Z.out.2⟩
          case measure => simp [intOf]; omega
      · obtain rfl : t = 4 := by omega
        go_wp2_with fail
        go_ret
        exact ⟨_, rfl, by rw [F.out]; exact R.out.1, R.out.2⟩
  · rw [Bool.not_eq_true] at hv
    have F := Lib.hid (show deadF wl = [] by rw [deadF, hv]; rfl)
    go_enter Try.func49, Try.ntmps49
    go_wp2_with fail
    refine (spec_validWaits_c A c wl _ (H.out.grow B0.out) hl).mono ?_
    rintro e w1 ⟨rfl, hb⟩
    have B1 := Lib.hid (B0.out.trans (hb.mono B0.out.size))
    clear hb
    go_wp2_with fail
    go_ret
    exact ⟨_, rfl, by rw [F.out]; exact Own.nil, B1.out⟩
/-- The marks below k as cells. -/
noncomputable def deadC (p : Nat → Bool) (k : Nat) : Array Value := #[.bool (decide (0 < k) && p 0), .bool (decide (1 < k) && p 1), .bool (decide (2 < k) && p 2), .bool (decide (3 < k) && p 3)]
theorem deadC_set (p : Nat → Bool) (k : Nat) (h : k < 4) : (deadC p k).setIfInBounds k (.bool (p k)) = deadC p (k + 1) := by
  rcases (by omega : k = 0 ∨ k = 1 ∨ k = 2 ∨ k = 3) with rfl | rfl | rfl | rfl <;> simp [deadC]
theorem deadC_all (p : Nat → Bool) : deadC p 4 = #[.bool (p 0), .bool (p 1), .bool (p 2), .bool (p 3)] := by simp [deadC]
theorem pick_of (p : Nat → Bool) {k : Nat} (h : k < 4) : pick4 (p 0) (p 1) (p 2) (p 3) k = p k := by
  rcases (by omega : k = 0 ∨ k = 1 ∨ k = 2 ∨ k = 3) with rfl | rfl | rfl | rfl <;> rfl
noncomputable def deadQ (wl : List Wt) (i : Nat) : Bool := hasI (waitsF wl (i : Int)) (i : Int)
theorem deadQ_all (wl : List Wt) : markU (pick4 (deadQ wl 0) (deadQ wl 1) (deadQ wl 2) (deadQ wl 3)) 4 = deadF wl := by
  rw [markU_congr (q := deadQ wl) fun k hk => pick_of (deadQ wl) hk]
  unfold deadF
  split
  · rename_i hv
    refine markU_congr fun k _ => ?_
    unfold deadQ waitsF; rw [if_pos hv]
  · rename_i hv
    refine markU_none fun k _ => ?_
    unfold deadQ waitsF; rw [if_neg hv]; rfl
set_option maxRecDepth 100000 in
set_option maxHeartbeats 2000000 in
theorem impl_DeadlockOf_c (A : Option Addr) (c : Nat) (wl : List Wt) (w : World) (h : Rd wtE w w.heap.size A wl) (hl : wl.length ≤ 1048576) :
    Calls Try.prog 50 #[.slice A wl.length c] w fun e w' => ∃ v, e = .returned v ∧ Own inE 3 w' w.heap.size v (deadF wl) ∧ Below w.heap.size w w' := by
  have H := Lib.hid h
  have F := Lib.hid (deadQ_all wl)
  clear h
  go_enter Try.func50, Try.ntmps50
  go_wp2_with fail
  go_loopw [5] (fun i wr => ∃ t : Nat, t ≤ 4 ∧ i = .int .i64 t ∧ Blk wr w.heap.size 79 (deadC (deadQ wl) t) ∧ Below w.heap.size w wr) (fun i _ => 4 - (intOf i).toNat)
  case atStart => exact ⟨0, by omega, rfl, Blk.new w _ _, (Below.refl _ _).alloc (Nat.le_refl _) _⟩
  case round =>
    obtain ⟨t, ht, rfl, hblk, hbel⟩ := hrel
    by_cases hlt : t < 4
    · have R := Lib.hid (And.intro hblk hbel)
      clear hblk hbel
      go_wp2_with fail
      refine (impl_WaitsFor_c A c wl (t : Int) _ (H.out.grow R.out.2) hl).mono ?_
      rintro e w2 ⟨v2, rfl, ho2, hb2⟩
      obtain ⟨A2, c2, rfl, _, _, hr2⟩ := ho2.form
      have Q := Lib.hid hr2
      have hblk2 := R.out.1.grow hb2
      have Z := Lib.hid (And.intro hblk2 (R.out.2.trans (hb2.mono R.out.2.size)))
      have hwl : (waitsF wl (t : Int)).length ≤ 4 := by
        unfold waitsF; split
        · exact markU_len _ 4
        · simp
      obtain ⟨u0, d0⟩ := hblk2.cell t (by simp [deadC]; omega)
      have f0 := hblk2.free t
      clear ho2 hb2 hr2 hblk2
      go_wp2_with fail
      refine (contains_c _ _ _ _ _ _ Q.out (by omega)).mono ?_
      rintro e w' ⟨rfl, rfl⟩
      go_wp2_with fail
      go_roundw
      case rel => exact ⟨t + 1, by omega, by go_num, by rw [← deadC_set _ _ hlt]; exact Z.out.1.set t _, Z.out.2.setCell (Nat.le_refl _) _⟩
      case measure => simp [intOf]; omega
    · obtain rfl : t = 4 := by omega
      rw [deadC_all] at hblk
      have d0 : wr.cell? ⟨w.heap.size, 0, none⟩ = some (.bool (deadQ wl 0)) := cell_of_row _ _ _ _ _ _ hblk
      have d1 : wr.cell? ⟨w.heap.size, 1, none⟩ = some (.bool (deadQ wl 1)) := cell_of_row _ _ _ _ _ _ hblk
      have d2 : wr.cell? ⟨w.heap.size, 2, none⟩ = some (.bool (deadQ wl 2)) := cell_of_row _ _ _ _ _ _ hblk
      have d3 : wr.cell? ⟨w.heap.size, 3, none⟩ = some (.bool (deadQ wl 3)) := cell_of_row _ _ _ _ _ _ hblk
      have R := Lib.hid hbel
      clear hblk hbel
      go_wp2_with fail
      refine (marked_c _ _ _ _ _).mono ?_
      rintro e w2 ⟨v, rfl, ho, hb⟩
      have Z := Lib.hid (And.intro ho hb)
      clear ho hb
      go_wp2_with fail
      go_ret
      exact ⟨v, rfl, by rw [← F.out]; exact Z.out.1.base R.out.size, R.out.trans (Z.out.2.mono R.out.size)⟩
end Go.Proofs.Ytbbnibjnjmmmnaa
