/-
  Schedules: the contracts of the program's step and of its TableAfter and ValidSteps.
-/
import Derived.Test.YtfgcjdhcnalmmaaDoorTake
import Derived.Test.YtfgcjdhcnalmmaaDoorDelL
import Derived.Test.YtfgcjdhcnalmmaaDoorPStp
namespace Go.Proofs.YtfgcjdhcnalmmaaDoor
open Go.RowKit

noncomputable def oR (o : Option (List Lk)) : List Lk := o.getD []
theorem oR_none : oR none = [] := rfl
theorem oR_some (m : List Lk) : oR (some m) = m := rfl
theorem doI_take {l : List Lk} {s : Stp} (h : s.free = false) : doI l s = takeF l s.who s.node s.mode := by rw [doI, h]; rfl
theorem doI_mode {l : List Lk} {s : Stp} (h : s.free = true) (h2 : (s.mode == 0) = false) : doI l s = none := by rw [doI, if_pos h, if_neg (by rw [h2]; simp)]
theorem doI_none {l : List Lk} {s : Stp} (h : s.free = true) (h3 : ∀ k (hk : k < l.length), isL s.who s.node l[k] = false) : doI l s = none := by
  have e : l.findIdx? (isL s.who s.node) = none := by
    rw [List.findIdx?_eq_none_iff]
    intro x hx
    obtain ⟨k, hk, rfl⟩ := List.mem_iff_getElem.1 hx
    exact h3 k hk
  rw [doI, if_pos h, e]; split <;> rfl
theorem doI_some {l : List Lk} {s : Stp} {i : Nat} (h : s.free = true) (h2 : (s.mode == 0) = true) (hi : i < l.length) (h3 : isL s.who s.node l[i] = true) (h4 : ∀ k (hk : k < i), isL s.who s.node (l[k]'(by omega)) = false) : doI l s = some (l.eraseIdx i) := by
  have e : l.findIdx? (isL s.who s.node) = some i := by
    rw [List.findIdx?_eq_some_iff_getElem]
    exact ⟨hi, h3, fun j hj => by simp [h4 j hj]⟩
  rw [doI, if_pos h, if_pos h2, e]

set_option maxRecDepth 100000 in
set_option maxHeartbeats 4000000 in
theorem doStep_c (A : Option Addr) (c : Nat) (l : List Lk) (s : Stp) (w : World) (h : Rd lkE w w.heap.size A l) (hl : l.length ≤ 1048576) (hc : l.length ≤ c) (ht : TTab w) (hj : JTab w) :
    Calls Tryd.prog 67 #[.slice A l.length c, .agg #[.int .i64 s.who, .bool s.free, .int .i64 s.node, .int .i64 s.mode]] w fun e w' => ∃ v, e = .returned (.tuple #[v, .bool (doI l s).isSome]) ∧ Own lkE 57 w' w.heap.size v (oR (doI l s)) ∧ Below w.heap.size w w' := by
  have H := Lib.hid h
  have T := Lib.hid (And.intro ht hj)
  have B0 := Lib.hid ((Below.refl w.heap.size w).alloc (Nat.le_refl _) (.cells #[.int .i64 s.who, .bool s.free, .int .i64 s.node, .int .i64 s.mode] 78))
  clear h ht hj
  by_cases hf : s.free = true
  · by_cases hm : (s.mode == 0) = true
    · have hm' : (s.mode != 0) = false := by rw [bne, hm]; rfl
      rcases lockI_cases l s.who s.node with ⟨h1, _, h3⟩ | ⟨i, hi, h1, _, h3, h4⟩
      · have F := Lib.hid (And.intro h1 (doI_none hf h3))
        have B1 : Below w.heap.size w (w.alloc (.cells #[.int .i64 s.who, .bool true, .int .i64 s.node, .int .i64 s.mode] 78)) := (Below.refl w.heap.size w).alloc (Nat.le_refl _) _
        have BB := Lib.hid B1
        clear h1 h3 B1
        go_enter Tryd.func67, Tryd.ntmps67
        go_wp2_with fail
        refine (lockAt_c A c l s.who s.node _ (H.out.grow BB.out) hl).mono ?_
        rintro e w1 ⟨rfl, hb⟩
        have R := Lib.hid (BB.out.trans (hb.mono BB.out.size))
        clear hb
        rw [F.out.1]
        go_wp2_with fail
        go_ret2
        rw [F.out.2]
        exact ⟨_, rfl, Own.nil, R.out⟩
      · have F := Lib.hid (And.intro h1 (doI_some hf hm hi h3 h4))
        have B1 : Below w.heap.size w (w.alloc (.cells #[.int .i64 s.who, .bool true, .int .i64 s.node, .int .i64 s.mode] 78)) := (Below.refl w.heap.size w).alloc (Nat.le_refl _) _
        have BB := Lib.hid B1
        clear h1 h3 h4 B1
        go_enter Tryd.func67, Tryd.ntmps67
        go_wp2_with fail
        refine (lockAt_c A c l s.who s.node _ (H.out.grow BB.out) hl).mono ?_
        rintro e w1 ⟨rfl, hb⟩
        have R := Lib.hid (BB.out.trans (hb.mono BB.out.size))
        clear hb
        rw [F.out.1]
        go_wp2_with fail
        refine (cloneLk_c A c l _ (H.out.grow R.out) hl).mono ?_
        rintro e w2 ⟨v2, rfl, ho, hb⟩
        have S := Lib.hid (And.intro (ho.base R.out.size) (R.out.trans (hb.mono R.out.size)))
        clear ho hb
        go_wp2_with fail
        refine (delLk_c v2 l i w.heap.size _ S.out.1 hi hl).mono ?_
        rintro e w3 ⟨v3, rfl, ho, _, hg⟩
        have Z := Lib.hid (And.intro ho (below_own S.out.2 S.out.1 hg S.out.2.size))
        clear ho hg
        go_wp2_with fail
        go_ret2
        rw [F.out.2]
        exact ⟨_, rfl, Z.out.1, Z.out.2⟩
    · rw [Bool.not_eq_true] at hm
      have hm' : (s.mode != 0) = true := by rw [bne, hm]; rfl
      have F := Lib.hid (doI_mode (l := l) hf hm)
      go_enter Tryd.func67, Tryd.ntmps67
      go_wp2_with fail
      go_ret2
      rw [F.out]
      exact ⟨_, rfl, Own.nil, (Below.refl w.heap.size w).alloc (Nat.le_refl _) _⟩
  · rw [Bool.not_eq_true] at hf
    have F := Lib.hid (doI_take (l := l) hf)
    have B1 : Below w.heap.size w (w.alloc (.cells #[.int .i64 s.who, .bool false, .int .i64 s.node, .int .i64 s.mode] 78)) := (Below.refl w.heap.size w).alloc (Nat.le_refl _) _
    have BB := Lib.hid B1
    clear B1
    go_enter Tryd.func67, Tryd.ntmps67
    go_wp2_with fail
    refine (impl_TakeLock_c A c l s.who s.node s.mode _ (H.out.grow BB.out) hl hc (T.out.1.below BB.out) (T.out.2.below BB.out)).mono ?_
    rintro e w1 ⟨v, rfl, ho, hb⟩
    have R := Lib.hid (And.intro (ho.base BB.out.size) (BB.out.trans (hb.mono BB.out.size)))
    clear ho hb
    go_wp2_with fail
    go_ret2
    rw [F.out]
    exact ⟨v, rfl, R.out.1, R.out.2⟩
theorem runI_len : ∀ {r : List Stp} {l m : List Lk}, Tab0 l → runN doI l r = some m → m.length ≤ l.length + r.length := fun h e => (run_keeps h e).2
set_option maxRecDepth 100000 in
set_option maxHeartbeats 4000000 in
theorem impl_TableAfter_c (A : Option Addr) (c : Nat) (r : List Stp) (w : World) (h : Rd stpE w w.heap.size A r) (hl : r.length ≤ 1048576) (ht : TTab w) (hj : JTab w) :
    Calls Tryd.prog 71 #[.slice A r.length c] w fun e w' => ∃ v, e = .returned (.tuple #[v, .bool (tabF r).isSome]) ∧ Own lkE 57 w' w.heap.size v (oR (tabF r)) ∧ Below w.heap.size w w' := by
  have H := Lib.hid h
  have T := Lib.hid (And.intro ht hj)
  clear h ht hj
  by_cases hlong : 16 < r.length
  · have F := Lib.hid (show tabF r = none by rw [tabF, if_neg (by omega)])
    go_enter Tryd.func71, Tryd.ntmps71
    go_wp2_with fail
    go_ret2
    rw [F.out]
    exact ⟨_, rfl, Own.nil, Below.refl _ _⟩
  have FF := Lib.hid (show tabF r = runN doI [] r by rw [tabF, if_pos (by omega)])
  go_enter Tryd.func71, Tryd.ntmps71
  go_wp2_with fail
  go_loopw [4, 14] (fun tv i wr => ∃ (k : Nat) (m : List Lk), k ≤ r.length ∧ i = .int .i64 k ∧ Hid (runN doI [] (r.take k) = some m) ∧ Own lkE 57 wr w.heap.size tv m ∧ Below w.heap.size w wr) (fun _ i _ => r.length - (intOf i).toNat)
  case atStart => exact ⟨0, [], by omega, rfl, Lib.hid rfl, Own.nil, Below.refl _ _⟩
  case round =>
    obtain ⟨k, m, hk, rfl, hrun, ho, hbel⟩ := hrel
    have hm : m.length ≤ 16 := by
      have := runI_len Tab0.nil hrun.out
      rw [List.length_take] at this
      simp at this
      omega
    obtain ⟨At, ct, rfl, hct, _, hrt⟩ := ho.form
    by_cases hlt : k < r.length
    · obtain ⟨b, o, rfl, hb, c0, c1, c2, c3⟩ := (H.out.below hbel (Nat.le_refl _)).stp hlt
      have R := Lib.hid (And.intro ho (And.intro hbel (And.intro hrt hct)))
      clear ho hbel hrt hct
      have hst := runN_take hlt hrun.out
      obtain ⟨o2, ho2⟩ : ∃ o2, doI m r[k] = o2 := ⟨_, rfl⟩
      have HO := Lib.hid (And.intro hst ho2)
      clear hst ho2
      have TT : ∀ ob, TTab (World.alloc _ ob) ∧ JTab (World.alloc _ ob) := fun ob => ⟨T.out.1.below (R.out.2.1.alloc R.out.2.1.size ob), T.out.2.below (R.out.2.1.alloc R.out.2.1.size ob)⟩
      have TA := Lib.hid TT
      clear TT
      go_wp2_with fail
      refine (doStep_c At ct m r[k] _ (R.out.2.2.1.grow ((Below.refl _ _).alloc (Nat.le_refl _) _)) (by omega) R.out.2.2.2 (TA.out _).1 (TA.out _).2).mono ?_
      rintro e w2 ⟨v, rfl, ho, hb2⟩
      rw [HO.out.2] at ho
      rw [HO.out.2]
      have hb3 := (R.out.2.1.alloc R.out.2.1.size (.cells #[.int .i64 r[k].who, .bool r[k].free, .int .i64 r[k].node, .int .i64 r[k].mode] 78))
      have S := Lib.hid (And.intro (ho.base hb3.size) (hb3.trans (hb2.mono hb3.size)))
      clear ho hb2 hb3
      cases o2 with
      | none =>
        have F := Lib.hid (show tabF r = none by rw [FF.out]; exact runN_none (k + 1) (HO.out.1.trans HO.out.2))
        go_wp2_with fail
        go_ret2
        rw [F.out]
        exact ⟨_, rfl, Own.nil, S.out.2⟩
      | some m2 =>
        go_wp2_with fail
        go_roundw
        case rel => exact ⟨k + 1, m2, by omega, by go_num, Lib.hid (HO.out.1.trans HO.out.2), S.out.1, S.out.2⟩
        case measure => simp [intOf]; omega
    · have e : k = r.length := by omega
      subst e
      have F := Lib.hid (show tabF r = some m by rw [FF.out]; have := hrun.out; rwa [List.take_length] at this)
      have R := Lib.hid (And.intro ho hbel)
      clear ho hbel
      go_wp2_with fail
      go_ret2
      rw [F.out]
      exact ⟨_, rfl, R.out.1, R.out.2⟩
set_option maxHeartbeats 1000000 in
theorem impl_ValidSteps_c (A : Option Addr) (c : Nat) (r : List Stp) (w : World) (h : Rd stpE w w.heap.size A r) (hl : r.length ≤ 1048576) (ht : TTab w) (hj : JTab w) :
    Calls Tryd.prog 65 #[.slice A r.length c] w fun e w' => e = .returned (.bool (stpOk r)) ∧ Below w.heap.size w w' := by
  have C := Lib.hid (impl_TableAfter_c A c r w h hl ht hj)
  clear h ht hj
  go_enter Tryd.func65, Tryd.ntmps65
  go_wp2_with fail
  refine C.out.mono ?_
  rintro e w1 ⟨v, rfl, _, hb⟩
  have R := Lib.hid hb
  clear hb
  go_wp2_with fail
  go_ret
  exact ⟨rfl, R.out⟩
end Go.Proofs.YtfgcjdhcnalmmaaDoor
