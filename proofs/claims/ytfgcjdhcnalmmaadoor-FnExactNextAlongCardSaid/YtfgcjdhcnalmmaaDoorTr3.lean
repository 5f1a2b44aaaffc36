/-
  Valid trees: the contracts of the program's check.
-/
import Derived.Test.YtfgcjdhcnalmmaaDoorTr2
import Derived.Test.YtfgcjdhcnalmmaaDoorTIn
import Derived.StillTailTactics
namespace Go.Proofs.YtfgcjdhcnalmmaaDoor
open Go.RowKit

/-- the depths of the nodes below k, as cells -/
def depC (t : List Nd) (k : Nat) : Array Value := ((List.range t.length).map fun j => Value.int .i64 (if j < k then (dep t j : Int) else 0)).toArray
theorem depC_size (t : List Nd) (k : Nat) : (depC t k).size = t.length := by simp [depC]
theorem depC_at {t : List Nd} {k j : Nat} (hj : j < t.length) (hk : j < k) : (depC t k)[j]? = some (.int .i64 (dep t j : Int)) := by simp [depC, hj, hk]
theorem depC_set {t : List Nd} {k : Nat} {d : Int} (h : d = (dep t k : Int)) : (depC t k).setIfInBounds k (.int .i64 d) = depC t (k + 1) := by
  subst h
  apply Array.ext_getElem?
  intro j
  rw [Array.getElem?_setIfInBounds]
  by_cases e : k = j
  · subst e
    by_cases hk : k < t.length
    · simp [depC, hk]
    · simp [depC, hk]
  · rw [if_neg e]
    by_cases hj : j < t.length
    · simp only [depC, List.getElem?_toArray, List.getElem?_map, List.getElem?_range hj, Option.map_some]
      have : (j < k + 1) ↔ (j < k) := by omega
      simp only [this]
    · simp [depC, hj]
theorem depC_zero (t : List Nd) : madeCells (Value.int .i64 0).cells (t.length * 1) = depC t 0 := by
  apply Array.ext_getElem?
  intro j
  by_cases hj : j < t.length
  · simp [madeCells, depC, hj, Value.cells, Nat.mod_one]
  · simp [madeCells, depC, hj]
theorem depC_one {t : List Nd} (h : 0 < t.length) (h0 : t[0].par = -1) : depC t 1 = depC t 0 := by
  unfold depC
  congr 1
  apply List.map_congr_left
  intro j _
  by_cases e : j = 0
  · subst e; simp [dep_root h h0]
  · simp; omega

theorem dep_le_to {t : List Nd} {k p : Nat} (h : OkTo t k) (hp : p < k) (hl : p < t.length) : dep t p ≤ 4 := by
  rcases Nat.eq_zero_or_pos p with e | e
  · subst e; rw [dep_root hl (h.root (by omega) hl)]; omega
  · exact nodeOk_dep e (h p hl hp)

set_option maxRecDepth 100000 in
set_option maxHeartbeats 8000000 in
theorem impl_ValidTree_c (A : Option Addr) (c : Nat) (t : List Nd) (w : World) (h : Rd ndE w w.heap.size A t) (hl : t.length ≤ 1048577) (hc : t.length ≤ c) :
    Calls Tryd.prog 58 #[.slice A t.length c] w fun e w' => e = .returned (.bool (treeOk t)) ∧ Below w.heap.size w w' := by
  have H := Lib.hid h
  by_cases hlen : t.length < 1
  · have F := Lib.hid (treeOk_long (t := t) (.inl hlen))
    clear h
    go_enter Tryd.func58, Tryd.ntmps58
    go_wp2_with fail
    go_ret
    exact ⟨ret_bool F.out.symm, Below.refl _ _⟩
  by_cases hlong : 12 < t.length
  · have F := Lib.hid (treeOk_long (.inr hlong))
    clear h
    go_enter Tryd.func58, Tryd.ntmps58
    go_wp2_with fail
    go_ret
    exact ⟨ret_bool F.out.symm, Below.refl _ _⟩
  have hpos : 0 < t.length := by omega
  obtain ⟨b, o, e1, hb, r0, r1, _⟩ := h.nd hpos
  rw [Nat.zero_mul, Nat.add_zero] at r0 r1
  clear h
  by_cases hr1 : t[0].par = -1
  · by_cases hr2 : t[0].name.size = 0
    · have h3 := empty_list hr2
      have h3b : t[0].name.toList.isEmpty = true := by rw [h3]; rfl
      have RT := Lib.hid (And.intro hr1 hr2)
      rw [hr1] at r0
      clear hr1 hr2
      subst e1
      have hmk := fun W => run_make_rowN (P := Tryd.prog) 49 3 _ _ slIn.und (info_parts slIn.info).choose_spec.1 (info_parts slIn.info).choose_spec.2.1 .i64 .i64 t.length t.length (Nat.le_refl _) (by rw [(info_parts slIn.info).choose_spec.2.2.2]; omega) (by omega) W
      have hsz := (info_parts slIn.info).choose_spec.2.2.1
      rw [hsz] at hmk
      clear hsz
      rw [show inE.sz = 1 from rfl, depC_zero] at hmk
      have B0 := Lib.hid ((Below.refl w.heap.size w).alloc (Nat.le_refl _) (.cells (depC t 0) 3))
      have N0 := Lib.hid (Blk.new w 3 (depC t 0))
      go_enter Tryd.func58, Tryd.ntmps58
      go_wp2_with fail
      clear hmk r0 r1 h3 h3b
      go_loopw [31] (fun i wr => ∃ k : Nat, i = .int .i64 k ∧ k ≤ t.length ∧ Hid (OkTo t k ∧ Blk wr w.heap.size 3 (depC t k)) ∧ Below w.heap.size w wr) (fun i _ => t.length - (intOf i).toNat)
      case atStart => exact ⟨0, rfl, by omega, Lib.hid ⟨OkTo.zero t, N0.out⟩, B0.out⟩
      case round =>
        obtain ⟨k, rfl, hk, hok, hbel⟩ := hrel
        by_cases hlt : k < t.length
        · obtain ⟨b', o', e', hb', c0, c1, c2⟩ := (H.out.below hbel (Nat.le_refl _)).nd hlt
          cases e'
          have R := Lib.hid hbel
          clear hbel
          by_cases hv : inR t[k].val (-1000) 1000 = true
          · rcases Nat.eq_zero_or_pos k with hz | hz
            · have F := Lib.hid (show OkTo t (k + 1) ∧ depC t (k + 1) = depC t k by
                subst hz
                exact ⟨hok.out.1.next hlt (by rw [nodeOk_zero rfl hv, RT.out.1, RT.out.2]; rfl), depC_one hpos RT.out.1⟩)
              have hz2 : ((k : Int) == 0) = true := by rw [hz]; rfl
              clear hz
              go_wp2_with (go_at_call 72; refine (within_c _ _ _ _).mono ?_; rintro e w' ⟨rfl, rfl⟩)
              go_roundw
              case rel => exact ⟨k + 1, by go_num, by omega, Lib.hid ⟨F.out.1, by rw [F.out.2]; exact hok.out.2.alloc _⟩, R.out.alloc R.out.size _⟩
              case measure => simp [intOf]; omega
            · have hz2 : ((k : Int) == 0) = false := by rw [beq_eq_false_iff_ne]; omega
              have FM := Lib.hid (nodeOk_more (t := t) hz hv)
              have HN := t[k].small
              by_cases h1 : inR t[k].par 0 ((k : Int) - 1) = true
              · by_cases h2 : nameOk t[k].name = true
                · obtain ⟨p, hp, hpk⟩ : ∃ p : Nat, t[k].par = (p : Int) ∧ p < k := by
                    simp [inR] at h1
                    exact ⟨t[k].par.toNat, by omega, by omega⟩
                  obtain ⟨kv, hkv⟩ : ∃ kv, kidL (t.take k) t[k].par t[k].name = kv := ⟨_, rfl⟩
                  have HK := Lib.hid hkv
                  have F1 := Lib.hid (show nodeOk t k t[k] = (decide (kv < 0) && decide (dep t k ≤ 4)) by
                    rw [FM.out, h1, h2, hkv]; rfl)
                  have LT := Lib.hid (show (t.take k).length = k by rw [List.length_take]; omega)
                  have HP := Lib.hid hp
                  have DP := Lib.hid (dep_par hok.out.1 hlt hp hpk)
                  clear hkv hp
                  have hgl := hok.out.2.lt
                  have KC := Lib.hid (show ∀ W, Below w.heap.size w W → Calls Tryd.prog 85 #[.slice (some ⟨b, o, none⟩) k c, .int .i64 t[k].par, .string t[k].name] W fun e w' => e = .returned (.int .i64 kv) ∧ Below W.heap.size W w' by
                    intro W hW
                    have := kidIn_c (some ⟨b, o, none⟩) c (t.take k) t[k].par t[k].name W ((H.out.take k).below hW (Nat.le_refl _) |>.more hW.size) (by rw [LT.out]; omega)
                    rw [LT.out, HK.out] at this
                    exact this)
                  have hkc : k ≤ c := by omega
                  go_wp2_with (first | (go_at_call 72; refine (within_c _ _ _ _).mono ?_; rintro e w' ⟨rfl, rfl⟩) | (go_at_call 84; refine (isName_c _ HN _).mono ?_; rintro e w' ⟨rfl, rfl⟩))
                  obtain ⟨wq, hwq⟩ : ∃ wq, wr.alloc (.cells #[.int .i64 t[k].par, .string t[k].name, .int .i64 t[k].val] 68) = wq := ⟨_, rfl⟩
                  have BQ : Blk wq wr.heap.size 68 #[.int .i64 t[k].par, .string t[k].name, .int .i64 t[k].val] := by rw [← hwq]; exact Blk.new _ _ _
                  have BW := Lib.hid (And.intro BQ (And.intro (show Below w.heap.size w wq by rw [← hwq]; exact R.out.alloc R.out.size _) (show Blk wq w.heap.size 3 (depC t k) by rw [← hwq]; exact hok.out.2.alloc _)))
                  have q0 : wq.cell? ⟨wr.heap.size, 0, none⟩ = some (.int .i64 t[k].par) := by rw [cell_of_row _ _ 0 _ _ _ BQ]; rfl
                  have q1 : wq.cell? ⟨wr.heap.size, 1, none⟩ = some (.string t[k].name) := by rw [cell_of_row _ _ 1 _ _ _ BQ]; rfl
                  rw [hwq]
                  clear hwq BQ c0 c1 c2
                  go_still_tail 7, (by kernel_rfl)
                  go_wp2_with fail
                  refine (KC.out _ BW.out.2.1.drew).mono ?_
                  rintro e w2 ⟨rfl, hb2⟩
                  have BN := (show Blk wq.drew wr.heap.size _ _ from BW.out.1).grow hb2
                  have d0 := (cell_of_row _ _ 0 _ _ _ BN).trans (rfl : _ = some (Value.int .i64 t[k].par))
                  rw [HP.out] at d0
                  have S := Lib.hid (show Blk w2 w.heap.size 3 (depC t k) from (show Blk wq.drew _ _ _ from BW.out.2.2).grow hb2)
                  have S2 := Lib.hid (BW.out.2.1.drew.trans (hb2.mono BW.out.2.1.drew.size))
                  clear hb2 BN
                  by_cases h3 : kv < 0
                  · have g0 : w2.cell? ⟨w.heap.size, p, none⟩ = some (.int .i64 (dep t p : Int)) := by
                      rw [cell_of_row _ _ p _ _ _ S.out]; exact depC_at (by omega) hpk
                    have g1 : w2.cell? ⟨w.heap.size, k, none⟩ = some (.int .i64 0) := by
                      rw [cell_of_row _ _ k _ _ _ S.out]; simp [depC, hlt]
                    have gf := S.out.free k
                    have hdp := dep_le_to hok.out.1 hpk (by omega)
                    by_cases h4 : 4 < (dep t p : Int) + 1
                    · have F := Lib.hid (treeOk_bad hlt (show nodeOk t k t[k] = false by rw [F1.out, DP.out]; simp; omega))
                      go_wp2_with fail
                      go_ret
                      exact ⟨ret_bool F.out.symm, S2.out.setCell (Nat.le_refl _) _⟩
                    · have F := Lib.hid (hok.out.1.next hlt (show nodeOk t k t[k] = true by rw [F1.out, DP.out]; simp; omega))
                      have FC := Lib.hid (depC_set (t := t) (k := k) (d := (dep t p : Int) + 1) (by rw [DP.out]; simp))
                      go_wp2_with fail
                      go_roundw
                      case rel => exact ⟨k + 1, by go_num, by omega, Lib.hid ⟨F.out, by rw [← FC.out]; exact S.out.set k _⟩, S2.out.setCell (Nat.le_refl _) _⟩
                      case measure => simp [intOf]; omega
                  · have F := Lib.hid (treeOk_bad hlt (show nodeOk t k t[k] = false by rw [F1.out]; simp [h3]))
                    go_wp2_with fail
                    go_ret
                    exact ⟨ret_bool F.out.symm, S2.out⟩
                · rw [Bool.not_eq_true] at h2
                  have F := Lib.hid (treeOk_bad hlt (show nodeOk t k t[k] = false by rw [FM.out, h2]; simp))
                  go_wp2_with (first | (go_at_call 72; refine (within_c _ _ _ _).mono ?_; rintro e w' ⟨rfl, rfl⟩) | (go_at_call 84; refine (isName_c _ HN _).mono ?_; rintro e w' ⟨rfl, rfl⟩))
                  go_ret
                  exact ⟨ret_bool F.out.symm, R.out.alloc R.out.size _⟩
              · rw [Bool.not_eq_true] at h1
                have F := Lib.hid (treeOk_bad hlt (show nodeOk t k t[k] = false by rw [FM.out, h1]; rfl))
                go_wp2_with (go_at_call 72; refine (within_c _ _ _ _).mono ?_; rintro e w' ⟨rfl, rfl⟩)
                go_ret
                exact ⟨ret_bool F.out.symm, R.out.alloc R.out.size _⟩
          · rw [Bool.not_eq_true] at hv
            have F := Lib.hid (treeOk_bad hlt (nodeOk_val_bad (t := t) (i := k) hv))
            go_wp2_with (go_at_call 72; refine (within_c _ _ _ _).mono ?_; rintro e w' ⟨rfl, rfl⟩)
            go_ret
            exact ⟨ret_bool F.out.symm, R.out.alloc R.out.size _⟩
        · obtain rfl : k = t.length := by omega
          have F := Lib.hid (treeOk_done hok.out.1 (by omega) (by omega))
          have R := Lib.hid hbel
          clear hbel
          go_wp2_with fail
          go_ret
          exact ⟨ret_bool F.out.symm, R.out⟩
    · obtain ⟨h3, h4⟩ := empty_not hr2
      have F := Lib.hid (treeOk_bad hpos (show nodeOk t 0 t[0] = false by
        by_cases hv : inR t[0].val (-1000) 1000 = true
        · rw [nodeOk_zero rfl hv]; simp [hr2]
        · rw [Bool.not_eq_true] at hv; exact nodeOk_val_bad hv))
      rw [hr1] at r0
      clear hr1 hr2
      subst e1
      go_enter Tryd.func58, Tryd.ntmps58
      go_wp2_with fail
      go_ret
      exact ⟨ret_bool F.out.symm, Below.refl _ _⟩
  · have F := Lib.hid (treeOk_bad hpos (show nodeOk t 0 t[0] = false by
      by_cases hv : inR t[0].val (-1000) 1000 = true
      · rw [nodeOk_zero rfl hv]; simp [hr1]
      · rw [Bool.not_eq_true] at hv; exact nodeOk_val_bad hv))
    have h3 : (t[0].par == -1) = false := by simp [hr1]
    have h4 : (t[0].par != -1) = true := by simp [hr1]
    clear hr1
    subst e1
    go_enter Tryd.func58, Tryd.ntmps58
    go_wp2_with fail
    go_ret
    exact ⟨ret_bool F.out.symm, Below.refl _ _⟩
end Go.Proofs.YtfgcjdhcnalmmaaDoor
