/-
  The library's Delete at locks: one element taken out of a slice of the call's own.
-/
import Derived.Test.YtfgcjdhcnalmmaaDoorTLk
import Derived.Test.YtfgcjdhcnalmmaaDoorMem5
import Derived.Deep.RegionLaw
namespace Go.Proofs.YtfgcjdhcnalmmaaDoor
open Go.RowKit
theorem zeroLk_one (n : Nat) : ∀ u ∈ (Builtin.zeroCells (Value.agg #[.int .i64 0, .int .i64 0, .int .i64 0]).cells n).toList, u.oneCell' = true := by
  intro u hu
  simp only [Builtin.zeroCells, Array.toList_map, List.mem_map] at hu
  obtain ⟨i, _, rfl⟩ := hu
  have h : ∀ j, j < 3 → ((Value.agg #[.int .i64 0, .int .i64 0, .int .i64 0]).cells)[j]!.oneCell' = true := by
    intro j hj
    rcases (by omega : j = 0 ∨ j = 1 ∨ j = 2) with rfl | rfl | rfl <;> kernel_rfl
  exact h _ (Nat.mod_lt _ (by decide))
set_option maxRecDepth 1000000 in
set_option maxHeartbeats 4000000 in
theorem delLk_c (v : Value) (l : List Lk) (i base : Nat) (w : World) (ho : Own lkE 57 w base v l) (hi : i < l.length) (hl : l.length ≤ 1048576) :
    Calls Tryd.prog 91 #[v, .int .i64 i, .int .i64 ((i : Int) + 1)] w fun e w' => ∃ v', e = .returned v' ∧ Own lkE 57 w' base v' (l.eraseIdx i) ∧ v'.ownBlock = v.ownBlock ∧ w.grownBy w' v.ownBlock := by
  obtain ⟨i0, hi0, hz0, hs0, hby0⟩ := info_parts slLk.info
  rcases ho.block with ⟨_, rfl⟩ | ⟨g, c, cs, rfl, hbg, hblk, hlc, hcm, hcs, htk⟩
  · simp at hi
  have hcm' := hcm
  unfold maxLen at hcm'
  have hmv : (lkE.flat (l.drop (i + 1))).length = (l.length - (i + 1)) * 3 := by rw [lkE.flat_len, List.length_drop]; rfl
  have hcell : ∀ j, j < l.length * 3 → w.cell? ⟨g, j, none⟩ = (lkE.flat l)[j]? := by
    intro j hj
    rw [cell_of_row w g j cs _ _ hblk, ← htk, List.getElem?_take, if_pos (by exact hj), Array.getElem?_toList]
  obtain ⟨A, hA, hnews⟩ : ∃ A : Addr, (if c = i + 1 then some (⟨g, 0, none⟩ : Addr) else some ⟨g, (i + 1) * 3, none⟩) = some A ∧ Hid (∀ j u, (lkE.flat (l.drop (i + 1)))[j]? = some u → w.drew.cell? (A.add j) = some u) := by
    by_cases h : c = i + 1
    · refine ⟨⟨g, 0, none⟩, by simp [h], Lib.hid fun j u hu => ?_⟩
      have : l.drop (i + 1) = [] := List.drop_eq_nil_of_le (by omega)
      rw [this] at hu
      simp [Enc.flat] at hu
    · refine ⟨⟨g, (i + 1) * 3, none⟩, by simp [h], Lib.hid fun j u hu => ?_⟩
      have hj : j < (l.length - (i + 1)) * 3 := by
        have := (List.getElem?_eq_some_iff.1 hu).1
        omega
      have e1 : lkE.flat l = lkE.flat (l.take (i + 1)) ++ lkE.flat (l.drop (i + 1)) := by rw [← lkE.flat_append, List.take_append_drop]
      have e2 : (lkE.flat (l.take (i + 1))).length = (i + 1) * 3 := by rw [lkE.flat_len, List.length_take, Nat.min_eq_left (by omega)]; rfl
      rw [Addr.add_lit]
      show w.cell? ⟨g, (i + 1) * 3 + j, none⟩ = some u
      rw [hcell _ (by omega), e1, List.getElem?_append_right (by omega), e2, Nat.add_sub_cancel_left]
      exact hu
  have s1 := Lib.hid hmv
  have s2 := Lib.hid (lkE.flat_one' (l.drop (i + 1)))
  have s3 : Hid (∀ j, j < (lkE.flat (l.drop (i + 1))).length → (w.drew.cell? ⟨g, 0 + i * 3 + j, none⟩).isSome = true ∧ w.drew.frozen? ⟨g, 0 + i * 3 + j, none⟩ = false) := Lib.hid fun j hj => by
    rw [hmv] at hj
    obtain ⟨u, hu⟩ := hblk.cell (0 + i * 3 + j) (by rw [hcs]; show _ < c * 3; omega)
    exact ⟨by show (w.cell? _).isSome = true; rw [hu]; rfl, hblk.free _⟩
  have hb2 : Blk (w.drew.setCells g (i * 3) (lkE.flat (l.drop (i + 1)))) g 57 (setAll cs (i * 3) (lkE.flat (l.drop (i + 1)))) := Blk.setCells _ _ hblk
  have hcl := run_clear_blk (P := Tryd.prog) (t := 24) (e := 57) (ty := 0) (z := .agg #[.int .i64 0, .int .i64 0, .int .i64 0]) (n := l.length - (l.length - 1)) Tryd.underlying24 (fun _ => by kernel_rfl) (zeroLk_one _) (o := (l.length - 1) * 3) (c := c - (l.length - 1)) hb2 (by omega) (by rw [setAll_size, hcs]; show (l.length - 1) * 3 + (l.length - (l.length - 1)) * 3 ≤ c * 3; omega)
  have R := Lib.hid (And.intro hb2 (And.intro htk (And.intro hcs (And.intro hblk hmv))))
  have HCL := Lib.hid hcl
  have hwr : IntKind.i64.wrap ((i : Int) + 1) = (i : Int) + 1 := by rw [IntKind.wrap_i64]; omega
  have hp0 : (0 : Int) ≤ (i : Int) + 1 := by omega
  have hp1 : (i : Int) + 1 ≤ (l.length : Int) := by omega
  have hp2 : ((i : Int) + 1).toNat = i + 1 := by omega
  have hic : i ≤ c := by omega
  have hne : ((i : Int) == (i : Int) + 1) = false := by rw [beq_eq_false_iff_ne]; omega
  clear ho hblk htk hcs hcell hmv hb2 hcl hcm
  go_enter Tryd.func91, Tryd.ntmps91
  go_wp2_with fail
  go_region_law (refine step_append_room rfl (.tmp 22) (.tmp 25) 24 rfl 57 i0 3 Tryd.underlying24 hi0 hs0 g 0 i c (by simp [Act.eval, Act.put]) A (l.length - (i + 1)) (c - (i + 1)) (lkE.flat (l.drop (i + 1))) (by simp [Act.eval, Act.put]) s1.out hnews.out s2.out (by omega) s3.out ?_)
  have hlen2 : i + (l.length - (i + 1)) = l.length - 1 := by omega
  rw [hlen2]
  have hcl := HCL.out
  go_wp2_with fail
  go_ret
  refine ⟨_, rfl, own_blk (Blk.setCells _ _ R.out.1) base hbg (l.eraseIdx i) (by rw [List.length_eraseIdx_of_lt hi]) (by omega) (by unfold maxLen; omega) (by rw [setAll_size, setAll_size]; exact R.out.2.2.1) ?_, rfl, only_setCells _ _ (only_setCells _ _ ⟨rfl, rfl, rfl, Nat.le_refl _, fun _ _ _ => rfl⟩)⟩
  show (setAll _ _ _).toList.take ((l.length - 1) * 3) = _
  rw [setAll_take_le _ _ _ _ (Nat.le_refl _)]
  have h1 := setAll_take (lkE.flat (l.drop (i + 1))) cs (i * 3) (by rw [R.out.2.2.2.2, R.out.2.2.1]; show i * 3 + (l.length - (i + 1)) * 3 ≤ c * 3; omega)
  rw [R.out.2.2.2.2, show i * 3 + (l.length - (i + 1)) * 3 = (l.length - 1) * 3 by omega] at h1
  have h2 : cs.toList.take (i * 3) = lkE.flat (l.take i) := by
    have e1 : cs.toList.take (i * 3) = (cs.toList.take (l.length * 3)).take (i * 3) := by rw [List.take_take, Nat.min_eq_left (by omega)]
    have e2 : cs.toList.take (l.length * 3) = lkE.flat l := R.out.2.1
    have e3 : lkE.flat l = lkE.flat (l.take i) ++ lkE.flat (l.drop i) := by rw [← lkE.flat_append, List.take_append_drop]
    have e4 : (lkE.flat (l.take i)).length = i * 3 := by rw [lkE.flat_len, List.length_take, Nat.min_eq_left (by omega)]; rfl
    rw [e1, e2, e3, List.take_append_of_le_length (by omega), List.take_of_length_le (by omega)]
  rw [h1, h2, ← lkE.flat_append, List.eraseIdx_eq_take_drop_succ]
end Go.Proofs.YtfgcjdhcnalmmaaDoor
