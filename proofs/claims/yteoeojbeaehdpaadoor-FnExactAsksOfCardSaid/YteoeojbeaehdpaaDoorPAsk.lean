/-
  Plain facts on locks that are asked for: the waits that come of them.
-/
import Derived.Test.YteoeojbeaehdpaaDoorPTab
import Derived.Test.YteoeojbeaehdpaaDoorTWt
namespace Go.Proofs.YteoeojbeaehdpaaDoor
/-- the waits of one ask -/
noncomputable def askW (l : List Lk) (a : Lk) : List Wt := (blkF l a.who a.node a.mode).map fun t => ⟨a.who, t⟩
def Diff (asks : List Lk) : Prop := asks.Pairwise fun x y => ¬ x.who = y.who
open Classical in
noncomputable def asksOk (l asks : List Lk) : Bool := ((tabOk l && asks.all lkOk) && decide (Diff asks)) && decide ((asks.flatMap (askW l)).length ≤ 12)
noncomputable def asksF (l asks : List Lk) : List Wt := if asksOk l asks then asks.flatMap (askW l) else []
theorem asksOk_iff {l asks : List Lk} : asksOk l asks = true ↔ tabOk l = true ∧ asks.all lkOk = true ∧ Diff asks ∧ (asks.flatMap (askW l)).length ≤ 12 := by
  simp only [asksOk, Bool.and_eq_true, decide_eq_true_eq, and_assoc]
theorem askW_len (l : List Lk) (a : Lk) : (askW l a).length ≤ 4 := by
  rw [askW, List.length_map]; exact blkF_len _ _ _ _
theorem asks_snoc {l asks : List Lk} {k : Nat} (hk : k < asks.length) : (asks.take (k + 1)).flatMap (askW l) = (asks.take k).flatMap (askW l) ++ askW l asks[k] := by
  rw [List.take_succ_eq_append_getElem hk, List.flatMap_append]; simp
theorem diff_snoc {asks : List Lk} {k : Nat} (hk : k < asks.length) (h : Diff (asks.take k)) (h2 : ∀ i (hi : i < k), ¬ (asks[i]'(by omega)).who = asks[k].who) : Diff (asks.take (k + 1)) := by
  unfold Diff at h ⊢
  rw [List.take_succ_eq_append_getElem hk, List.pairwise_append]
  refine ⟨h, by simp, fun y hy x hx => ?_⟩
  simp at hx
  subst hx
  obtain ⟨i, hi, rfl⟩ := List.mem_iff_getElem.1 hy
  rw [List.length_take] at hi
  rw [List.getElem_take]
  exact h2 i (by omega)
theorem diff_bad {asks : List Lk} {i k : Nat} (hk : k < asks.length) (hi : i < k) (h : (asks[i]'(by omega)).who = asks[k].who) : ¬ Diff asks := fun h2 =>
  List.pairwise_iff_getElem.1 h2 i k (by omega) hk hi h
/-- different transactions: no more than four asks -/
theorem diff_four {asks : List Lk} (h1 : asks.all lkOk = true) (h2 : Diff asks) : asks.length ≤ 4 := by
  have hn : (asks.map Lk.who).Nodup := by
    unfold List.Nodup
    rw [List.pairwise_map]
    exact h2
  have key : ∀ (l m : List Int), l.Nodup → (∀ x, x ∈ l → x ∈ m) → l.length ≤ m.length := by
    intro l
    induction l with
    | nil => intros; simp
    | cons x l ih =>
      intro m nd h
      rw [List.nodup_cons] at nd
      have hx := h x (by simp)
      have := ih (m.erase x) nd.2 (fun y hy => by
        have hne : y ≠ x := fun e => by subst e; exact nd.1 hy
        exact (List.mem_erase_of_ne hne).2 (h y (by simp [hy])))
      rw [List.length_erase_of_mem hx] at this
      have hp : 0 < m.length := List.length_pos_of_mem hx
      simp only [List.length_cons]
      omega
  have := key (asks.map Lk.who) [0, 1, 2, 3] hn (fun x hx => by
    obtain ⟨y, hy, rfl⟩ := List.mem_map.1 hx
    have := askOk_iff.1 (List.all_eq_true.1 h1 y hy)
    simp
    omega)
  simpa using this
end Go.Proofs.YteoeojbeaehdpaaDoor
