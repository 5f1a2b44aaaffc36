/-
  Plain facts on tables of locks: a lock that is taken or freed leaves a table valid.
-/
import Derived.Test.YteoeojbeaehdpaaDoorPTab
namespace Go.Proofs.YteoeojbeaehdpaaDoor

/-- valid but for its length -/
structure Tab0 (l : List Lk) : Prop where
  ok : l.all lkOk = true
  calm : Calm l
theorem Tab0.nil : Tab0 [] := ⟨rfl, List.Pairwise.nil⟩
theorem Tab0.of {l : List Lk} (h : tabOk l = true) : Tab0 l := ⟨(tabOk_iff.1 h).1, (tabOk_iff.1 h).2.1⟩
theorem Tab0.tab {l : List Lk} (h : Tab0 l) (hl : l.length ≤ 48) : tabOk l = true := tabOk_iff.2 ⟨h.ok, h.calm, hl⟩
theorem Tab0.sub {l m : List Lk} (h : Tab0 l) (hs : m.Sublist l) : Tab0 m :=
  ⟨by rw [List.all_eq_true]; exact fun x hx => List.all_eq_true.1 h.ok x (hs.subset hx), List.Pairwise.sublist hs h.calm⟩
theorem Tab0.at {l : List Lk} (h : Tab0 l) {k : Nat} (hk : k < l.length) : lkOk l[k] = true := List.all_eq_true.1 h.ok _ (List.getElem_mem hk)
theorem Tab0.pair {l : List Lk} (h : Tab0 l) {i k : Nat} (hi : i < l.length) (hk : k < l.length) (hne : i ≠ k) : clash l[i] l[k] = false := by
  rcases Nat.lt_or_gt_of_ne hne with h1 | h1
  · rw [clash_comm]; exact List.pairwise_iff_getElem.1 h.calm i k hi hk h1
  · exact List.pairwise_iff_getElem.1 h.calm k i hk hi h1
theorem isL_iff {who node : Int} {x : Lk} : isL who node x = true ↔ x.who = who ∧ x.node = node := by simp [isL]
/-- a transaction has one lock on a node -/
theorem Tab0.one {l : List Lk} (h : Tab0 l) {who node : Int} {i k : Nat} (hi : i < l.length) (hk : k < l.length) (h1 : isL who node l[i] = true) (h2 : isL who node l[k] = true) : i = k := by
  rcases Nat.lt_or_ge i k with hlt | hge
  · have := h.pair hi hk (by omega)
    rw [isL_iff] at h1 h2
    simp [clash, h1, h2] at this
  · rcases Nat.eq_or_lt_of_le hge with e | hlt
    · exact e.symm
    · have := h.pair hi hk (by omega)
      rw [isL_iff] at h1 h2
      simp [clash, h1, h2] at this
theorem Tab0.held {l : List Lk} (h : Tab0 l) {k : Nat} (hk : k < l.length) : heldL l l[k].who l[k].node = l[k].mode := by
  rcases lockI_cases l l[k].who l[k].node with ⟨_, _, h1⟩ | ⟨i, hi, _, h1, h2, _⟩
  · have := h1 k hk; simp [isL] at this
  · have e := h.one hi hk h2 (by simp [isL])
    subst e
    exact h1
theorem blkL_empty {l : List Lk} {who node mode : Int} (h : blkL l who node mode = []) {t : Int} (ht : 0 ≤ t ∧ t ≤ 3) (hne : t ≠ who) : togI (heldL l t node) mode = true := by
  unfold blkL at h
  simp only [markU, List.append_eq_nil_iff] at h
  have key : ∀ (b : Bool) (x : Int), (if b = true then [x] else []) = [] → b = false := by intro b x; cases b <;> simp
  have h0 := key _ _ h.1.1.1.2
  have h1 := key _ _ h.1.1.2
  have h2 := key _ _ h.1.2
  have h3 := key _ _ h.2
  rcases (by omega : t = 0 ∨ t = 1 ∨ t = 2 ∨ t = 3) with rfl | rfl | rfl | rfl
  · simpa [hne] using h0
  · simpa [hne] using h1
  · simpa [hne] using h2
  · simpa [hne] using h3
theorem joinI_ok {a b : Int} (ha : modeB a = true) (hb : 1 ≤ b ∧ b ≤ 5) : 1 ≤ joinI a b ∧ joinI a b ≤ 5 := by
  have k : ∀ a ∈ modes, ∀ b ∈ modes, 1 ≤ b → 1 ≤ joinI a b ∧ joinI a b ≤ 5 := by decide +kernel
  exact k a (mem_modes ha) b (mem_modes (modeB_iff.2 (by omega))) hb.1
theorem joinI_zero {b : Int} (hb : 1 ≤ b ∧ b ≤ 5) : joinI 0 b = b := by
  have k : ∀ b ∈ modes, joinI 0 b = b := by decide +kernel
  exact k b (mem_modes (modeB_iff.2 (by omega)))
theorem modify_length' {α : Type} (l : List α) (i : Nat) (f : α → α) : (l.modify i f).length = l.length := by simp
theorem takeF_some {l : List Lk} {who node mode : Int} {m : List Lk} (h : takeF l who node mode = some m) :
    tabOk l = true ∧ askOk who node mode = true ∧ blkL l who node (joinI (heldL l who node) mode) = [] ∧ m = grantL l who node mode := by
  unfold takeF at h
  split at h
  · rename_i hc
    simp only [Bool.and_eq_true, List.isEmpty_iff] at hc
    exact ⟨hc.1.1, hc.1.2, hc.2, (Option.some.inj h).symm⟩
  · cases h
theorem takeF_keeps {l : List Lk} {who node mode : Int} {m : List Lk} (h : takeF l who node mode = some m) : Tab0 m ∧ m.length ≤ l.length + 1 := by
  obtain ⟨ht, ha, hb, rfl⟩ := takeF_some h
  have T := Tab0.of ht
  obtain ⟨hw, hn, hm⟩ := askOk_iff.1 ha
  have other : ∀ (k : Nat) (hk : k < l.length), l[k].node = node → l[k].who ≠ who → togM (joinI (heldL l who node) mode) l[k].mode = true := by
    intro k hk h1 h2
    have hok := T.at hk
    have h3 := askOk_iff.1 hok
    have h4 := blkL_empty hb h3.1 h2
    have h5 := T.held hk
    rw [h1] at h5
    rw [h5] at h4
    rw [togM_comm, togM_of (lkOk_mode hok) (modeB_iff.2 (by have := joinI_ok (heldL_mode T.ok who node) hm; omega))]
    exact h4
  rcases lockI_cases l who node with ⟨h1, h2, h3⟩ | ⟨i, hi, h1, h2, h3, h4⟩
  · have e : l.findIdx? (isL who node) = none := by
      rw [List.findIdx?_eq_none_iff]
      intro x hx
      obtain ⟨k, hk, rfl⟩ := List.mem_iff_getElem.1 hx
      exact h3 k hk
    rw [h2, joinI_zero hm] at other
    simp only [grantL, e]
    refine ⟨⟨by rw [List.all_append, T.ok]; simpa [lkOk] using ha, ?_⟩, by simp⟩
    unfold Calm
    rw [List.pairwise_append]
    refine ⟨T.calm, by simp, fun y hy x hx => ?_⟩
    obtain ⟨k, hk, rfl⟩ := List.mem_iff_getElem.1 hy
    simp at hx
    subst hx
    have h5 := h3 k hk
    by_cases hn2 : l[k].node = node
    · have hw2 : l[k].who ≠ who := by intro e2; rw [Bool.eq_false_iff] at h5; exact h5 (isL_iff.2 ⟨e2, hn2⟩)
      have h6 := other k hk hn2 hw2
      simp [clash, hn2, h6]
      exact fun e2 => hw2 e2.symm
    · simp [clash]
      intro e2
      exact absurd e2.symm hn2
  · have e : l.findIdx? (isL who node) = some i := by
      rw [List.findIdx?_eq_some_iff_getElem]
      exact ⟨hi, h3, fun j hj => by simp [h4 j hj]⟩
    rw [h2] at other
    have hiL := isL_iff.1 h3
    have hjm := joinI_ok (lkOk_mode (T.at hi)) hm
    simp only [grantL, e]
    have hget : ∀ (k : Nat) (hk : k < l.length) (hk2 : k < (l.modify i fun x => { x with mode := joinI x.mode mode }).length), (l.modify i fun x => { x with mode := joinI x.mode mode })[k] = if i = k then { l[k] with mode := joinI l[k].mode mode } else l[k] := by
      intro k hk hk2
      rw [List.getElem_modify]
    refine ⟨⟨?_, ?_⟩, by simp⟩
    · rw [List.all_eq_true]
      intro x hx
      obtain ⟨k, hk, rfl⟩ := List.mem_iff_getElem.1 hx
      have hk' : k < l.length := by simpa using hk
      rw [hget k hk' hk]
      split
      · rename_i e2
        subst e2
        exact askOk_iff.2 ⟨by rw [hiL.1]; exact hw, by rw [hiL.2]; exact hn, hjm⟩
      · exact T.at hk'
    · unfold Calm
      rw [List.pairwise_iff_getElem]
      intro a b ha2 hb2 hab
      have ha' : a < l.length := by simpa using ha2
      have hb' : b < l.length := by simpa using hb2
      rw [hget a ha' ha2, hget b hb' hb2]
      have key : ∀ (k : Nat) (hk : k < l.length), k ≠ i → clash { l[i] with mode := joinI l[i].mode mode } l[k] = false := by
        intro k hk hne
        by_cases hn2 : l[k].node = node
        · have hw2 : l[k].who ≠ who := fun e2 => hne (T.one hk hi (isL_iff.2 ⟨e2, hn2⟩) h3)
          have h6 := other k hk hn2 hw2
          simp [clash, h6, hiL]
          exact fun _ e2 => hw2 e2.symm
        · simp [clash, hiL]
          intro e2
          exact absurd e2.symm hn2
      split
      · rename_i e2
        subst e2
        rw [if_neg (by omega)]
        exact key a ha' (by omega)
      · split
        · rename_i e2
          subst e2
          rw [clash_comm]
          exact key b hb' (by omega)
        · exact T.pair hb' ha' (by omega)

theorem filter_erase {α : Type} (p : α → Bool) : ∀ (l : List α) (i : Nat) (hi : i < l.length), p l[i] = true → (∀ k (hk : k < l.length), k ≠ i → p l[k] = false) → l.filter (fun x => !p x) = l.eraseIdx i
  | [], i, hi, _, _ => by simp at hi
  | x :: l, 0, _, h1, h2 => by
    have h1' : p x = true := h1
    have h3 : l.filter (fun x => !p x) = l := by
      rw [List.filter_eq_self]
      intro y hy
      obtain ⟨k, hk, rfl⟩ := List.mem_iff_getElem.1 hy
      have := h2 (k + 1) (by simpa using hk) (by omega)
      simp at this
      simp [this]
    simp [h1', h3]
  | x :: l, i + 1, hi, h1, h2 => by
    have hx : p x = false := h2 0 (by simp) (by omega)
    have ih := filter_erase p l i (by simpa using hi) (by simpa using h1) (fun k hk hne => by have := h2 (k + 1) (by simpa using hk) (by omega); simpa using this)
    simp [hx, ih]
end Go.Proofs.YteoeojbeaehdpaaDoor
