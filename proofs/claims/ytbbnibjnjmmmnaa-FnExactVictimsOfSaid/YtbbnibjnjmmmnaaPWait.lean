/-
  Plain facts on waits: who is reached from whom, by the reference's queue and by the program's stack alike.
-/
import Derived.Test.YtbbnibjnjmmmnaaTWt
import Derived.Test.YtbbnibjnjmmmnaaIsin
import Derived.Test.YtbbnibjnjmmmnaaWt1
namespace Go.Proofs.Ytbbnibjnjmmmnaa

def Edge (wl : List Wt) (a b : Int) : Prop := ∃ x, x ∈ wl ∧ x.who = a ∧ x.wfor = b
def Reach (wl : List Wt) : Int → Int → Prop := Relation.TransGen (Edge wl)
open Classical in
/-- the transactions that 'who' waits for, also by way of others, ascending -/
noncomputable def waitsL (wl : List Wt) (who : Int) : List Int := markU (fun i => decide (Reach wl who i)) 4

/-- One round of the queue: what the waits of 'a' add to those that were seen. -/
def addOne (a : Int) (S : List Int) (x : Wt) : List Int := if (x.who == a && !hasI S x.wfor) = true then S ++ [x.wfor] else S
def addOf (wl : List Wt) (a : Int) (S : List Int) : List Int := wl.foldl (addOne a) S
theorem addOf_snoc (wl : List Wt) (a : Int) (S : List Int) {k : Nat} (hk : k < wl.length) : addOf (wl.take (k + 1)) a S = addOne a (addOf (wl.take k) a S) wl[k] := by
  rw [addOf, List.take_succ_eq_append_getElem hk, List.foldl_append]; rfl
theorem addOne_sub {a : Int} {S : List Int} {x : Wt} {t : Int} (h : t ∈ S) : t ∈ addOne a S x := by
  unfold addOne; split
  · exact List.mem_append_left _ h
  · exact h
theorem addOf_sub {wl : List Wt} {a : Int} : ∀ {S : List Int} {t : Int}, t ∈ S → t ∈ addOf wl a S := by
  induction wl with
  | nil => intro S t h; exact h
  | cons x wl ih => intro S t h; exact ih (addOne_sub h)
theorem addOf_edge {wl : List Wt} {a : Int} : ∀ {S : List Int} {x : Wt}, x ∈ wl → x.who = a → x.wfor ∈ addOf wl a S := by
  induction wl with
  | nil => intro S x h; cases h
  | cons y wl ih =>
    intro S x h ha
    rcases List.mem_cons.1 h with rfl | h
    · refine addOf_sub (wl := wl) ?_
      unfold addOne
      by_cases hm : hasI S x.wfor = true
      · rw [if_neg (by simp [hm])]; exact hasI_mem.1 hm
      · rw [if_pos (by simp [ha, hm])]; simp
    · exact ih h ha
theorem addOf_from {wl : List Wt} {a : Int} : ∀ {S : List Int} {t : Int}, t ∈ addOf wl a S → t ∈ S ∨ Edge wl a t := by
  induction wl with
  | nil => intro S t h; exact .inl h
  | cons x wl ih =>
    intro S t h
    rcases ih h with h | ⟨y, hy, h1, h2⟩
    · unfold addOne at h
      split at h
      · rename_i hc
        rcases List.mem_append.1 h with h | h
        · exact .inl h
        · simp at h
          simp at hc
          exact .inr ⟨x, by simp, hc.1, h.symm⟩
      · exact .inl h
    · exact .inr ⟨y, List.mem_cons_of_mem _ hy, h1, h2⟩
theorem addOf_nodup {wl : List Wt} {a : Int} : ∀ {S : List Int}, S.Nodup → (addOf wl a S).Nodup := by
  induction wl with
  | nil => intro S h; exact h
  | cons x wl ih =>
    intro S h
    refine ih ?_
    unfold addOne
    split
    · rename_i hc
      simp at hc
      rw [List.nodup_append]
      exact ⟨h, by simp, fun y hy z hz => by simp at hz; subst hz; intro e; subst e; exact absurd hy (hasI_not.1 hc.2)⟩
    · exact h
theorem addOf_prefix {wl : List Wt} {a : Int} : ∀ {S : List Int}, S <+: addOf wl a S := by
  induction wl with
  | nil => intro S; exact List.prefix_refl _
  | cons x wl ih =>
    intro S
    refine List.IsPrefix.trans ?_ ih
    unfold addOne
    split
    · exact List.prefix_append _ _
    · exact List.prefix_refl _

theorem nodup_len : ∀ (l m : List Int), l.Nodup → (∀ x, x ∈ l → x ∈ m) → l.length ≤ m.length
  | [], _, _, _ => Nat.zero_le _
  | x :: l, m, nd, h => by
    rw [List.nodup_cons] at nd
    have hx := h x (by simp)
    have := nodup_len l (m.erase x) nd.2 (fun y hy => by
      have hne : y ≠ x := fun e => by subst e; exact nd.1 hy
      exact (List.mem_erase_of_ne hne).2 (h y (by simp [hy])))
    rw [List.length_erase_of_mem hx] at this
    have hp : 0 < m.length := List.length_pos_of_mem hx
    simp only [List.length_cons]
    omega
theorem four_le {l : List Int} (nd : l.Nodup) (h : ∀ t, t ∈ l → 0 ≤ t ∧ t ≤ 3) : l.length ≤ 4 :=
  nodup_len l [0, 1, 2, 3] nd fun t ht => by
    have := h t ht
    simp
    omega
theorem wtOk_range {wl : List Wt} (h : wl.all wtOk = true) {x : Wt} (hx : x ∈ wl) : 0 ≤ x.wfor ∧ x.wfor ≤ 3 := by
  have := List.all_eq_true.1 h x hx
  simp [wtOk, inR] at this
  omega

/-- What the reference's queue keeps: seen S, i of 'who :: S' done. -/
structure BInv (wl : List Wt) (who : Int) (i : Nat) (S : List Int) : Prop where
  nodup : S.Nodup
  range : ∀ t, t ∈ S → 0 ≤ t ∧ t ≤ 3
  reach : ∀ t, t ∈ S → Reach wl who t
  done : ∀ j a, j < i → (who :: S)[j]? = some a → ∀ x, x ∈ wl → x.who = a → x.wfor ∈ S
theorem BInv.start (wl : List Wt) (who : Int) : BInv wl who 0 [] := ⟨by simp, by simp, by simp, fun j a hj => by omega⟩
theorem BInv.len {wl : List Wt} {who : Int} {i : Nat} {S : List Int} (h : BInv wl who i S) : S.length ≤ 4 := four_le h.nodup h.range
theorem BInv.step {wl : List Wt} {who : Int} {i : Nat} {S : List Int} (hv : wl.all wtOk = true) (h : BInv wl who i S) (hi : i < (who :: S).length) : BInv wl who (i + 1) (addOf wl (who :: S)[i] S) := by
  have hp := addOf_prefix (wl := wl) (a := (who :: S)[i]) (S := S)
  have ha : (who :: S)[i] = who ∨ Reach wl who (who :: S)[i] := by
    rcases List.mem_cons.1 (List.getElem_mem hi) with e | e
    · exact .inl e
    · exact .inr (h.reach _ e)
  have hat : ∀ j a, j < (who :: S).length → (who :: addOf wl (who :: S)[i] S)[j]? = some a → (who :: S)[j]? = some a := by
    intro j a hj hs
    obtain ⟨r, hr⟩ := hp
    rw [← hr] at hs
    rw [← List.cons_append, List.getElem?_append_left hj] at hs
    exact hs
  refine ⟨addOf_nodup h.nodup, fun t ht => ?_, fun t ht => ?_, fun j a hj hs x hx hxa => ?_⟩
  · rcases addOf_from ht with h1 | ⟨x, hx, _, rfl⟩
    · exact h.range t h1
    · exact wtOk_range hv hx
  · rcases addOf_from ht with h1 | he
    · exact h.reach t h1
    · rcases ha with e | e
      · rw [e] at he; exact .single he
      · exact .tail e he
  · have hs' := hat j a (by omega) hs
    rcases Nat.lt_or_ge j i with h1 | h1
    · exact addOf_sub (h.done j a h1 hs' x hx hxa)
    · have : j = i := by omega
      subst this
      rw [List.getElem?_eq_getElem hi] at hs'
      simp only [Option.some.injEq] at hs'
      exact addOf_edge hx (hxa.trans hs'.symm)
theorem BInv.all {wl : List Wt} {who : Int} {i : Nat} {S : List Int} (h : BInv wl who i S) (hi : (who :: S).length ≤ i) (t : Int) : t ∈ S ↔ Reach wl who t := by
  refine ⟨h.reach t, fun hr => ?_⟩
  have key : ∀ a b, (a = who ∨ a ∈ S) → Edge wl a b → b ∈ S := by
    rintro a b ha ⟨x, hx, h1, h2⟩
    have hm : a ∈ who :: S := by rcases ha with e | e <;> simp [e]
    obtain ⟨j, hj, e⟩ := List.mem_iff_getElem.1 hm
    rw [← h2]
    exact h.done j a (by omega) (by rw [List.getElem?_eq_getElem hj, e]) x hx h1
  induction hr with
  | single he => exact key _ _ (.inl rfl) he
  | tail _ he ih => exact key _ _ (.inr ih) he
end Go.Proofs.Ytbbnibjnjmmmnaa
