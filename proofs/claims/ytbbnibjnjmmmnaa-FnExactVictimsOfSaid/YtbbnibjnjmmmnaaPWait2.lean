/-
  Plain facts on the program's stack: what it pops and marks is what the queue reaches.
-/
import Derived.Test.YtbbnibjnjmmmnaaPWait
namespace Go.Proofs.Ytbbnibjnjmmmnaa

theorem addOne_drop {a : Int} {S0 S : List Int} {x : Wt} (h : S0 <+: S) : (addOne a S x).drop S0.length = S.drop S0.length ++ (if (x.who == a && !hasI S x.wfor) = true then [x.wfor] else []) := by
  unfold addOne
  split
  · rw [List.drop_append_of_le_length h.length_le]
  · simp
def b2n (b : Bool) : Nat := if b then 1 else 0
/-- how many of the four are marked -/
def sum4 (S : List Int) : Nat := b2n (hasI S 0) + b2n (hasI S 1) + b2n (hasI S 2) + b2n (hasI S 3)
theorem b2n_le (b : Bool) : b2n b ≤ 1 := by cases b <;> simp [b2n]
theorem sum4_le (S : List Int) : sum4 S ≤ 4 := by
  have h0 := b2n_le (hasI S 0); have h1 := b2n_le (hasI S 1); have h2 := b2n_le (hasI S 2); have h3 := b2n_le (hasI S 3)
  unfold sum4; omega
theorem hasI_snoc (S : List Int) (f x : Int) : hasI (S ++ [f]) x = (hasI S x || (f == x)) := by simp [hasI]
theorem sum4_snoc {S : List Int} {f : Int} (h : hasI S f = false) (h0 : 0 ≤ f) (h3 : f ≤ 3) : sum4 (S ++ [f]) = sum4 S + 1 := by
  rcases (by omega : f = 0 ∨ f = 1 ∨ f = 2 ∨ f = 3) with rfl | rfl | rfl | rfl <;> simp [sum4, hasI_snoc, h, b2n] <;> omega
theorem sum4_add {wl : List Wt} {a : Int} (hv : wl.all wtOk = true) : ∀ {S : List Int}, sum4 (addOf wl a S) = sum4 S + ((addOf wl a S).length - S.length) := by
  induction wl with
  | nil => intro S; simp [addOf]
  | cons x wl ih =>
    intro S
    simp only [List.all_cons, Bool.and_eq_true] at hv
    have hx : 0 ≤ x.wfor ∧ x.wfor ≤ 3 := wtOk_range (wl := [x]) (by simp [hv.1]) (by simp)
    have h1 := ih hv.2 (S := addOne a S x)
    have hp := (addOf_prefix (wl := wl) (a := a) (S := addOne a S x)).length_le
    show sum4 (addOf wl a (addOne a S x)) = sum4 S + ((addOf wl a (addOne a S x)).length - S.length)
    rw [h1]
    by_cases hc : (x.who == a && !hasI S x.wfor) = true
    · have e : addOne a S x = S ++ [x.wfor] := by unfold addOne; rw [if_pos hc]
      simp only [Bool.and_eq_true, Bool.not_eq_true'] at hc
      rw [e] at hp ⊢
      rw [sum4_snoc hc.2 hx.1 hx.2]
      simp only [List.length_append, List.length_cons, List.length_nil] at hp ⊢
      omega
    · have e : addOne a S x = S := by unfold addOne; rw [if_neg hc]
      rw [e]

/-- What the program's stack keeps: seen S, still to do T. -/
structure DInv (wl : List Wt) (who : Int) (S T : List Int) : Prop where
  nodup : S.Nodup
  range : ∀ t, t ∈ S → 0 ≤ t ∧ t ≤ 3
  reach : ∀ t, t ∈ S → Reach wl who t
  todo : ∀ t, t ∈ T → t = who ∨ t ∈ S
  done : ∀ a, (a = who ∨ a ∈ S) → a ∈ T ∨ ∀ x, x ∈ wl → x.who = a → x.wfor ∈ S
theorem DInv.start (wl : List Wt) (who : Int) : DInv wl who [] [who] := ⟨by simp, by simp, by simp, by simp, by simp⟩
theorem DInv.step {wl : List Wt} {who a : Int} {S T : List Int} (hv : wl.all wtOk = true) (h : DInv wl who S (T ++ [a])) : DInv wl who (addOf wl a S) (T ++ (addOf wl a S).drop S.length) := by
  obtain ⟨r, hr⟩ := addOf_prefix (wl := wl) (a := a) (S := S)
  have hd : (addOf wl a S).drop S.length = r := by rw [← hr]; simp
  rw [hd]
  have ha := h.todo a (by simp)
  refine ⟨addOf_nodup h.nodup, fun t ht => ?_, fun t ht => ?_, fun t ht => ?_, fun b hb => ?_⟩
  · rcases addOf_from ht with h1 | ⟨x, hx, _, rfl⟩
    · exact h.range t h1
    · exact wtOk_range hv hx
  · rcases addOf_from ht with h1 | he
    · exact h.reach t h1
    · rcases ha with e | e
      · rw [e] at he; exact .single he
      · exact .tail (h.reach a e) he
  · rcases List.mem_append.1 ht with h1 | h1
    · rcases h.todo t (by simp [h1]) with e | e
      · exact .inl e
      · exact .inr (addOf_sub e)
    · exact .inr (by rw [← hr]; exact List.mem_append_right _ h1)
  · have hb' : (b = who ∨ b ∈ S) ∨ b ∈ r := by
      rcases hb with e | e
      · exact .inl (.inl e)
      · rw [← hr] at e
        rcases List.mem_append.1 e with e | e
        · exact .inl (.inr e)
        · exact .inr e
    rcases hb' with hb' | hb'
    · rcases h.done b hb' with h1 | h1
      · rcases List.mem_append.1 h1 with h2 | h2
        · exact .inl (List.mem_append_left _ h2)
        · simp at h2
          subst h2
          exact .inr fun x hx hxa => addOf_edge hx hxa
      · exact .inr fun x hx hxa => addOf_sub (h1 x hx hxa)
    · exact .inl (List.mem_append_right _ hb')
theorem DInv.all {wl : List Wt} {who : Int} {S : List Int} (h : DInv wl who S []) (t : Int) : t ∈ S ↔ Reach wl who t := by
  refine ⟨h.reach t, fun hr => ?_⟩
  have key : ∀ a b, (a = who ∨ a ∈ S) → Edge wl a b → b ∈ S := by
    rintro a b ha ⟨x, hx, h1, h2⟩
    rw [← h2]
    rcases h.done a ha with h3 | h3
    · cases h3
    · exact h3 x hx h1
  induction hr with
  | single he => exact key _ _ (.inl rfl) he
  | tail _ he ih => exact key _ _ (.inr ih) he
theorem markU_congr' {p q : Nat → Bool} : ∀ {k : Nat}, (∀ i, i < k → p i = q i) → markU p k = markU q k
  | 0, _ => rfl
  | k + 1, h => by rw [markU, markU, markU_congr' (fun i hi => h i (by omega)), h k (by omega)]
theorem DInv.fin {wl : List Wt} {who : Int} {S : List Int} (h : DInv wl who S []) : markU (pick4 (hasI S 0) (hasI S 1) (hasI S 2) (hasI S 3)) 4 = waitsL wl who := by
  unfold waitsL
  refine markU_congr' fun t ht => ?_
  have e : pick4 (hasI S 0) (hasI S 1) (hasI S 2) (hasI S 3) t = hasI S (t : Int) := by
    rcases (by omega : t = 0 ∨ t = 1 ∨ t = 2 ∨ t = 3) with rfl | rfl | rfl | rfl <;> rfl
  rw [e, Bool.eq_iff_iff, hasI_mem, h.all (t : Int)]
  simp
/-- The four marks as cells. -/
def seenC (S : List Int) : Array Go.Value := #[.bool (hasI S 0), .bool (hasI S 1), .bool (hasI S 2), .bool (hasI S 3)]
theorem seenC_at (S : List Int) (f : Nat) (h : f < 4) : (seenC S)[f]? = some (.bool (hasI S (f : Int))) := by
  rcases (by omega : f = 0 ∨ f = 1 ∨ f = 2 ∨ f = 3) with rfl | rfl | rfl | rfl <;> rfl
theorem seenC_set (S : List Int) (f : Nat) (h : f < 4) : (seenC S).setIfInBounds f (.bool true) = seenC (S ++ [(f : Int)]) := by
  rcases (by omega : f = 0 ∨ f = 1 ∨ f = 2 ∨ f = 3) with rfl | rfl | rfl | rfl <;> simp [seenC, hasI_snoc]
end Go.Proofs.Ytbbnibjnjmmmnaa
