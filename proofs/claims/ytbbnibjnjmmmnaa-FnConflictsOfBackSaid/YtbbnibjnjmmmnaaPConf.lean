/-
  Plain facts on conflicts: who must come behind whom; the sets of four as numbers.
-/
import Derived.Test.YtbbnibjnjmmmnaaTAcc
import Derived.Test.YtbbnibjnjmmmnaaIsin
import Derived.Test.YtbbnibjnjmmmnaaAcc1
import Derived.Laws.BitsAllLaws
import Derived.Laws.BitsLemmas
namespace Go.Proofs.Ytbbnibjnjmmmnaa

/-- x, the earlier access, is one of a and y one of b, on the same node, and one of them writes. -/
def pairB (a b : Int) (x y : Acc) : Bool := (x.who == a) && (y.who == b) && ((x.node == y.node) && (x.write || y.write))
/-- there is such a pair -/
def Fol (h : List Acc) (a b : Int) : Prop := ∃ (i k : Nat) (x y : Acc), i < k ∧ h[i]? = some x ∧ h[k]? = some y ∧ pairB a b x y = true
open Classical in
/-- b must come behind a -/
noncomputable def folB (h : List Acc) (a b : Int) : Bool := !(a == b) && decide (Fol h a b)
/-- a pair whose later access has a number below j, or j, and its earlier one a number below i -/
def FolTo (h : List Acc) (j i : Nat) (a b : Int) : Prop := ∃ (i' k : Nat) (x y : Acc), i' < k ∧ (k < j ∨ (k = j ∧ i' < i)) ∧ h[i']? = some x ∧ h[k]? = some y ∧ pairB a b x y = true
open Classical in
noncomputable def folT (h : List Acc) (j i : Nat) (a b : Int) : Bool := !(a == b) && decide (FolTo h j i a b)
theorem folT_zero (h : List Acc) (a b : Int) : folT h 0 0 a b = false := by
  have : ¬ FolTo h 0 0 a b := by rintro ⟨i', k, x, y, h1, h2, _⟩; omega
  simp [folT, this]
theorem folT_next (h : List Acc) (j : Nat) (a b : Int) : folT h j j a b = folT h (j + 1) 0 a b := by
  have : FolTo h j j a b ↔ FolTo h (j + 1) 0 a b := by
    constructor
    · rintro ⟨i', k, x, y, h1, h2, r⟩; exact ⟨i', k, x, y, h1, by omega, r⟩
    · rintro ⟨i', k, x, y, h1, h2, r⟩; exact ⟨i', k, x, y, h1, by omega, r⟩
  unfold folT; rw [decide_eq_decide.2 this]
theorem folT_all (h : List Acc) (a b : Int) : folT h h.length 0 a b = folB h a b := by
  have : FolTo h h.length 0 a b ↔ Fol h a b := by
    constructor
    · rintro ⟨i', k, x, y, h1, _, r⟩; exact ⟨i', k, x, y, h1, r⟩
    · rintro ⟨i', k, x, y, h1, r1, r2, r3⟩
      have : k < h.length := by
        rcases Nat.lt_or_ge k h.length with h2 | h2
        · exact h2
        · rw [List.getElem?_eq_none h2] at r2; cases r2
      exact ⟨i', k, x, y, h1, .inl this, r1, r2, r3⟩
  unfold folT folB; rw [decide_eq_decide.2 this]
theorem folT_step (h : List Acc) {j i : Nat} (hi : i < j) (hj : j < h.length) (a b : Int) :
    folT h j (i + 1) a b = (folT h j i a b || (!(a == b) && pairB a b h[i] h[j])) := by
  have : FolTo h j (i + 1) a b ↔ FolTo h j i a b ∨ pairB a b h[i] h[j] = true := by
    constructor
    · rintro ⟨i', k, x, y, h1, h2, r1, r2, r3⟩
      by_cases e : k = j ∧ i' = i
      · obtain ⟨rfl, rfl⟩ := e
        rw [List.getElem?_eq_getElem (by omega)] at r1 r2
        simp only [Option.some.injEq] at r1 r2
        subst r1 r2
        exact .inr r3
      · exact .inl ⟨i', k, x, y, h1, by omega, r1, r2, r3⟩
    · rintro (⟨i', k, x, y, h1, h2, r⟩ | hp)
      · exact ⟨i', k, x, y, h1, by omega, r⟩
      · exact ⟨i, j, h[i], h[j], hi, by omega, List.getElem?_eq_getElem _, List.getElem?_eq_getElem _, hp⟩
  unfold folT
  rw [Bool.eq_iff_iff]
  simp only [Bool.and_eq_true, Bool.or_eq_true, decide_eq_true_eq, this]
  constructor
  · rintro ⟨h1, h2 | h2⟩
    · exact .inl ⟨h1, h2⟩
    · exact .inr ⟨h1, h2⟩
  · rintro (⟨h1, h2⟩ | ⟨h1, h2⟩)
    · exact ⟨h1, .inl h2⟩
    · exact ⟨h1, .inr h2⟩

/-- Four marks as a number. -/
def bit4b (a b c d : Bool) : Int := (if a then 1 else 0) + (if b then 2 else 0) + (if c then 4 else 0) + (if d then 8 else 0)
def bit4 (q : Nat → Bool) : Int := bit4b (q 0) (q 1) (q 2) (q 3)
theorem bit4b_bd (a b c d : Bool) : 0 ≤ bit4b a b c d ∧ bit4b a b c d ≤ 15 := by
  cases a <;> cases b <;> cases c <;> cases d <;> decide
theorem bit4_bd (q : Nat → Bool) : 0 ≤ bit4 q ∧ bit4 q ≤ 15 := bit4b_bd _ _ _ _
def pw (k : Nat) : Int := if k = 0 then 1 else if k = 1 then 2 else if k = 2 then 4 else 8
theorem bit4_congr {p q : Nat → Bool} (h : ∀ k, k < 4 → p k = q k) : bit4 p = bit4 q := by
  unfold bit4; rw [h 0 (by omega), h 1 (by omega), h 2 (by omega), h 3 (by omega)]
theorem bit4b_zero (a b c d : Bool) : (bit4b a b c d == 0) = !(a || b || c || d) := by
  cases a <;> cases b <;> cases c <;> cases d <;> decide
theorem bit4_zero (q : Nat → Bool) : (bit4 q == 0) = !(q 0 || q 1 || q 2 || q 3) := bit4b_zero _ _ _ _
theorem bit4b_test (a b c d : Bool) : (Go.bits .and .i64 (bit4b a b c d) 1 == 0) = !a ∧ (Go.bits .and .i64 (bit4b a b c d) 2 == 0) = !b ∧ (Go.bits .and .i64 (bit4b a b c d) 4 == 0) = !c ∧ (Go.bits .and .i64 (bit4b a b c d) 8 == 0) = !d := by
  cases a <;> cases b <;> cases c <;> cases d <;> decide +kernel
theorem bit4b_or (a b c d : Bool) : Go.bits .or .i64 (bit4b a b c d) 1 = bit4b true b c d ∧ Go.bits .or .i64 (bit4b a b c d) 2 = bit4b a true c d ∧ Go.bits .or .i64 (bit4b a b c d) 4 = bit4b a b true d ∧ Go.bits .or .i64 (bit4b a b c d) 8 = bit4b a b c true := by
  cases a <;> cases b <;> cases c <;> cases d <;> decide +kernel
theorem bit4b_andNot (a b c d : Bool) : Go.bits .andNot .i64 (bit4b a b c d) 1 = bit4b false b c d ∧ Go.bits .andNot .i64 (bit4b a b c d) 2 = bit4b a false c d ∧ Go.bits .andNot .i64 (bit4b a b c d) 4 = bit4b a b false d ∧ Go.bits .andNot .i64 (bit4b a b c d) 8 = bit4b a b c false := by
  cases a <;> cases b <;> cases c <;> cases d <;> decide +kernel
theorem bit4_test (q : Nat → Bool) (k : Nat) (hk : k < 4) : (Go.bits .and .i64 (bit4 q) (pw k) == 0) = !(q k) := by
  have h := bit4b_test (q 0) (q 1) (q 2) (q 3)
  rcases (by omega : k = 0 ∨ k = 1 ∨ k = 2 ∨ k = 3) with rfl | rfl | rfl | rfl
  · exact h.1
  · exact h.2.1
  · exact h.2.2.1
  · exact h.2.2.2
theorem bit4_or (q : Nat → Bool) (k : Nat) (hk : k < 4) : Go.bits .or .i64 (bit4 q) (pw k) = bit4 fun j => q j || (j == k) := by
  have h := bit4b_or (q 0) (q 1) (q 2) (q 3)
  rcases (by omega : k = 0 ∨ k = 1 ∨ k = 2 ∨ k = 3) with rfl | rfl | rfl | rfl
  · exact h.1.trans (by simp [bit4])
  · exact h.2.1.trans (by simp [bit4])
  · exact h.2.2.1.trans (by simp [bit4])
  · exact h.2.2.2.trans (by simp [bit4])
theorem bit4_andNot (q : Nat → Bool) (k : Nat) (hk : k < 4) : Go.bits .andNot .i64 (bit4 q) (pw k) = bit4 fun j => q j && !(j == k) := by
  have h := bit4b_andNot (q 0) (q 1) (q 2) (q 3)
  rcases (by omega : k = 0 ∨ k = 1 ∨ k = 2 ∨ k = 3) with rfl | rfl | rfl | rfl
  · exact h.1.trans (by simp [bit4])
  · exact h.2.1.trans (by simp [bit4])
  · exact h.2.2.1.trans (by simp [bit4])
  · exact h.2.2.2.trans (by simp [bit4])

/-- The four sets of those that must come behind, as cells. -/
def behC (f : Nat → Nat → Bool) : Array Go.Value := #[.int .i64 (bit4 (f 0)), .int .i64 (bit4 (f 1)), .int .i64 (bit4 (f 2)), .int .i64 (bit4 (f 3))]
theorem behC_at (f : Nat → Nat → Bool) (a : Nat) (h : a < 4) : (behC f)[a]? = some (.int .i64 (bit4 (f a))) := by
  rcases (by omega : a = 0 ∨ a = 1 ∨ a = 2 ∨ a = 3) with rfl | rfl | rfl | rfl <;> rfl
theorem behC_set (f g : Nat → Nat → Bool) (a : Nat) (h : a < 4) (v : Int) (hv : v = bit4 (g a)) (hne : ∀ a', a' < 4 → a' ≠ a → bit4 (g a') = bit4 (f a')) : (behC f).setIfInBounds a (.int .i64 v) = behC g := by
  subst hv
  rcases (by omega : a = 0 ∨ a = 1 ∨ a = 2 ∨ a = 3) with rfl | rfl | rfl | rfl
  · simp [behC, hne 1, hne 2, hne 3]
  · simp [behC, hne 0, hne 2, hne 3]
  · simp [behC, hne 0, hne 1, hne 3]
  · simp [behC, hne 0, hne 1, hne 2]
theorem behC_congr {f g : Nat → Nat → Bool} (h : ∀ a b, a < 4 → b < 4 → f a b = g a b) : behC f = behC g := by
  unfold behC
  rw [bit4_congr fun k hk => h 0 k (by omega) hk, bit4_congr fun k hk => h 1 k (by omega) hk, bit4_congr fun k hk => h 2 k (by omega) hk, bit4_congr fun k hk => h 3 k (by omega) hk]
noncomputable def folN (h : List Acc) (j i : Nat) (a b : Nat) : Bool := folT h j i (a : Int) (b : Int)
/-- one more pair is looked at: it counts -/
theorem folN_hit (h : List Acc) {j i a b : Nat} (hi : i < j) (hj : j < h.length) (ha : h[i].who = (a : Int)) (hb : h[j].who = (b : Int)) (hne : (h[i].who == h[j].who) = false) (hc : ((h[i].node == h[j].node) && (h[i].write || h[j].write)) = true) (a' b' : Nat) :
    folN h j (i + 1) a' b' = (folN h j i a' b' || ((a' == a) && (b' == b))) := by
  unfold folN
  rw [folT_step h hi hj]
  have e : (!((a' : Int) == (b' : Int)) && pairB (a' : Int) (b' : Int) h[i] h[j]) = ((a' == a) && (b' == b)) := by
    unfold pairB
    rw [hc, ha, hb, Bool.and_true]
    rw [ha, hb] at hne
    rw [Bool.eq_iff_iff]
    simp only [Bool.and_eq_true, Bool.not_eq_true', beq_eq_false_iff_ne, ne_eq, beq_iff_eq] at hne ⊢
    omega
  rw [e]
theorem folN_miss (h : List Acc) {j i : Nat} (hi : i < j) (hj : j < h.length) (hc : (!(h[i].who == h[j].who) && ((h[i].node == h[j].node) && (h[i].write || h[j].write))) = false) (a' b' : Nat) :
    folN h j (i + 1) a' b' = folN h j i a' b' := by
  unfold folN
  rw [folT_step h hi hj]
  have e : (!((a' : Int) == (b' : Int)) && pairB (a' : Int) (b' : Int) h[i] h[j]) = false := by
    unfold pairB
    rw [Bool.eq_false_iff] at hc ⊢
    intro h1
    apply hc
    simp only [Bool.and_eq_true, Bool.not_eq_true', beq_eq_false_iff_ne, ne_eq, beq_iff_eq] at h1 ⊢
    exact ⟨by rw [h1.2.1.1, h1.2.1.2]; exact h1.1, h1.2.2⟩
  rw [e, Bool.or_false]
theorem accOk_range {h : List Acc} (hv : h.all accOk = true) {x : Acc} (hx : x ∈ h) : 0 ≤ x.who ∧ x.who ≤ 3 := by
  have := List.all_eq_true.1 hv x hx
  simp [accOk, inR] at this
  omega
end Go.Proofs.Ytbbnibjnjmmmnaa
