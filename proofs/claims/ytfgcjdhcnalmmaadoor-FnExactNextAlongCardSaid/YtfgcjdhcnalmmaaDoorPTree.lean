/-
  Plain facts on trees: what is valid, who is a kid, how deep a node lies, what is above it.
-/
import Derived.Test.YtfgcjdhcnalmmaaDoorTNd
import Derived.Test.YtfgcjdhcnalmmaaDoorPMode
namespace Go.Proofs.YtfgcjdhcnalmmaaDoor

def letter (c : UInt8) : Bool := inR (c.toNat : Int) 97 122
def nameOk (s : ByteArray) : Bool := s.data.toList.all letter && inR (s.size : Int) 1 4
/-- it is a kid of 'at' with a name -/
def isK (a : Int) (name : ByteArray) (x : Nd) : Bool := (x.par == a) && (x.name.toList == name.toList)
/-- the place of the first such node, -1 if there is none -/
def kidL (t : List Nd) (a : Int) (name : ByteArray) : Int := match t.findIdx? (isK a name) with
  | some i => (i : Int)
  | none => -1
theorem kidL_none {t : List Nd} {a : Int} {name : ByteArray} (h : ∀ k (hk : k < t.length), isK a name t[k] = false) : kidL t a name = -1 := by
  have h1 : t.findIdx? (isK a name) = none := by
    rw [List.findIdx?_eq_none_iff]
    intro x hx
    obtain ⟨k, hk, rfl⟩ := List.mem_iff_getElem.1 hx
    exact h k hk
  simp [kidL, h1]
theorem kidL_some {t : List Nd} {a : Int} {name : ByteArray} {i : Nat} (hi : i < t.length) (h : isK a name t[i] = true) (h2 : ∀ k (hk : k < i), isK a name (t[k]'(by omega)) = false) : kidL t a name = (i : Int) := by
  have h1 : t.findIdx? (isK a name) = some i := by
    rw [List.findIdx?_eq_some_iff_getElem]
    exact ⟨hi, h, fun j hj => by simp [h2 j hj]⟩
  simp [kidL, h1]

/-- how many nodes are above one, looked for in so many steps -/
def depN : Nat → List Nd → Nat → Nat
  | 0, _, _ => 0
  | f + 1, t, i => match t[i]? with
    | some x => if 0 ≤ x.par then depN f t x.par.toNat + 1 else 0
    | none => 0
def dep (t : List Nd) (i : Nat) : Nat := depN (i + 1) t i
/-- node i of the tree is valid, if those before it are -/
def nodeOk (t : List Nd) (i : Nat) (x : Nd) : Bool :=
  inR x.val (-1000) 1000 && (if i = 0 then (x.par == -1) && (x.name.size == 0) else ((inR x.par 0 ((i : Int) - 1) && nameOk x.name) && decide (kidL (t.take i) x.par x.name < 0)) && decide (dep t i ≤ 4))
/-- the nodes below k are valid -/
def OkTo (t : List Nd) (k : Nat) : Prop := ∀ i (h : i < t.length), i < k → nodeOk t i t[i] = true
open Classical in
noncomputable def treeOk (t : List Nd) : Bool := decide (OkTo t t.length) && inR (t.length : Int) 1 12
theorem treeOk_iff {t : List Nd} : treeOk t = true ↔ OkTo t t.length ∧ 1 ≤ t.length ∧ t.length ≤ 12 := by
  simp only [treeOk, Bool.and_eq_true, decide_eq_true_eq, inR]
  exact ⟨fun h => ⟨h.1, by omega, by omega⟩, fun h => ⟨h.1, by omega, by omega⟩⟩
theorem OkTo.zero (t : List Nd) : OkTo t 0 := fun i _ h => by omega
theorem OkTo.next {t : List Nd} {k : Nat} (hk : k < t.length) (h : OkTo t k) (h2 : nodeOk t k t[k] = true) : OkTo t (k + 1) := fun i hi hlt => by
  rcases Nat.lt_or_ge i k with h3 | h3
  · exact h i hi h3
  · obtain rfl : i = k := by omega
    exact h2
theorem treeOk_bad {t : List Nd} {k : Nat} (hk : k < t.length) (h : nodeOk t k t[k] = false) : treeOk t = false := by
  rw [Bool.eq_false_iff]
  intro h2
  have := (treeOk_iff.1 h2).1 k hk hk
  rw [h] at this; cases this
theorem treeOk_long {t : List Nd} (h : t.length < 1 ∨ 12 < t.length) : treeOk t = false := by
  rw [Bool.eq_false_iff]; intro h2; have := (treeOk_iff.1 h2).2; omega
theorem treeOk_done {t : List Nd} (h : OkTo t t.length) (h1 : 1 ≤ t.length) (h2 : t.length ≤ 12) : treeOk t = true := treeOk_iff.2 ⟨h, h1, h2⟩
theorem nodeOk_root {t : List Nd} {x : Nd} (h : nodeOk t 0 x = true) : x.par = -1 ∧ x.name.size = 0 := by
  simp [nodeOk] at h; exact ⟨h.2.1, by rw [h.2.2]; rfl⟩
theorem nodeOk_par {t : List Nd} {i : Nat} {x : Nd} (hi : 0 < i) (h : nodeOk t i x = true) : 0 ≤ x.par ∧ x.par < (i : Int) := by
  simp [nodeOk, inR, show i ≠ 0 by omega] at h; omega
theorem nodeOk_name {t : List Nd} {i : Nat} {x : Nd} (hi : 0 < i) (h : nodeOk t i x = true) : nameOk x.name = true := by
  simp [nodeOk, show i ≠ 0 by omega] at h; exact h.2.1.1.2
theorem nodeOk_dep {t : List Nd} {i : Nat} {x : Nd} (hi : 0 < i) (h : nodeOk t i x = true) : dep t i ≤ 4 := by
  simp [nodeOk, show i ≠ 0 by omega] at h; exact h.2.2
theorem nodeOk_val {t : List Nd} {i : Nat} {x : Nd} (h : nodeOk t i x = true) : inR x.val (-1000) 1000 = true := by
  simp only [nodeOk, Bool.and_eq_true] at h; exact h.1
theorem OkTo.root {t : List Nd} {k : Nat} (h : OkTo t k) (hk : 0 < k) (ht : 0 < t.length) : t[0].par = -1 := (nodeOk_root (h 0 ht hk)).1
theorem OkTo.par {t : List Nd} {k : Nat} (h : OkTo t k) {i : Nat} (hi : i < t.length) (hk : i < k) (h0 : 0 < i) : 0 ≤ t[i].par ∧ t[i].par < (i : Int) := nodeOk_par h0 (h i hi hk)
theorem OkTo.le {t : List Nd} {k j : Nat} (h : OkTo t k) (hj : j ≤ k) : OkTo t j := fun i hi hlt => h i hi (by omega)

theorem depN_fuel {t : List Nd} {k : Nat} (h : OkTo t k) : ∀ (f g i : Nat), i < k → i < t.length → i < f → i < g → depN f t i = depN g t i := by
  intro f
  induction f with
  | zero => intro g i _ _ h1; omega
  | succ f ih =>
    intro g i hk hi hf hg
    obtain ⟨g, rfl⟩ : ∃ m, g = m + 1 := ⟨g - 1, by omega⟩
    simp only [depN, List.getElem?_eq_getElem hi]
    split
    · rename_i hp
      have h0 : 0 < i := by
        rcases Nat.eq_zero_or_pos i with e | e
        · subst e; have := h.root (by omega) hi; omega
        · exact e
      have hp2 := h.par hi hk h0
      rw [ih g t[i].par.toNat (by omega) (by omega) (by omega) (by omega)]
    · rfl
theorem dep_root {t : List Nd} (h : 0 < t.length) (h2 : t[0].par = -1) : dep t 0 = 0 := by
  simp [dep, depN, List.getElem?_eq_getElem h, h2]
/-- a node lies one deeper than its parent -/
theorem dep_par {t : List Nd} {i p : Nat} (h : OkTo t i) (hi : i < t.length) (hp : t[i].par = (p : Int)) (hlt : p < i) : dep t i = dep t p + 1 := by
  have h1 : dep t i = depN i t p + 1 := by
    unfold dep
    rw [depN]
    simp only [List.getElem?_eq_getElem hi, hp]
    rw [if_pos (by omega), Int.toNat_natCast]
  rw [h1, dep, depN_fuel h i (p + 1) p hlt (by omega) hlt (by omega)]

/-- is node a another one, or above it? looked for in so many steps -/
def abvN : Nat → List Nd → Nat → Nat → Bool
  | 0, _, a, low => low == a
  | f + 1, t, a, low => if a < low then (match t[low]? with
    | some x => abvN f t a x.par.toNat
    | none => false) else low == a
def abv (t : List Nd) (a low : Nat) : Bool := abvN low t a low
theorem abvN_fuel {t : List Nd} (h : OkTo t t.length) {a : Nat} : ∀ (f g low : Nat), low < t.length → low ≤ f → low ≤ g → abvN f t a low = abvN g t a low := by
  intro f
  induction f with
  | zero =>
    intro g low hl h1 h2
    obtain rfl : low = 0 := by omega
    cases g with
    | zero => rfl
    | succ g => simp [abvN]
  | succ f ih =>
    intro g low hl h1 h2
    cases g with
    | zero =>
      obtain rfl : low = 0 := by omega
      simp [abvN]
    | succ g =>
      simp only [abvN, List.getElem?_eq_getElem hl]
      split
      · rename_i ha
        have := h.par hl hl (by omega)
        exact ih g _ (by omega) (by omega) (by omega)
      · rfl
theorem abv_stop (t : List Nd) {a low : Nat} (h : low ≤ a) : abv t a low = (low == a) := by
  unfold abv
  cases low with
  | zero => rfl
  | succ n => rw [abvN, if_neg (by omega)]
theorem abv_step {t : List Nd} (h : OkTo t t.length) {a low p : Nat} (hl : low < t.length) (ha : a < low) (hp : t[low].par = (p : Int)) : abv t a low = abv t a p := by
  have h2 := h.par hl hl (by omega)
  obtain ⟨n, rfl⟩ : ∃ n, low = n + 1 := ⟨low - 1, by omega⟩
  unfold abv
  rw [abvN, if_pos ha]
  simp only [List.getElem?_eq_getElem hl, hp, Int.toNat_natCast]
  exact abvN_fuel h n p p (by omega) (by omega) (by omega)
/-- what a tree's validity gives at a node below the first one -/
theorem OkTo.parN {t : List Nd} (h : OkTo t t.length) {i : Nat} (hi : i < t.length) (h0 : 0 < i) : ∃ p : Nat, t[i].par = (p : Int) ∧ p < i := by
  have := h.par hi hi h0
  exact ⟨t[i].par.toNat, by omega, by omega⟩

/-- a node and those above it, upwards -/
def upN : Nat → List Nd → Nat → List Nat
  | 0, _, i => [i]
  | f + 1, t, i => i :: (if i = 0 then [] else match t[i]? with
    | some x => upN f t x.par.toNat
    | none => [])
def upL (t : List Nd) (i : Nat) : List Nat := upN i t i
theorem upN_fuel {t : List Nd} (h : OkTo t t.length) : ∀ (f g i : Nat), i < t.length → i ≤ f → i ≤ g → upN f t i = upN g t i := by
  intro f
  induction f with
  | zero =>
    intro g i _ h1 _
    obtain rfl : i = 0 := by omega
    cases g <;> simp [upN]
  | succ f ih =>
    intro g i hi h1 h2
    cases g with
    | zero =>
      obtain rfl : i = 0 := by omega
      simp [upN]
    | succ g =>
      simp only [upN, List.getElem?_eq_getElem hi]
      split
      · rfl
      · rename_i h0
        have := h.par hi hi (by omega)
        rw [ih g t[i].par.toNat (by omega) (by omega) (by omega)]
theorem upL_zero (t : List Nd) : upL t 0 = [0] := rfl
theorem upL_step {t : List Nd} (h : OkTo t t.length) {i p : Nat} (hi : i < t.length) (h0 : 0 < i) (hp : t[i].par = (p : Int)) : upL t i = i :: upL t p := by
  have h2 := h.par hi hi h0
  obtain ⟨n, rfl⟩ : ∃ n, i = n + 1 := ⟨i - 1, by omega⟩
  unfold upL
  rw [upN, if_neg (by omega)]
  simp only [List.getElem?_eq_getElem hi, hp, Int.toNat_natCast]
  rw [upN_fuel h n p p (by omega) (by omega) (by omega)]
theorem upL_le {t : List Nd} (h : OkTo t t.length) : ∀ (i : Nat), i < t.length → ∀ x ∈ upL t i, x ≤ i := by
  intro i
  induction i using Nat.strongRecOn with
  | _ i ih =>
    intro hi x hx
    rcases Nat.eq_zero_or_pos i with e | e
    · subst e; simp [upL_zero] at hx; omega
    · obtain ⟨p, hp, hlt⟩ := h.parN hi e
      rw [upL_step h hi e hp] at hx
      rcases List.mem_cons.1 hx with e2 | e2
      · omega
      · have := ih p hlt (by omega) x e2; omega
theorem abv_up {t : List Nd} (h : OkTo t t.length) (a : Nat) : ∀ (i : Nat), i < t.length → (abv t a i = true ↔ a ∈ upL t i) := by
  intro i
  induction i using Nat.strongRecOn with
  | _ i ih =>
    intro hi
    rcases Nat.lt_or_ge a i with ha | ha
    · obtain ⟨p, hp, hlt⟩ := h.parN hi (by omega)
      rw [abv_step h hi ha hp, upL_step h hi (by omega) hp, ih p hlt (by omega)]
      simp; omega
    · rw [abv_stop t ha]
      rcases Nat.eq_or_lt_of_le ha with e | e
      · subst e
        rcases Nat.eq_zero_or_pos i with e | e
        · subst e; simp [upL_zero]
        · obtain ⟨p, hp, hlt⟩ := h.parN hi e
          rw [upL_step h hi e hp]; simp
      · constructor
        · intro h1; simp at h1; omega
        · intro h1; have := upL_le h i hi a h1; omega
/-- from the first node on down to the node -/
def pathL (t : List Nd) (i : Nat) : List Int := (upL t i).reverse.map fun (x : Nat) => (x : Int)
theorem upL_len {t : List Nd} (h : OkTo t t.length) : ∀ (i : Nat), i < t.length → (upL t i).length = dep t i + 1 := by
  intro i
  induction i using Nat.strongRecOn with
  | _ i ih =>
    intro hi
    rcases Nat.eq_zero_or_pos i with e | e
    · subst e; rw [upL_zero, dep_root hi (h.root (by omega) hi)]; rfl
    · obtain ⟨p, hp, hlt⟩ := h.parN hi e
      rw [upL_step h hi e hp, dep_par (h.le (by omega)) hi hp hlt, List.length_cons, ih p hlt (by omega)]
theorem dep_le {t : List Nd} (h : OkTo t t.length) {i : Nat} (hi : i < t.length) : dep t i ≤ 4 := by
  rcases Nat.eq_zero_or_pos i with e | e
  · subst e; rw [dep_root hi (h.root (by omega) hi)]; omega
  · exact nodeOk_dep e (h i hi hi)
end Go.Proofs.YtfgcjdhcnalmmaaDoor
