/-
  Plain facts on the walk over a tree by names: a node's kids in the order of their names; the list of all nodes below a node.
-/
import Derived.Test.YtjmeeiofoioojaaPPath
import Derived.Test.YtjmeeiofoioojaaPTree2
import Derived.Lib.Bytealg
import Derived.Sort.LotA
import Derived.Sort.Walk0
namespace Go.Proofs.Ytjmeeiofoioojaa
open Go.Sort

def nameL (t : List Nd) (i : Nat) : List UInt8 := match t[i]? with
  | some x => x.name.data.toList
  | none => []
theorem nameL_at {t : List Nd} {i : Nat} (hi : i < t.length) : nameL t i = t[i].name.data.toList := by unfold nameL; rw [List.getElem?_eq_getElem hi]
/-- the order of nodes by their names -/
def ltN (t : List Nd) (i j : Nat) : Bool := decide (nameL t i < nameL t j)
theorem swoN (t : List Nd) : SWO (ltN t) where
  irrefl x := swo_ltStr.irrefl (nameL t x)
  trans x y z := swo_ltStr.trans (nameL t x) (nameL t y) (nameL t z)
  ntrans x y z := swo_ltStr.ntrans (nameL t x) (nameL t y) (nameL t z)
def isKid (t : List Nd) (a i : Nat) : Bool := match t[i]? with
  | some x => x.par == (a : Int)
  | none => false
theorem isKid_at {t : List Nd} {a i : Nat} (hi : i < t.length) : isKid t a i = (t[i].par == (a : Int)) := by unfold isKid; rw [List.getElem?_eq_getElem hi]
def kidsTo (t : List Nd) (a k : Nat) : List Nat := (List.range k).filter (isKid t a)
def kidsL (t : List Nd) (a : Nat) : List Nat := kidsTo t a t.length
theorem kidsTo_yes {t : List Nd} {a k : Nat} (h : isKid t a k = true) : kidsTo t a (k + 1) = kidsTo t a k ++ [k] := by simp [kidsTo, List.range_succ, h]
theorem kidsTo_no {t : List Nd} {a k : Nat} (h : isKid t a k = false) : kidsTo t a (k + 1) = kidsTo t a k := by simp [kidsTo, List.range_succ, h]
theorem kidsTo_len (t : List Nd) (a k : Nat) : (kidsTo t a k).length ≤ k := Nat.le_trans (List.length_filter_le _ _) (by simp)
theorem kidsTo_one {t : List Nd} (h : OkTo t t.length) (a : Nat) (ht : 0 < t.length) : kidsTo t a 1 = [] := by
  have h0 := h.root ht ht
  rw [kidsTo_no]
  · rfl
  · rw [isKid_at ht, h0]; simp
theorem mem_kids {t : List Nd} {a i : Nat} : i ∈ kidsL t a ↔ i < t.length ∧ isKid t a i = true := by simp [kidsL, kidsTo]
theorem kid_gt {t : List Nd} (h : OkTo t t.length) {a i : Nat} (hm : i ∈ kidsL t a) : ∃ hi : i < t.length, 0 < i ∧ t[i].par = (a : Int) ∧ a < i := by
  obtain ⟨hi, hk⟩ := mem_kids.1 hm
  rw [isKid_at hi] at hk
  have hp : t[i].par = (a : Int) := by simpa using hk
  have h0 : 0 < i := by
    rcases Nat.eq_zero_or_pos i with e | e
    · subst e; have := h.root hi hi; omega
    · exact e
  have := h.par hi hi h0
  exact ⟨hi, h0, hp, by omega⟩
theorem kid_dep {t : List Nd} (h : OkTo t t.length) {a i : Nat} (hm : i ∈ kidsL t a) : dep t i = dep t a + 1 := by
  obtain ⟨hi, _, hp, hlt⟩ := kid_gt h hm
  exact dep_par (h.le (by omega)) hi hp hlt
/-- two kids of one name are one -/
theorem kid_name {t : List Nd} (h : OkTo t t.length) {a i j : Nat} (hi : i ∈ kidsL t a) (hj : j ∈ kidsL t a) (hn : nameL t i = nameL t j) : i = j := by
  obtain ⟨hi, hi0, hpi, _⟩ := kid_gt h hi
  obtain ⟨hj, hj0, hpj, _⟩ := kid_gt h hj
  have h1 := kid_self h hi hi0
  have h2 := kid_self h hj hj0
  rw [nameL_at hi, nameL_at hj] at hn
  have hn2 : t[i].name = t[j].name := by
    rw [← back t[i].name, ← back t[j].name, hn]
  rw [hpi, hn2] at h1
  rw [hpj] at h2
  omega
theorem kid_tot {t : List Nd} (h : OkTo t t.length) {a i j : Nat} (hi : i ∈ kidsL t a) (hj : j ∈ kidsL t a) (h1 : ltN t i j = false) (h2 : ltN t j i = false) : i = j := by
  refine kid_name h hi hj ?_
  simp only [ltN, decide_eq_false_iff_not] at h1 h2
  exact List.le_antisymm (List.not_lt.1 h2) (List.not_lt.1 h1)
/-- a list of the kids in the order of their names -/
def IsSort (t : List Nd) (a : Nat) (l : List Nat) : Prop := l.Perm (kidsL t a) ∧ l.Pairwise fun i j => ltN t j i = false
theorem sort_unique {t : List Nd} (h : OkTo t t.length) {a : Nat} : ∀ (l m : List Nat), l.Perm m → (∀ x ∈ l, x ∈ kidsL t a) → l.Pairwise (fun i j => ltN t j i = false) → m.Pairwise (fun i j => ltN t j i = false) → l = m
  | [], m, hp, _, _, _ => by have := hp.length_eq; simp at this; exact (List.eq_nil_of_length_eq_zero this.symm).symm
  | x :: l, [], hp, _, _, _ => by have := hp.length_eq; simp at this
  | x :: l, y :: m, hp, hk, h1, h2 => by
    have hx := hk x (by simp)
    have hy := hk y (hp.mem_iff.2 (by simp))
    have e : x = y := by
      have hxm : x ∈ y :: m := hp.mem_iff.1 (by simp)
      have hyl : y ∈ x :: l := hp.mem_iff.2 (by simp)
      rcases List.mem_cons.1 hxm with e | e
      · exact e
      · rcases List.mem_cons.1 hyl with e2 | e2
        · exact e2.symm
        · exact kid_tot h hx hy ((List.pairwise_cons.1 h2).1 x e) ((List.pairwise_cons.1 h1).1 y e2)
    subst e
    rw [sort_unique h l m hp.cons_inv (fun z hz => hk z (by simp [hz])) (List.pairwise_cons.1 h1).2 (List.pairwise_cons.1 h2).2]
open Classical in
noncomputable def sortK (t : List Nd) (a : Nat) : List Nat := if h : ∃ l, IsSort t a l then h.choose else []
theorem sortK_of {t : List Nd} (h : OkTo t t.length) {a : Nat} {l : List Nat} (hl : IsSort t a l) : sortK t a = l := by
  have he : ∃ l, IsSort t a l := ⟨l, hl⟩
  have hs := he.choose_spec
  unfold sortK
  rw [dif_pos he]
  exact sort_unique h _ _ (hs.1.trans hl.1.symm) (fun x hx => hs.1.mem_iff.1 hx) hs.2 hl.2
theorem sortK_mem {t : List Nd} {a x : Nat} (hx : x ∈ sortK t a) : x ∈ kidsL t a := by
  unfold sortK at hx
  split at hx
  · rename_i he
    exact he.choose_spec.1.mem_iff.1 hx
  · simp at hx
theorem sortK_len (t : List Nd) (a : Nat) : (sortK t a).length ≤ t.length := by
  unfold sortK
  split
  · rename_i he
    rw [he.choose_spec.1.length_eq]; exact kidsTo_len t a _
  · simp
/-- a node, and all below it, by names -/
noncomputable def walkN : Nat → List Nd → Nat → List Int
  | 0, _, a => [(a : Int)]
  | f + 1, t, a => (a : Int) :: (sortK t a).flatMap (walkN f t)
noncomputable def walkL (t : List Nd) (a : Nat) : List Int := walkN (t.length - a) t a
theorem flatMap_eq {α β : Type} {f g : α → List β} : ∀ (l : List α), (∀ x ∈ l, f x = g x) → l.flatMap f = l.flatMap g
  | [], _ => rfl
  | x :: l, h => by rw [List.flatMap_cons, List.flatMap_cons, h x (by simp), flatMap_eq l fun y hy => h y (by simp [hy])]
theorem walkN_fuel {t : List Nd} (h : OkTo t t.length) : ∀ (f g a : Nat), a < t.length → t.length - a ≤ f → t.length - a ≤ g → walkN f t a = walkN g t a
  | 0, _, a, ha, h1, _ => by omega
  | f + 1, 0, a, ha, _, h2 => by omega
  | f + 1, g + 1, a, ha, h1, h2 => by
    rw [walkN, walkN]
    congr 1
    refine flatMap_eq _ fun x hx => ?_
    obtain ⟨hx2, _, _, hlt⟩ := kid_gt h (sortK_mem hx)
    exact walkN_fuel h f g x hx2 (by omega) (by omega)
theorem walkL_step {t : List Nd} (h : OkTo t t.length) {a : Nat} (ha : a < t.length) : walkL t a = (a : Int) :: (sortK t a).flatMap (walkL t) := by
  obtain ⟨n, hn⟩ : ∃ n, t.length - a = n + 1 := ⟨t.length - a - 1, by omega⟩
  rw [walkL, hn, walkN]
  congr 1
  refine flatMap_eq _ fun x hx => ?_
  obtain ⟨hx2, _, _, hlt⟩ := kid_gt h (sortK_mem hx)
  exact walkN_fuel h _ _ x hx2 (by omega) (by omega)
theorem flatMap_len {α β : Type} {f : α → List β} {b : Nat} : ∀ (l : List α), (∀ x ∈ l, (f x).length ≤ b) → (l.flatMap f).length ≤ l.length * b
  | [], _ => by simp
  | x :: l, h => by
    rw [List.flatMap_cons, List.length_append, List.length_cons, Nat.succ_mul]
    have := h x (by simp)
    have := flatMap_len l fun y hy => h y (by simp [hy])
    omega
def wb : Nat → Nat
  | 0 => 1
  | j + 1 => 1 + 12 * wb j
theorem walk_len {t : List Nd} (h : OkTo t t.length) (h12 : t.length ≤ 12) : ∀ (j a : Nat), a < t.length → 4 ≤ dep t a + j → (walkL t a).length ≤ wb j
  | 0, a, ha, hd => by
    rw [walkL_step h ha]
    have : sortK t a = [] := by
      cases hs : sortK t a with
      | nil => rfl
      | cons x l =>
        have hx := sortK_mem (show x ∈ sortK t a by rw [hs]; simp)
        have h1 := kid_dep h hx
        obtain ⟨hx2, _⟩ := kid_gt h hx
        have := dep_le h hx2
        omega
    rw [this]; simp [wb]
  | j + 1, a, ha, hd => by
    rw [walkL_step h ha]
    have h1 := flatMap_len (f := walkL t) (b := wb j) (sortK t a) fun x hx => by
      obtain ⟨hx2, _⟩ := kid_gt h (sortK_mem hx)
      have := kid_dep h (sortK_mem hx)
      exact walk_len h h12 j x hx2 (by omega)
    have h2 := sortK_len t a
    have h3 := Nat.mul_le_mul_right (wb j) (Nat.le_trans h2 h12)
    simp only [List.length_cons, wb]
    omega
noncomputable def walkF (t : List Nd) (a : Int) : List Int := if nodeB t a = true then walkL t a.toNat else []
theorem walkL_len {t : List Nd} (h : treeOk t = true) {a : Nat} (ha : a < t.length) : (walkL t a).length ≤ 30000 := by
  have h2 := treeOk_iff.1 h
  have := walk_len h2.1 h2.2.2 4 a ha (by omega)
  have e : wb 4 = 22621 := rfl
  omega
theorem walkF_len (t : List Nd) (a : Int) : (walkF t a).length ≤ 30000 := by
  unfold walkF
  split
  · rename_i h
    have h1 := nodeB_iff.1 h
    exact walkL_len h1.1 (by have := atOk_iff.1 h1.2; omega)
  · simp
/-- a sorted array of kids -/
theorem isSort_of {t : List Nd} {a : Nat} {d : Array Nat} (hp : d.toList.Perm (kidsL t a)) (hs : SortedIn (ltN t) 0 d.size d) : IsSort t a d.toList := by
  refine ⟨hp, List.pairwise_iff_getElem.2 fun i j hi hj hij => ?_⟩
  have h1 := hs i j (Nat.zero_le _) hij (by simpa using hj)
  have hi' : i < d.size := by simpa using hi
  have hj' : j < d.size := by simpa using hj
  rw [getElem!_pos d i hi', getElem!_pos d j hj'] at h1
  simpa using h1
theorem cmp_iff : ∀ (x y : List UInt8), Go.Lib.compareBytes x y < 0 ↔ x < y
  | [], [] => by simp [Go.Lib.compareBytes]
  | [], _ :: _ => by simp [Go.Lib.compareBytes]
  | _ :: _, [] => by simp [Go.Lib.compareBytes]
  | a :: x, b :: y => by
    have ih := cmp_iff x y
    rw [Go.Lib.compareBytes, List.cons_lt_cons_iff]
    by_cases h1 : a < b
    · simp [h1]
    · by_cases h2 : b < a
      · have h3 : a ≠ b := fun e => by subst e; exact h1 h2
        simp [h1, h2, h3]
      · have h3 : a = b := UInt8.le_antisymm (UInt8.not_lt.1 h2) (UInt8.not_lt.1 h1)
        subst h3
        simp [h1, ih]
theorem cmp_lt (x y : List UInt8) : decide (Go.Lib.compareBytes x y < 0) = decide (x < y) := decide_eq_decide.2 (cmp_iff x y)
end Go.Proofs.Ytjmeeiofoioojaa
