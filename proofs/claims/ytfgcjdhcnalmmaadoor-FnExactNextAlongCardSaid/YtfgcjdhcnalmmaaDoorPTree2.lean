/-
  Plain facts on trees: what a call answers, the first node's kids, the nodes above two nodes, a tree without a node, a tree with another value.
-/
import Derived.Test.YtfgcjdhcnalmmaaDoorPTree
namespace Go.Proofs.YtfgcjdhcnalmmaaDoor

def atOk (t : List Nd) (a : Int) : Bool := inR a 0 ((t.length : Int) - 1)
theorem atOk_iff {t : List Nd} {a : Int} : atOk t a = true ↔ 0 ≤ a ∧ a < (t.length : Int) := by simp [atOk, inR]; omega
theorem atOk_nat {t : List Nd} {a : Int} (h : atOk t a = true) : ∃ k : Nat, a = (k : Int) ∧ k < t.length := ⟨a.toNat, by have := atOk_iff.1 h; omega, by have := atOk_iff.1 h; omega⟩
/-- is there such a node in a valid tree? -/
noncomputable def nodeB (t : List Nd) (a : Int) : Bool := treeOk t && atOk t a
theorem nodeB_iff {t : List Nd} {a : Int} : nodeB t a = true ↔ treeOk t = true ∧ atOk t a = true := by simp [nodeB]
theorem nodeB_bad {t : List Nd} {a : Int} (h : treeOk t = false) : nodeB t a = false := by simp [nodeB, h]
theorem nodeB_out {t : List Nd} {a : Int} (h : atOk t a = false) : nodeB t a = false := by simp [nodeB, h]
noncomputable def kidF (t : List Nd) (a : Int) (name : ByteArray) : Int := if nodeB t a = true then kidL t a name else -1
noncomputable def isAbvF (t : List Nd) (a low : Int) : Bool := (nodeB t a && nodeB t low) && abv t a.toNat low.toNat

theorem abv_self (t : List Nd) (a : Nat) : abv t a a = true := by rw [abv_stop t (Nat.le_refl _)]; simp
theorem abv_le {t : List Nd} (h : OkTo t t.length) {a i : Nat} (hi : i < t.length) (h2 : abv t a i = true) : a ≤ i := upL_le h i hi a ((abv_up h a i hi).1 h2)
theorem abv_zero {t : List Nd} (h : OkTo t t.length) : ∀ (i : Nat), i < t.length → abv t 0 i = true := by
  intro i
  induction i using Nat.strongRecOn with
  | _ i ih =>
    intro hi
    rcases Nat.eq_zero_or_pos i with e | e
    · subst e; exact abv_self t 0
    · obtain ⟨p, hp, hlt⟩ := h.parN hi e
      rw [abv_step h hi e hp]; exact ih p hlt (by omega)
/-- the nodes above one node lie one above the other -/
theorem abv_chain {t : List Nd} (h : OkTo t t.length) {n c : Nat} (hnc : n ≤ c) : ∀ (i : Nat), i < t.length → abv t n i = true → abv t c i = true → abv t n c = true := by
  intro i
  induction i using Nat.strongRecOn with
  | _ i ih =>
    intro hi h1 h2
    rcases Nat.eq_or_lt_of_le (abv_le h hi h2) with e | e
    · subst e; exact h1
    · obtain ⟨p, hp, hlt⟩ := h.parN hi (by omega)
      rw [abv_step h hi (by omega) hp] at h1
      rw [abv_step h hi e hp] at h2
      exact ih p hlt (by omega) h1 h2

/-- the greatest node, none greater than k, that is above two nodes -/
def meetN (t : List Nd) (a b : Nat) : Nat → Nat
  | 0 => 0
  | n + 1 => if abv t (n + 1) a && abv t (n + 1) b then n + 1 else meetN t a b n
theorem meetN_of {t : List Nd} {a b m : Nat} (hm : abv t m a = true) (hm2 : abv t m b = true) : ∀ (k : Nat), m ≤ k → (∀ n, n ≤ k → abv t n a = true → abv t n b = true → n ≤ m) → meetN t a b k = m
  | 0, hk, _ => by simp [meetN]; omega
  | k + 1, hk, hall => by
    rw [meetN]
    rcases Nat.eq_or_lt_of_le hk with e | e
    · subst e; rw [hm, hm2]; rfl
    · rw [if_neg, meetN_of hm hm2 k (by omega) fun n hn => hall n (by omega)]
      intro h2
      rw [Bool.and_eq_true] at h2
      have := hall (k + 1) (Nat.le_refl _) h2.1 h2.2
      omega
noncomputable def meetF (t : List Nd) (a b : Int) : Int := if (nodeB t a && nodeB t b) = true then (meetN t a.toNat b.toNat (t.length - 1) : Int) else -1
/-- a node above a, below which no node is above both -/
def MeetTo (t : List Nd) (a b c : Nat) : Prop := c < t.length ∧ abv t c a = true ∧ ∀ n, n < t.length → abv t n a = true → abv t n b = true → n ≤ c
theorem MeetTo.start {t : List Nd} (h : OkTo t t.length) {a b : Nat} (ha : a < t.length) : MeetTo t a b a := ⟨ha, abv_self t a, fun _ _ h1 _ => abv_le h ha h1⟩
theorem MeetTo.stop {t : List Nd} {a b c : Nat} (h : MeetTo t a b c) (hb : abv t c b = true) : meetN t a b (t.length - 1) = c :=
  meetN_of h.2.1 hb _ (by have := h.1; omega) fun n hn h1 h2 => h.2.2 n (by have := h.1; omega) h1 h2
theorem MeetTo.pos {t : List Nd} (h : OkTo t t.length) {b c : Nat} (hb : b < t.length) (hn : abv t c b = false) : 0 < c := by
  rcases Nat.eq_zero_or_pos c with e | e
  · subst e; rw [abv_zero h b hb] at hn; cases hn
  · exact e
theorem MeetTo.next {t : List Nd} (h : OkTo t t.length) {a b c p : Nat} (ha : a < t.length) (hm : MeetTo t a b c) (hn : abv t c b = false) (hp : (t[c]'(hm.1)).par = (p : Int)) (hlt : p < c) : MeetTo t a b p := by
  have hc := hm.1
  have hpc : abv t p c = true := by
    rw [abv_step h hc hlt hp]; exact abv_self t p
  have hup : ∀ n, n < c → abv t n c = true → n ≤ p := fun n hlt2 h2 => by
    rw [abv_step h hc hlt2 hp] at h2
    exact abv_le h (by omega) h2
  refine ⟨by omega, ?_, fun n hnl h1 h2 => ?_⟩
  · -- p is above a: it lies in the list of those above a
    have hmem := (abv_up h c a ha).1 hm.2.1
    have key : ∀ (i : Nat), i < t.length → abv t c i = true → abv t p i = true := by
      intro i
      induction i using Nat.strongRecOn with
      | _ i ih =>
        intro hi h3
        rcases Nat.eq_or_lt_of_le (abv_le h hi h3) with e | e
        · subst e; exact hpc
        · obtain ⟨q, hq, hlt3⟩ := h.parN hi (by omega)
          rw [abv_step h hi e hq] at h3
          rw [abv_step h hi (by omega) hq]
          exact ih q hlt3 (by omega) h3
    exact key a ha hm.2.1
  · have h3 := hm.2.2 n hnl h1 h2
    have hne : n ≠ c := fun e => by subst e; rw [hn] at h2; cases h2
    exact hup n (by omega) (abv_chain h h3 a ha h1 hm.2.1)

/-- a node with another value -/
def setV (t : List Nd) (i : Nat) (v : Int) : List Nd := match t[i]? with
  | some x => t.set i { x with val := v }
  | none => t
theorem setV_of {t : List Nd} {i : Nat} (hi : i < t.length) (v : Int) : setV t i v = t.set i { t[i] with val := v } := by
  unfold setV; rw [List.getElem?_eq_getElem hi]
theorem setV_len (t : List Nd) (i : Nat) (v : Int) : (setV t i v).length = t.length := by
  unfold setV; split <;> simp
noncomputable def setB (t : List Nd) (a v : Int) : Bool := nodeB t a && inR v (-1000) 1000
noncomputable def setR (t : List Nd) (a v : Int) : List Nd := if setB t a v = true then setV t a.toNat v else []
theorem treeOk_len {t : List Nd} (h : treeOk t = true) : 1 ≤ t.length ∧ t.length ≤ 12 := (treeOk_iff.1 h).2
theorem nodeB_len {t : List Nd} {a : Int} (h : nodeB t a = true) : 1 ≤ t.length ∧ t.length ≤ 12 := treeOk_len (nodeB_iff.1 h).1
theorem setR_len (t : List Nd) (a v : Int) : (setR t a v).length ≤ 12 := by
  unfold setR
  split
  · rename_i h
    simp only [setB, Bool.and_eq_true] at h
    rw [setV_len]; exact (nodeB_len h.1).2
  · simp

/-- a tree with a node more -/
noncomputable def addB (t : List Nd) (x : Nd) : Bool := treeOk t && treeOk (t ++ [x])
noncomputable def addR (t : List Nd) (x : Nd) : List Nd := if addB t x = true then t ++ [x] else []
noncomputable def addI (t : List Nd) (x : Nd) : Int := if addB t x = true then (t.length : Int) else -1
theorem addB_full {t : List Nd} {x : Nd} (h : t.length = 12) : addB t x = false := by
  simp only [addB, treeOk_long (show (t ++ [x]).length < 1 ∨ 12 < (t ++ [x]).length by simp; omega), Bool.and_false]
theorem addR_len (t : List Nd) (x : Nd) : (addR t x).length ≤ 12 := by
  unfold addR
  split
  · rename_i h
    simp only [addB, Bool.and_eq_true] at h
    exact (treeOk_len h.2).2
  · simp

/-- the nodes below k that are not below a node -/
def stay (t : List Nd) (a k : Nat) : List Nat := (List.range k).filter fun i => !abv t a i
def cnt (t : List Nd) (a k : Nat) : Nat := (stay t a k).length
theorem stay_yes {t : List Nd} {a k : Nat} (h : abv t a k = false) : stay t a (k + 1) = stay t a k ++ [k] := by simp [stay, List.range_succ, h]
theorem stay_no {t : List Nd} {a k : Nat} (h : abv t a k = true) : stay t a (k + 1) = stay t a k := by simp [stay, List.range_succ, h]
theorem cnt_le (t : List Nd) (a k : Nat) : cnt t a k ≤ k := by
  unfold cnt stay; exact Nat.le_trans (List.length_filter_le _ _) (by simp)
/-- the new number of a node that stays, 0 for the others, as far as k -/
def plc (t : List Nd) (a k i : Nat) : Int := if i < k ∧ abv t a i = false then (cnt t a i : Int) else 0
def plcL (t : List Nd) (a k : Nat) : List Int := (List.range t.length).map fun i => plc t a k i
theorem plcL_len (t : List Nd) (a k : Nat) : (plcL t a k).length = t.length := by simp [plcL]
theorem plcL_at {t : List Nd} {a k i : Nat} (hi : i < (plcL t a k).length) : (plcL t a k)[i] = plc t a k i := by simp [plcL]
theorem plcL_zero (t : List Nd) (a : Nat) : plcL t a 0 = List.replicate t.length 0 := by
  apply List.ext_getElem (by simp [plcL])
  intro i h1 h2
  rw [plcL_at]; simp [plc]
theorem plcL_yes {t : List Nd} {a k : Nat} (h : abv t a k = false) : plcL t a (k + 1) = (plcL t a k).set k (cnt t a k : Int) := by
  apply List.ext_getElem (by simp [plcL])
  intro i h1 h2
  rw [plcL_at, List.getElem_set]
  split
  · rename_i e; subst e; simp [plc, h]
  · rename_i e
    rw [plcL_at]
    unfold plc
    have : (i < k + 1) ↔ (i < k) := by omega
    simp only [this]
theorem plcL_no {t : List Nd} {a k : Nat} (h : abv t a k = true) : plcL t a (k + 1) = plcL t a k := by
  apply List.ext_getElem (by simp [plcL])
  intro i h1 h2
  rw [plcL_at, plcL_at]
  unfold plc
  by_cases e : i = k
  · subst e; simp [h]
  · have : (i < k + 1) ↔ (i < k) := by omega
    simp only [this]
/-- the node as it stands in the tree without another one -/
def rn (t : List Nd) (a i : Nat) (x : Nd) : Nd := if i = 0 then x else { x with par := plc t a i x.par.toNat }
def dropL (t : List Nd) (a k : Nat) : List Nd := (stay t a k).filterMap fun i => (t[i]?).map (rn t a i)
theorem dropL_zero (t : List Nd) (a : Nat) : dropL t a 0 = [] := rfl
theorem dropL_yes {t : List Nd} {a k : Nat} (hk : k < t.length) (h : abv t a k = false) : dropL t a (k + 1) = dropL t a k ++ [rn t a k t[k]] := by
  rw [dropL, stay_yes h, List.filterMap_append, ← dropL]; simp [hk]
theorem dropL_no {t : List Nd} {a k : Nat} (h : abv t a k = true) : dropL t a (k + 1) = dropL t a k := by
  rw [dropL, stay_no h, ← dropL]
theorem dropL_len {t : List Nd} {a : Nat} : ∀ (k : Nat), k ≤ t.length → (dropL t a k).length = cnt t a k
  | 0, _ => rfl
  | k + 1, hk => by
    have ih := dropL_len (t := t) (a := a) k (by omega)
    by_cases h : abv t a k = true
    · rw [dropL_no h, ih, cnt, cnt, stay_no h]
    · rw [Bool.not_eq_true] at h
      rw [dropL_yes (by omega) h, cnt, stay_yes h, List.length_append, List.length_append, ih, cnt]; rfl
noncomputable def dropB (t : List Nd) (a : Int) : Bool := nodeB t a && !(a == 0)
noncomputable def dropR (t : List Nd) (a : Int) : List Nd := if dropB t a = true then dropL t a.toNat t.length else []
theorem dropR_len (t : List Nd) (a : Int) : (dropR t a).length ≤ 12 := by
  unfold dropR
  split
  · rename_i h
    simp only [dropB, Bool.and_eq_true] at h
    rw [dropL_len _ (Nat.le_refl _)]
    exact Nat.le_trans (cnt_le _ _ _) (nodeB_len h.1).2
  · simp
noncomputable def pathF (t : List Nd) (a : Int) : List Int := if nodeB t a = true then pathL t a.toNat else []
theorem pathL_len {t : List Nd} (h : OkTo t t.length) {i : Nat} (hi : i < t.length) : (pathL t i).length ≤ 5 := by
  have := upL_len h i hi
  have := dep_le h hi
  simp [pathL]; omega
theorem pathF_len (t : List Nd) (a : Int) : (pathF t a).length ≤ 5 := by
  unfold pathF
  split
  · rename_i h
    have h1 := nodeB_iff.1 h
    exact pathL_len (treeOk_iff.1 h1.1).1 (by have := atOk_iff.1 h1.2; omega)
  · simp
end Go.Proofs.YtfgcjdhcnalmmaaDoor
