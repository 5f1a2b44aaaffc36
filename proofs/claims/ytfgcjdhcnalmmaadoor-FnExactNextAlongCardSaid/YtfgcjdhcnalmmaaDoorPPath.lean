/-
  Plain facts on paths: the text of a node's path; a text's node, looked for name by name.
-/
import Derived.Test.YtfgcjdhcnalmmaaDoorPTree
namespace Go.Proofs.YtfgcjdhcnalmmaaDoor

/-- the names from the first node's kid on down to the node -/
def nmN : Nat → List Nd → Nat → List (List UInt8)
  | 0, _, _ => []
  | f + 1, t, i => if i = 0 then [] else match t[i]? with
    | some x => nmN f t x.par.toNat ++ [x.name.data.toList]
    | none => []
def nmL (t : List Nd) (i : Nat) : List (List UInt8) := nmN i t i
theorem nmN_fuel {t : List Nd} (h : OkTo t t.length) : ∀ (f g i : Nat), i < t.length → i ≤ f → i ≤ g → nmN f t i = nmN g t i := by
  intro f
  induction f with
  | zero =>
    intro g i _ h1 _
    obtain rfl : i = 0 := by omega
    cases g <;> simp [nmN]
  | succ f ih =>
    intro g i hi h1 h2
    cases g with
    | zero =>
      obtain rfl : i = 0 := by omega
      simp [nmN]
    | succ g =>
      simp only [nmN, List.getElem?_eq_getElem hi]
      split
      · rfl
      · rename_i h0
        have := h.par hi hi (by omega)
        rw [ih g t[i].par.toNat (by omega) (by omega) (by omega)]
theorem nmL_zero (t : List Nd) : nmL t 0 = [] := rfl
theorem nmL_step {t : List Nd} (h : OkTo t t.length) {i p : Nat} (hi : i < t.length) (h0 : 0 < i) (hp : t[i].par = (p : Int)) : nmL t i = nmL t p ++ [t[i].name.data.toList] := by
  have h2 := h.par hi hi h0
  obtain ⟨n, rfl⟩ : ∃ n, i = n + 1 := ⟨i - 1, by omega⟩
  unfold nmL
  rw [nmN, if_neg (by omega)]
  simp only [List.getElem?_eq_getElem hi, hp, Int.toNat_natCast]
  rw [nmN_fuel h n p p (by omega) (by omega) (by omega)]
def glue (ns : List (List UInt8)) : List UInt8 := ns.flatMap fun n => 47 :: n
theorem glue_snoc (ns : List (List UInt8)) (n : List UInt8) : glue (ns ++ [n]) = glue ns ++ 47 :: n := by simp [glue]
/-- the text of a node's path -/
def txtL (t : List Nd) (i : Nat) : List UInt8 := if i = 0 then [47] else glue (nmL t i)
/-- the parts of a text between its strokes -/
def parts : List UInt8 → List (List UInt8)
  | [] => [[]]
  | c :: r => if c = 47 then [] :: parts r else match parts r with
    | [] => [[c]]
    | p :: ps => (c :: p) :: ps
theorem parts_ne (r : List UInt8) : parts r ≠ [] := by
  cases r with
  | nil => simp [parts]
  | cons c r =>
    rw [parts]
    split
    · simp
    · split <;> simp
theorem glue_parts : ∀ (r : List UInt8), glue (parts r) = 47 :: r
  | [] => rfl
  | c :: r => by
    have ih := glue_parts r
    rw [parts]
    split
    · rename_i h
      subst h
      show glue ([] :: parts r) = _
      rw [glue, List.flatMap_cons]
      show [47] ++ glue (parts r) = _
      rw [ih]; rfl
    · cases hp : parts r with
      | nil => exact absurd hp (parts_ne r)
      | cons p ps =>
        rw [hp] at ih
        simp only [glue, List.flatMap_cons, List.cons_append, List.cons.injEq, true_and] at ih ⊢
        rw [ih]
theorem parts_app : ∀ (n r : List UInt8), (∀ c ∈ n, c ≠ 47) → parts (n ++ 47 :: r) = n :: parts r
  | [], r, _ => by simp [parts]
  | c :: n, r, h => by
    rw [List.cons_append, parts, if_neg (h c (by simp)), parts_app n r (fun x hx => h x (by simp [hx]))]
theorem parts_one : ∀ (n : List UInt8), (∀ c ∈ n, c ≠ 47) → parts n = [n]
  | [], _ => rfl
  | c :: n, h => by
    rw [parts, if_neg (h c (by simp)), parts_one n (fun x hx => h x (by simp [hx]))]
theorem parts_glue : ∀ (ns : List (List UInt8)), ns ≠ [] → (∀ n ∈ ns, ∀ c ∈ n, c ≠ 47) → ∀ r, glue ns = 47 :: r → parts r = ns
  | [], h, _, _, _ => absurd rfl h
  | [n], _, h, r, e => by
    simp [glue] at e
    subst e
    exact parts_one n (h n (by simp))
  | n :: m :: ns, _, h, r, e => by
    have e2 : r = n ++ 47 :: (m ++ glue ns) := by
      have : glue (n :: m :: ns) = 47 :: (n ++ 47 :: (m ++ glue ns)) := by simp [glue]
      rw [this] at e
      injection e with _ e
      exact e.symm
    rw [e2, parts_app n _ (h n (by simp)), parts_glue (m :: ns) (by simp) (fun k hk => h k (by simp [hk])) (m ++ glue ns) (by simp [glue])]
/-- the node that names lead to -/
def resP (t : List Nd) : Int → List (List UInt8) → Int
  | a, [] => a
  | a, n :: ns => if kidL t a ⟨n.toArray⟩ < 0 then -1 else resP t (kidL t a ⟨n.toArray⟩) ns
def resL (t : List Nd) : List UInt8 → Int
  | [] => -1
  | c :: r => if c = 47 then (if r = [] then 0 else resP t 0 (parts r)) else -1
theorem toList_inj {a b : ByteArray} (h : a.toList = b.toList) : a = b := by
  rw [ByteArray.toList_eq, ByteArray.toList_eq] at h
  exact Go.WideShapes.bytes_inj h
theorem isK_iff {a : Int} {n : ByteArray} {x : Nd} : isK a n x = true ↔ x.par = a ∧ x.name = n := by
  simp only [isK, Bool.and_eq_true, beq_iff_eq]
  exact ⟨fun h => ⟨h.1, toList_inj h.2⟩, fun h => ⟨h.1, by rw [h.2]⟩⟩
theorem kidL_cases (t : List Nd) (a : Int) (n : ByteArray) : (kidL t a n = -1 ∧ ∀ k (hk : k < t.length), isK a n t[k] = false) ∨
    ∃ (i : Nat) (hi : i < t.length), kidL t a n = (i : Int) ∧ isK a n t[i] = true ∧ ∀ k (hk : k < i), isK a n (t[k]'(by omega)) = false := by
  cases h : t.findIdx? (isK a n) with
  | none =>
    refine .inl ⟨by simp [kidL, h], fun k hk => ?_⟩
    rw [List.findIdx?_eq_none_iff] at h
    exact h _ (List.getElem_mem hk)
  | some i =>
    rw [List.findIdx?_eq_some_iff_getElem] at h
    obtain ⟨hi, h1, h2⟩ := h
    have h3 : t.findIdx? (isK a n) = some i := List.findIdx?_eq_some_iff_getElem.2 ⟨hi, h1, h2⟩
    exact .inr ⟨i, hi, by simp [kidL, h3], h1, fun k hk => by simpa using h2 k hk⟩
/-- a node is its parent's kid by its name -/
theorem kid_self {t : List Nd} (h : OkTo t t.length) {i : Nat} (hi : i < t.length) (h0 : 0 < i) : kidL t t[i].par t[i].name = (i : Int) := by
  have hn := h i hi hi
  have h1 : kidL (t.take i) t[i].par t[i].name < 0 := by
    simp [nodeOk, show i ≠ 0 by omega] at hn; exact hn.2.1.2
  refine kidL_some hi (isK_iff.2 ⟨rfl, rfl⟩) fun k hk => ?_
  rcases kidL_cases (t.take i) t[i].par t[i].name with ⟨_, h2⟩ | ⟨j, _, h2, _⟩
  · have := h2 k (by simp; omega)
    rwa [List.getElem_take] at this
  · omega
theorem back (n : ByteArray) : (⟨n.data.toList.toArray⟩ : ByteArray) = n := by simp
theorem resP_snoc (t : List Nd) : ∀ (ns : List (List UInt8)) (a : Int) (n : List UInt8), 0 ≤ a → resP t a (ns ++ [n]) = if resP t a ns < 0 then -1 else kidL t (resP t a ns) ⟨n.toArray⟩
  | [], a, n, ha => by
    show (if kidL t a ⟨n.toArray⟩ < 0 then -1 else kidL t a ⟨n.toArray⟩) = if a < 0 then -1 else kidL t a ⟨n.toArray⟩
    rw [if_neg (show ¬ a < 0 by omega)]
    split
    · rcases kidL_cases t a ⟨n.toArray⟩ with ⟨h, _⟩ | ⟨i, _, h, _⟩
      · rw [h]
      · omega
    · rfl
  | m :: ns, a, n, ha => by
    simp only [List.cons_append, resP]
    split
    · rfl
    · rename_i h
      exact resP_snoc t ns _ n (by omega)
theorem res_path {t : List Nd} (h : OkTo t t.length) : ∀ (i : Nat), i < t.length → resP t 0 (nmL t i) = (i : Int) := by
  intro i
  induction i using Nat.strongRecOn with
  | _ i ih =>
    intro hi
    rcases Nat.eq_zero_or_pos i with e | e
    · subst e; rfl
    · obtain ⟨p, hp, hlt⟩ := h.parN hi e
      rw [nmL_step h hi e hp, resP_snoc t _ 0 _ (by omega), ih p hlt (by omega), if_neg (by omega), back, ← hp]
      exact kid_self h hi e
theorem path_res {t : List Nd} (h : OkTo t t.length) : ∀ (ns : List (List UInt8)) (a j : Nat), a < t.length → resP t (a : Int) ns = (j : Int) → j < t.length ∧ nmL t j = nmL t a ++ ns
  | [], a, j, ha, e => by
    simp [resP] at e
    have : a = j := by omega
    subst this
    exact ⟨ha, by simp⟩
  | n :: ns, a, j, ha, e => by
    rw [resP] at e
    split at e
    · omega
    · rename_i hk
      rcases kidL_cases t (a : Int) ⟨n.toArray⟩ with ⟨h1, _⟩ | ⟨i, hi, h1, h2, _⟩
      · omega
      · rw [h1] at e
        rw [isK_iff] at h2
        have h0 : 0 < i := by
          rcases Nat.eq_zero_or_pos i with e0 | e0
          · subst e0
            have := h.root (by omega) hi
            omega
          · exact e0
        obtain ⟨h3, h4⟩ := path_res h ns i j hi e
        refine ⟨h3, ?_⟩
        rw [h4, nmL_step h hi h0 h2.1, h2.2, List.append_assoc]
        rfl
theorem nm_clean {t : List Nd} (h : OkTo t t.length) : ∀ (i : Nat), i < t.length → ∀ n ∈ nmL t i, ∀ c ∈ n, c ≠ 47 := by
  intro i
  induction i using Nat.strongRecOn with
  | _ i ih =>
    intro hi n hn c hc e
    rcases Nat.eq_zero_or_pos i with e0 | e0
    · subst e0; simp [nmL_zero] at hn
    · obtain ⟨p, hp, hlt⟩ := h.parN hi e0
      rw [nmL_step h hi e0 hp] at hn
      rcases List.mem_append.1 hn with hn | hn
      · exact ih p hlt (by omega) n hn c hc e
      · simp at hn
        subst hn
        have := nodeOk_name e0 (h i hi hi)
        simp only [nameOk, Bool.and_eq_true, List.all_eq_true] at this
        have := this.1 c hc
        subst e
        simp [letter, inR] at this
theorem nm_ne {t : List Nd} (h : OkTo t t.length) {i : Nat} (hi : i < t.length) (h0 : 0 < i) : nmL t i ≠ [] := by
  obtain ⟨p, hp, hlt⟩ := h.parN hi h0
  rw [nmL_step h hi h0 hp]; simp
theorem txt_iff {t : List Nd} (h : OkTo t t.length) {i : Nat} (hi : i < t.length) (s : List UInt8) : txtL t i = s ↔ resL t s = (i : Int) := by
  unfold txtL
  constructor
  · intro e
    split at e
    · rename_i h0
      subst h0 e
      rfl
    · rename_i h0
      have hne := nm_ne h hi (by omega)
      cases hs : s with
      | nil =>
        rw [hs] at e
        cases hm : nmL t i with
        | nil => exact absurd hm hne
        | cons n ns => rw [hm] at e; simp [glue] at e
      | cons c r =>
        rw [hs] at e
        have hc : c = 47 := by
          cases hm : nmL t i with
          | nil => exact absurd hm hne
          | cons n ns => rw [hm] at e; simp [glue] at e; exact e.1.symm
        subst hc
        have hp := parts_glue _ hne (nm_clean h i hi) r e
        have hr : r ≠ [] := by
          intro e0
          subst e0
          rw [parts] at hp
          have h1 := nodeOk_name (by omega) (h i hi hi)
          obtain ⟨p, hp2, hlt⟩ := h.parN hi (by omega : 0 < i)
          rw [nmL_step h hi (by omega) hp2] at hp
          have h2 : nmL t p = [] := by
            cases hm : nmL t p with
            | nil => rfl
            | cons a b => rw [hm] at hp; have := congrArg List.length hp; simp at this
          rw [h2] at hp
          have h5 : t[i].name.data.toList = [] := (List.cons.inj hp).1.symm
          simp only [nameOk, Bool.and_eq_true, inR, decide_eq_true_eq] at h1
          have h3 : t[i].name.data.toList.length = t[i].name.data.size := Array.length_toList
          rw [h5] at h3
          have h4 : t[i].name.size = 0 := h3.symm
          omega
        rw [resL, if_pos rfl, if_neg hr, hp]
        exact res_path h i hi
  · intro e
    cases s with
    | nil => simp [resL] at e
    | cons c r =>
      rw [resL] at e
      split at e
      · rename_i hc
        subst hc
        split at e
        · rename_i hr
          subst hr
          have : i = 0 := by omega
          rw [if_pos this]
        · rename_i hr
          obtain ⟨_, h2⟩ := path_res h (parts r) 0 i (by omega) e
          rw [nmL_zero, List.nil_append] at h2
          rw [if_neg, h2, glue_parts]
          intro e0
          subst e0
          rw [nmL_zero] at h2
          exact parts_ne r h2.symm
      · omega
/-- the reference's search: the first node with a path's text -/
theorem resL_bd {t : List Nd} (ht : 0 < t.length) (s : List UInt8) : resL t s = -1 ∨ ∃ i : Nat, i < t.length ∧ resL t s = (i : Int) := by
  cases s with
  | nil => exact .inl rfl
  | cons c r =>
    rw [resL]
    split
    · split
      · exact .inr ⟨0, ht, rfl⟩
      · have key : ∀ (ns : List (List UInt8)) (a : Nat), a < t.length → resP t (a : Int) ns = -1 ∨ ∃ i : Nat, i < t.length ∧ resP t (a : Int) ns = (i : Int) := by
          intro ns
          induction ns with
          | nil => intro a ha; exact .inr ⟨a, ha, rfl⟩
          | cons n ns ih =>
            intro a ha
            rw [resP]
            rcases kidL_cases t (a : Int) ⟨n.toArray⟩ with ⟨h1, _⟩ | ⟨i, hi, h1, _⟩
            · rw [h1]; exact .inl rfl
            · rw [h1, if_neg (by omega)]; exact ih i hi
        exact key (parts r) 0 ht
    · exact .inl rfl
end Go.Proofs.YtfgcjdhcnalmmaaDoor
