/-
  Plain facts on serial orders.
-/
import Derived.Test.YtbbnibjnjmmmnaaConf3
namespace Go.Proofs.Ytbbnibjnjmmmnaa

/-- a transaction has an access -/
def tkI (h : List Acc) (t : Int) : Bool := h.any fun x => x.who == t
def tk (h : List Acc) (t : Nat) : Bool := tkI h (t : Int)
theorem fol_tk {h : List Acc} {a b : Nat} (hf : folS h a b = true) : tk h a = true := by
  simp only [folS, folB, Bool.and_eq_true, decide_eq_true_eq] at hf
  obtain ⟨i, k, x, y, _, h1, _, h2⟩ := hf.2
  simp only [pairB, Bool.and_eq_true] at h2
  unfold tk tkI
  rw [List.any_eq_true]
  obtain ⟨hi, rfl⟩ := List.getElem?_eq_some_iff.1 h1
  exact ⟨h[i], List.getElem_mem hi, h2.1.1⟩
/-- t can come next, as far as those below k are asked -/
noncomputable def frK (h : List Acc) (out : List Int) (t : Nat) : Nat → Bool
  | 0 => tk h t && !hasI out (t : Int)
  | k + 1 => frK h out t k && (hasI out (k : Int) || !folS h k t)
/-- the first below k that meets a test, -1 if none does -/
def nxU (p : Nat → Bool) : Nat → Int
  | 0 => -1
  | k + 1 => if nxU p k < 0 then (if p k then (k : Int) else -1) else nxU p k
/-- the same, looked for downwards from 3 -/
def ndN (p : Nat → Bool) : Nat → Int
  | 0 => -1
  | j + 1 => if p (3 - j) then ((3 - j : Nat) : Int) else ndN p j
theorem nd_nx (p : Nat → Bool) : ndN p 4 = nxU p 4 := by
  simp only [ndN, nxU]
  cases p 0 <;> cases p 1 <;> cases p 2 <;> cases p 3 <;> simp
theorem nxU_bd (p : Nat → Bool) : ∀ k, nxU p k = -1 ∨ ∃ t : Nat, t < k ∧ nxU p k = (t : Int) ∧ p t = true
  | 0 => .inl rfl
  | k + 1 => by
    rw [nxU]
    rcases nxU_bd p k with h | ⟨t, h1, h2, h3⟩
    · rw [h, if_pos (by omega)]
      split
      · rename_i hp; exact .inr ⟨k, by omega, rfl, hp⟩
      · exact .inl rfl
    · rw [h2, if_neg (by omega)]; exact .inr ⟨t, by omega, rfl, h3⟩
theorem nxU_stop {p : Nat → Bool} {k : Nat} (h : ¬ nxU p k < 0) : nxU p (k + 1) = nxU p k := by rw [nxU, if_neg h]
theorem nxU_stop4 {p : Nat → Bool} {k : Nat} (hk : k ≤ 4) (h : ¬ nxU p k < 0) : nxU p 4 = nxU p k := by
  rcases (by omega : k = 0 ∨ k = 1 ∨ k = 2 ∨ k = 3 ∨ k = 4) with rfl | rfl | rfl | rfl | rfl
  · simp [nxU] at h
  · have h1 := nxU_stop h; have h2 := nxU_stop (p := p) (k := 2) (by rw [h1]; exact h); have h3 := nxU_stop (p := p) (k := 3) (by rw [h2, h1]; exact h); rw [h3, h2, h1]
  · have h2 := nxU_stop h; have h3 := nxU_stop (p := p) (k := 3) (by rw [h2]; exact h); rw [h3, h2]
  · exact nxU_stop h
  · rfl
theorem nxU_neg {p : Nat → Bool} {k : Nat} (h : nxU p k < 0) : nxU p (k + 1) = if p k then (k : Int) else -1 := by rw [nxU, if_pos h]
theorem nxU_none {p : Nat → Bool} (h : ∀ t, t < 4 → p t = false) : nxU p 4 = -1 := by
  simp [nxU, h 0, h 1, h 2, h 3]
theorem nxU_congr {p q : Nat → Bool} : ∀ {k : Nat}, (∀ t, t < k → p t = q t) → nxU p k = nxU q k
  | 0, _ => rfl
  | k + 1, h => by rw [nxU, nxU, nxU_congr (fun t ht => h t (by omega)), h k (by omega)]
noncomputable def frP (h : List Acc) (out : List Int) (t : Nat) : Bool := frK h out t 4
theorem frP_iff {h : List Acc} {out : List Int} {t : Nat} : frP h out t = true ↔ (tk h t = true ∧ hasI out (t : Int) = false) ∧ ∀ a : Nat, a < 4 → hasI out (a : Int) = true ∨ folS h a t = false := by
  unfold frP
  simp only [frK, Bool.and_eq_true, Bool.or_eq_true, Bool.not_eq_true']
  constructor
  · rintro ⟨⟨⟨⟨h0, h1⟩, h2⟩, h3⟩, h4⟩
    refine ⟨h0, fun a ha => ?_⟩
    rcases (by omega : a = 0 ∨ a = 1 ∨ a = 2 ∨ a = 3) with rfl | rfl | rfl | rfl
    · exact h1
    · exact h2
    · exact h3
    · exact h4
  · rintro ⟨h0, h1⟩
    exact ⟨⟨⟨⟨h0, h1 0 (by omega)⟩, h1 1 (by omega)⟩, h1 2 (by omega)⟩, h1 3 (by omega)⟩
noncomputable def serN (h : List Acc) : Nat → List Int → List Int
  | 0, out => out
  | n + 1, out => if nxU (frP h out) 4 < 0 then out else serN h n (out ++ [nxU (frP h out) 4])
/-- the transactions in an order, as many as can be -/
noncomputable def serL (h : List Acc) : List Int := serN h 5 []
/-- all take part in it -/
noncomputable def serOk (h : List Acc) : Bool := (List.range 4).all fun t => !(tk h t && !hasI (serL h) (t : Int))
theorem serOk_iff {h : List Acc} : serOk h = true ↔ ∀ t, t < 4 → tk h t = true → hasI (serL h) (t : Int) = true := by
  unfold serOk
  rw [List.all_eq_true]
  constructor
  · intro h1 t ht h2
    have := h1 t (List.mem_range.2 ht)
    simpa [h2] using this
  · intro h1 t ht
    cases h2 : tk h t
    · simp
    · simp [h1 t (List.mem_range.1 ht) h2]
noncomputable def serR (h : List Acc) : List Int := if validAcc h && serOk h then serL h else []
noncomputable def serB (h : List Acc) : Bool := validAcc h && serOk h
structure SInv (h : List Acc) (out : List Int) : Prop where
  nodup : out.Nodup
  range : ∀ t, t ∈ out → 0 ≤ t ∧ t ≤ 3
  eq : serL h = serN h (5 - out.length) out
theorem nodup_len' : ∀ (l m : List Int), l.Nodup → (∀ x, x ∈ l → x ∈ m) → l.length ≤ m.length
  | [], _, _, _ => Nat.zero_le _
  | x :: l, m, nd, h => by
    rw [List.nodup_cons] at nd
    have hx := h x (by simp)
    have := nodup_len' l (m.erase x) nd.2 (fun y hy => by
      have hne : y ≠ x := fun e => by subst e; exact nd.1 hy
      exact (List.mem_erase_of_ne hne).2 (h y (by simp [hy])))
    rw [List.length_erase_of_mem hx] at this
    have hp : 0 < m.length := List.length_pos_of_mem hx
    simp only [List.length_cons]
    omega
theorem SInv.len {h : List Acc} {out : List Int} (hi : SInv h out) : out.length ≤ 4 :=
  nodup_len' out [0, 1, 2, 3] hi.nodup fun t ht => by
    have := hi.range t ht
    simp
    omega
theorem SInv.start (h : List Acc) : SInv h [] := ⟨by simp, by simp, rfl⟩
theorem SInv.next {h : List Acc} {out : List Int} (hi : SInv h out) (hn : ¬ nxU (frP h out) 4 < 0) : SInv h (out ++ [nxU (frP h out) 4]) ∧ ∃ t : Nat, t < 4 ∧ nxU (frP h out) 4 = (t : Int) ∧ hasI out (t : Int) = false := by
  rcases nxU_bd (frP h out) 4 with h1 | ⟨t, h1, h2, h3⟩
  · omega
  · have h4 := (frP_iff.1 h3).1.2
    refine ⟨⟨?_, fun x hx => ?_, ?_⟩, t, h1, h2, h4⟩
    · rw [List.nodup_append]
      refine ⟨hi.nodup, by simp, fun y hy z hz => ?_⟩
      simp at hz
      subst hz
      rw [h2]
      intro e
      subst e
      exact hasI_not.1 h4 hy
    · rcases List.mem_append.1 hx with hx | hx
      · exact hi.range x hx
      · simp at hx; omega
    · have hl := hi.len
      rw [hi.eq, show 5 - out.length = (5 - (out ++ [nxU (frP h out) 4]).length) + 1 by simp; omega, serN, if_neg hn]
theorem SInv.fin {h : List Acc} {out : List Int} (hi : SInv h out) (hn : nxU (frP h out) 4 < 0) : serL h = out := by
  have hl := hi.len
  rw [hi.eq, show 5 - out.length = (4 - out.length) + 1 by omega, serN, if_pos hn]
/-- those that are left, as the program keeps them -/
def lf (h : List Acc) (out : List Int) (t : Nat) : Bool := tk h t && !hasI out (t : Int)
/-- must t come behind one of a set? -/
noncomputable def bh (h : List Acc) (out : List Int) (t : Nat) : Nat → Bool
  | 0 => false
  | k + 1 => bh h out t k || (lf h out k && folS h k t)
noncomputable def imP (h : List Acc) (out : List Int) (t : Nat) : Bool := lf h out t && !(bh h out t 4)
theorem im_fr (h : List Acc) (out : List Int) (t : Nat) : imP h out t = frP h out t := by
  have key : ∀ a : Nat, (lf h out a && folS h a t) = (!(hasI out (a : Int) || !folS h a t)) := by
    intro a
    cases h1 : folS h a t
    · simp
    · have h2 := fol_tk h1
      simp [lf, h2]
  unfold imP frP
  simp only [frK, bh, key]
  unfold lf
  cases tk h t <;> cases hasI out (t : Int) <;> cases (hasI out ((0 : Nat) : Int) || !folS h 0 t) <;> cases (hasI out ((1 : Nat) : Int) || !folS h 1 t) <;> cases (hasI out ((2 : Nat) : Int) || !folS h 2 t) <;> cases (hasI out ((3 : Nat) : Int) || !folS h 3 t) <;> rfl
theorem left_none {h : List Acc} {out : List Int} (hi : SInv h out) (hz : (bit4 (lf h out) == 0) = true) : serL h = out ∧ serOk h = true := by
  rw [bit4_zero] at hz
  simp only [Bool.not_eq_true', Bool.or_eq_false_iff] at hz
  have hall : ∀ t, t < 4 → lf h out t = false := by
    intro t ht
    rcases (by omega : t = 0 ∨ t = 1 ∨ t = 2 ∨ t = 3) with rfl | rfl | rfl | rfl
    · exact hz.1.1.1
    · exact hz.1.1.2
    · exact hz.1.2
    · exact hz.2
  have hn : nxU (frP h out) 4 = -1 := nxU_none fun t ht => by
    rw [← im_fr, imP, hall t ht]; rfl
  have hs := hi.fin (by omega)
  refine ⟨hs, serOk_iff.2 fun t ht h1 => ?_⟩
  have := hall t ht
  rw [hs]
  simpa [lf, h1] using this
theorem left_some {h : List Acc} {out : List Int} (hi : SInv h out) (hz : (bit4 (lf h out) == 0) = false) (hn : nxU (frP h out) 4 < 0) : serOk h = false := by
  have hs := hi.fin hn
  rw [Bool.eq_false_iff]
  intro h1
  rw [serOk_iff] at h1
  rw [hs] at h1
  have hall : ∀ t, t < 4 → lf h out t = false := by
    intro t ht
    cases h2 : tk h t
    · simp [lf, h2]
    · simp [lf, h1 t ht h2]
  rw [bit4_zero] at hz
  simp [hall 0, hall 1, hall 2, hall 3] at hz
theorem serR_len (h : List Acc) : (serR h).length ≤ 5 := by
  have key : ∀ (n : Nat) (out : List Int), (serN h n out).length ≤ out.length + n := by
    intro n
    induction n with
    | zero => intro out; simp [serN]
    | succ n ih =>
      intro out
      rw [serN]
      split
      · omega
      · have := ih (out ++ [nxU (frP h out) 4]); simp at this; omega
  unfold serR
  split
  · simpa [serL] using key 5 []
  · simp
end Go.Proofs.Ytbbnibjnjmmmnaa
