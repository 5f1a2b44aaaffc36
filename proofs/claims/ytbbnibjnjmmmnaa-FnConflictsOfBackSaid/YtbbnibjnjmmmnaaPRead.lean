/-
  Plain facts on serial orders of accesses that all read: nothing must follow, and the order ascends.
-/
import Derived.Test.YtbbnibjnjmmmnaaPSer
namespace Go.Proofs.Ytbbnibjnjmmmnaa
def readA (x : Acc) : Acc := ⟨x.who, x.node, false⟩
theorem read_snoc {ws : List Acc} {k : Nat} (hk : k < ws.length) : (ws.take (k + 1)).map readA = (ws.take k).map readA ++ [readA ws[k]] := by
  rw [List.take_succ_eq_append_getElem hk, List.map_append]; rfl
theorem read_ok (ws : List Acc) : validAcc (ws.map readA) = validAcc ws := by
  have h : ∀ x : Acc, accOk (readA x) = accOk x := fun _ => rfl
  simp only [validAcc, List.length_map, List.all_map, Function.comp_def, h]
theorem read_fol (ws : List Acc) (a b : Nat) : folS (ws.map readA) a b = false := by
  rw [Bool.eq_false_iff]
  intro hf
  simp only [folS, folB, Bool.and_eq_true, decide_eq_true_eq] at hf
  obtain ⟨i, k, x, y, _, h1, h3, h2⟩ := hf.2
  obtain ⟨hi, rfl⟩ := List.getElem?_eq_some_iff.1 h1
  obtain ⟨hk, rfl⟩ := List.getElem?_eq_some_iff.1 h3
  simp [pairB, readA] at h2
theorem read_frP (ws : List Acc) (out : List Int) (t : Nat) : frP (ws.map readA) out t = (tk (ws.map readA) t && !hasI out (t : Int)) := by
  unfold frP
  simp only [frK, read_fol, Bool.not_false, Bool.or_true, Bool.and_true]
def four (q0 q1 q2 q3 : Bool) : List Int := (if q0 then [0] else []) ++ ((if q1 then [1] else []) ++ ((if q2 then [2] else []) ++ (if q3 then [3] else [])))
def nxQ (q : Nat → Bool) (out : List Int) : Int := nxU (fun t => q t && !hasI out (t : Int)) 4
def serQ (q : Nat → Bool) : Nat → List Int → List Int
  | 0, out => out
  | n + 1, out => if nxQ q out < 0 then out else serQ q n (out ++ [nxQ q out])
theorem serN_Q (ws : List Acc) : ∀ (n : Nat) (out : List Int), serN (ws.map readA) n out = serQ (tk (ws.map readA)) n out
  | 0, _ => rfl
  | n + 1, out => by
    have e : nxU (frP (ws.map readA) out) 4 = nxQ (tk (ws.map readA)) out := nxU_congr fun t _ => read_frP ws out t
    rw [serN, serQ, e, serN_Q ws n]
def bq (q0 q1 q2 q3 : Bool) (t : Nat) : Bool := if t = 0 then q0 else if t = 1 then q1 else if t = 2 then q2 else q3
theorem nxQ_congr {q r : Nat → Bool} (h : ∀ t, t < 4 → q t = r t) (out : List Int) : nxQ q out = nxQ r out := nxU_congr fun t ht => by rw [h t ht]
theorem serQ_congr {q r : Nat → Bool} (h : ∀ t, t < 4 → q t = r t) : ∀ (n : Nat) (out : List Int), serQ q n out = serQ r n out
  | 0, _ => rfl
  | n + 1, out => by rw [serQ, serQ, nxQ_congr h, serQ_congr h n]
theorem serQ_four (q0 q1 q2 q3 : Bool) : serQ (bq q0 q1 q2 q3) 5 [] = four q0 q1 q2 q3 := by
  cases q0 <;> cases q1 <;> cases q2 <;> cases q3 <;> decide +kernel
theorem read_serL (ws : List Acc) : serL (ws.map readA) = four (tk (ws.map readA) 0) (tk (ws.map readA) 1) (tk (ws.map readA) 2) (tk (ws.map readA) 3) := by
  rw [← serQ_four, serL, serN_Q]
  refine serQ_congr (fun t ht => ?_) 5 []
  rcases (by omega : t = 0 ∨ t = 1 ∨ t = 2 ∨ t = 3) with rfl | rfl | rfl | rfl <;> rfl
theorem four_up (q0 q1 q2 q3 : Bool) : (four q0 q1 q2 q3).Pairwise (· < ·) := by
  cases q0 <;> cases q1 <;> cases q2 <;> cases q3 <;> decide
theorem read_serOk (ws : List Acc) : serOk (ws.map readA) = true := by
  rw [serOk_iff]
  intro t ht
  rw [read_serL]
  rcases (by omega : t = 0 ∨ t = 1 ∨ t = 2 ∨ t = 3) with rfl | rfl | rfl | rfl <;> intro h <;> rw [h] <;> simp [hasI, four]
/-- the order of accesses that all read ascends -/
theorem read_up (ws : List Acc) : (serR (ws.map readA)).Pairwise (· < ·) := by
  unfold serR
  split
  · rw [read_serL]; exact four_up _ _ _ _
  · exact List.Pairwise.nil
theorem read_serB {ws : List Acc} (h : validAcc ws = true) : serB (ws.map readA) = true := by
  rw [serB, read_ok, h, read_serOk]; rfl
end Go.Proofs.Ytbbnibjnjmmmnaa
