/-
  The words of the translation's head, read once: what the rows' closed facts ask of them. (Read by the kernel letter by letter at each fact they cost minutes and 10 GB over a head of sixteen names.)
-/
import Derived.Test.YtbbnibjnjmmmnaaProg
import Derived.JoinedOf
import GoSem.ClaimJoined
import GoSem.Claim
import Derived.KernelRfl
namespace Go.Proofs.Ytbbnibjnjmmmnaa
def joinC : List (List Char) → List Char
  | [] => []
  | [w] => w
  | w :: v :: r => w ++ Char.ofNat 32 :: joinC (v :: r)
theorem ws_word (a : List Char) (h : a.all (· != Char.ofNat 32) = true) : wordsSigns a = [a] := by
  induction a with
  | nil => rfl
  | cons c a ih =>
    simp only [List.all_cons, Bool.and_eq_true, bne_iff_ne] at h
    rw [wordsSigns.eq_def]
    split
    · simp_all
    · simp_all
    · rename_i c' r' _ e
      injection e with e1 e2
      subst e1 e2
      rw [ih h.2]
theorem ws_more (a b : List Char) (h : a.all (· != Char.ofNat 32) = true) : wordsSigns (a ++ Char.ofNat 32 :: b) = a :: wordsSigns b := by
  induction a with
  | nil => rfl
  | cons c a ih =>
    simp only [List.all_cons, Bool.and_eq_true, bne_iff_ne] at h
    rw [List.cons_append, wordsSigns.eq_def]
    split
    · simp_all
    · simp_all
    · rename_i c' r' _ e
      injection e with e1 e2
      subst e1 e2
      rw [ih h.2]
theorem ws_join : ∀ (ws : List (List Char)), ws ≠ [] → ws.all (fun a => a.all (· != Char.ofNat 32)) = true → wordsSigns (joinC ws) = ws
  | [], h, _ => absurd rfl h
  | [w], _, h => by simpa [joinC] using ws_word w (by simpa using h)
  | w :: v :: r, _, h => by
    simp only [List.all_cons, Bool.and_eq_true] at h
    rw [joinC, ws_more w _ h.1, ws_join (v :: r) (by simp) (by simpa using h.2)]
def ioWords : List (List Char) := ([[104, 97, 114, 110, 101, 115, 115], [49, 100, 52, 53, 53, 55, 101, 99, 55, 54, 56, 51, 50, 49, 49, 97, 54, 51, 100, 53, 56, 55, 99, 102, 56, 100, 97, 52, 56, 102, 52, 97, 50, 50, 55, 100, 56, 98, 48, 54, 48, 55, 99, 99, 48, 97, 53, 98, 54, 52, 100, 101, 55, 48, 53, 55, 52, 56, 97, 52, 57, 99, 53, 54], [99, 117, 116], [97, 116], [108, 111, 111, 112, 46, 101, 120, 97, 109, 112, 108, 101, 47, 116, 114, 101, 101, 108, 111, 99, 107, 115, 47, 108, 97, 119, 115, 46, 70, 110, 69, 120, 97, 99, 116, 67, 111, 110, 115, 116, 97, 110, 116, 115], [108, 111, 111, 112, 46, 101, 120, 97, 109, 112, 108, 101, 47, 116, 114, 101, 101, 108, 111, 99, 107, 115, 47, 108, 97, 119, 115, 46, 70, 110, 69, 120, 97, 99, 116, 78, 101, 101, 100, 65, 98, 111, 118, 101], [108, 111, 111, 112, 46, 101, 120, 97, 109, 112, 108, 101, 47, 116, 114, 101, 101, 108, 111, 99, 107, 115, 47, 108, 97, 119, 115, 46, 70, 110, 86, 97, 108, 105, 100, 65, 99, 99, 101, 115, 115, 101, 115], [108, 111, 111, 112, 46, 101, 120, 97, 109, 112, 108, 101, 47, 116, 114, 101, 101, 108, 111, 99, 107, 115, 47, 108, 97, 119, 115, 46, 70, 110, 69, 120, 97, 99, 116, 86, 97, 108, 105, 100, 65, 99, 99, 101, 115, 115, 101, 115], [108, 111, 111, 112, 46, 101, 120, 97, 109, 112, 108, 101, 47, 116, 114, 101, 101, 108, 111, 99, 107, 115, 47, 108, 97, 119, 115, 46, 70, 110, 86, 97, 108, 105, 100, 87, 97, 105, 116, 115], [108, 111, 111, 112, 46, 101, 120, 97, 109, 112, 108, 101, 47, 116, 114, 101, 101, 108, 111, 99, 107, 115, 47, 108, 97, 119, 115, 46, 70, 110, 86, 97, 108, 105, 100, 87, 97, 105, 116, 115, 76, 101, 115, 115], [108, 111, 111, 112, 46, 101, 120, 97, 109, 112, 108, 101, 47, 116, 114, 101, 101, 108, 111, 99, 107, 115, 47, 108, 97, 119, 115, 46, 70, 110, 69, 120, 97, 99, 116, 86, 97, 108, 105, 100, 87, 97, 105, 116, 115], [108, 111, 111, 112, 46, 101, 120, 97, 109, 112, 108, 101, 47, 116, 114, 101, 101, 108, 111, 99, 107, 115, 47, 108, 97, 119, 115, 46, 70, 110, 86, 97, 108, 105, 100, 65, 99, 99, 101, 115, 115, 101, 115, 82, 101, 97, 100, 115], [108, 111, 111, 112, 46, 101, 120, 97, 109, 112, 108, 101, 47, 116, 114, 101, 101, 108, 111, 99, 107, 115, 47, 108, 97, 119, 115, 46, 70, 110, 67, 111, 110, 102, 108, 105, 99, 116, 115, 79, 102], [108, 111, 111, 112, 46, 101, 120, 97, 109, 112, 108, 101, 47, 116, 114, 101, 101, 108, 111, 99, 107, 115, 47, 108, 97, 119, 115, 46, 70, 110, 67, 111, 110, 102, 108, 105, 99, 116, 115, 79, 102, 66, 97, 99, 107], [108, 111, 111, 112, 46, 101, 120, 97, 109, 112, 108, 101, 47, 116, 114, 101, 101, 108, 111, 99, 107, 115, 47, 108, 97, 119, 115, 46, 70, 110, 69, 120, 97, 99, 116, 67, 111, 110, 102, 108, 105, 99, 116, 115, 79, 102], [108, 111, 111, 112, 46, 101, 120, 97, 109, 112, 108, 101, 47, 116, 114, 101, 101, 108, 111, 99, 107, 115, 47, 108, 97, 119, 115, 46, 70, 110, 69, 120, 97, 99, 116, 83, 101, 114, 105, 97, 108, 79, 114, 100, 101, 114], [108, 111, 111, 112, 46, 101, 120, 97, 109, 112, 108, 101, 47, 116, 114, 101, 101, 108, 111, 99, 107, 115, 47, 108, 97, 119, 115, 46, 70, 110, 69, 120, 97, 99, 116, 87, 97, 105, 116, 115, 70, 111, 114], [108, 111, 111, 112, 46, 101, 120, 97, 109, 112, 108, 101, 47, 116, 114, 101, 101, 108, 111, 99, 107, 115, 47, 108, 97, 119, 115, 46, 70, 110, 69, 120, 97, 99, 116, 68, 101, 97, 100, 108, 111, 99, 107, 79, 102], [108, 111, 111, 112, 46, 101, 120, 97, 109, 112, 108, 101, 47, 116, 114, 101, 101, 108, 111, 99, 107, 115, 47, 108, 97, 119, 115, 46, 70, 110, 69, 120, 97, 99, 116, 86, 105, 99, 116, 105, 109, 115, 79, 102]] : List (List Nat)).map (·.map Char.ofNat)
set_option maxRecDepth 100000 in
theorem io : Try.prog.initOrder = String.ofList (joinC ioWords) := by kernel_rfl
theorem ioW : wordsSigns Try.prog.initOrder.toList = ioWords := by rw [io, String.toList_ofList]; exact ws_join _ (by simp [ioWords]) (by kernel_rfl)
def sumS : String := "1d4557ec7683211a63d587cf8da48f4a227d8b0607cc0a5b64de705748a49c56"
theorem ioT : ∃ tail, wordsSigns Try.prog.initOrder.toList = "harness".toList :: sumS.toList :: "cut".toList :: tail := ⟨_, ioW.trans (by kernel_rfl : ioWords = "harness".toList :: sumS.toList :: "cut".toList :: ioWords.drop 3)⟩
theorem sumOk : isSumSigns sumS.toList = true := by kernel_rfl
theorem behind_t (s : List Char) (hs : isSumSigns s = true) (tail : List (List Char)) : behindMainWord ("harness".toList :: s :: "cut".toList :: tail) = "cut".toList :: tail := by
  simp only [behindMainWord, hs, Bool.and_true]
  rw [if_pos (by simp)]
theorem strip_t (tail : List (List Char)) : stripLifts liftWords ("cut".toList :: tail) = ([], "cut".toList :: tail) := by kernel_rfl
theorem gen_hl (P : Program) (s : List Char) (tail : List (List Char)) (hs : isSumSigns s = true) (h : wordsSigns P.initOrder.toList = "harness".toList :: s :: "cut".toList :: tail) : P.headLifts = [] := by
  unfold Program.headLifts; rw [h, behind_t s hs, strip_t]; simp
theorem gen_make (P : Program) (s : List Char) (tail : List (List Char)) (hs : isSumSigns s = true) (h : wordsSigns P.initOrder.toList = "harness".toList :: s :: "cut".toList :: tail) : P.make = some .cut := by
  unfold Program.make; rw [h, behind_t s hs]; kernel_rfl
theorem gen_fin (P : Program) (s : List Char) (tail : List (List Char)) (hs : isSumSigns s = true) (h : wordsSigns P.initOrder.toList = "harness".toList :: s :: "cut".toList :: tail) : P.liftsFinal = false := by
  unfold Program.liftsFinal; rw [h, behind_t s hs, gen_hl P s tail hs h]; kernel_rfl
theorem gen_may (P : Program) (s : List Char) (tail : List (List Char)) (hs : isSumSigns s = true) (h : wordsSigns P.initOrder.toList = "harness".toList :: s :: "cut".toList :: tail)
    (hl : P.laysLater = false) (hb : P.bearsReflect = false) (hd : P.doorFits [] = true) : P.mayEnter = true := by
  unfold Program.mayEnter; rw [h, behind_t s hs]; simp only [strip_t, hl, hb, hd]; simp
theorem gen_main (P : Program) (s : List Char) (tail : List (List Char)) (hs : isSumSigns s = true) (h : wordsSigns P.initOrder.toList = "harness".toList :: s :: "cut".toList :: tail) : P.mainIs = some (true, s) := by
  unfold Program.mainIs; rw [h]; simp [hs]
theorem w_hl : Try.prog.headLifts = [] := by
  obtain ⟨tail, h⟩ := ioT
  exact gen_hl _ _ tail sumOk h
theorem w_make : Try.prog.make = some .cut := by
  obtain ⟨tail, h⟩ := ioT
  exact gen_make _ _ tail sumOk h
theorem w_fin : Try.prog.liftsFinal = false := by
  obtain ⟨tail, h⟩ := ioT
  exact gen_fin _ _ tail sumOk h
theorem w_may : Try.prog.mayEnter = true := by
  obtain ⟨tail, h⟩ := ioT
  exact gen_may _ _ tail sumOk h (by kernel_rfl) (by kernel_rfl) (by kernel_rfl)
theorem w_main : Try.prog.mainIs = some (true, sumS.toList) := by
  obtain ⟨tail, h⟩ := ioT
  exact gen_main _ _ tail sumOk h
end Go.Proofs.Ytbbnibjnjmmmnaa
