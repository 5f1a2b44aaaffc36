/-
  The words of the translation's head, read once: what the rows' closed facts ask of them. (Read by the kernel letter by letter at each fact they cost minutes and 10 GB over a head of sixteen names.)
-/
import Derived.Test.YteoeojbeaehdpaaDoorProg
import Derived.JoinedOf
import GoSem.ClaimJoined
import GoSem.Claim
import Derived.KernelRfl
namespace Go.Proofs.YteoeojbeaehdpaaDoor
def joinC : List (List Char) → List Char
  | [] => []
  | [w] => w
  | w :: v :: r => w ++ Char.ofNat 32 :: joinC (v :: r)
theorem ws_word (a : List Char) (h : a.all (· != Char.ofNat 32) = true) : wordsSigns a = [a] := by
  induction a with
  | nil => rfl
  | cons c a ih =>
    simp only [List.all_cons, Bool.and_eq_true, bne_iff_ne] at h
    rw [wordsSigns.eq_def]
    split
    · simp_all
    · simp_all
    · rename_i c' r' _ e
      injection e with e1 e2
      subst e1 e2
      rw [ih h.2]
theorem ws_more (a b : List Char) (h : a.all (· != Char.ofNat 32) = true) : wordsSigns (a ++ Char.ofNat 32 :: b) = a :: wordsSigns b := by
  induction a with
  | nil => rfl
  | cons c a ih =>
    simp only [List.all_cons, Bool.and_eq_true, bne_iff_ne] at h
    rw [List.cons_append, wordsSigns.eq_def]
    split
    · simp_all
    · simp_all
    · rename_i c' r' _ e
      injection e with e1 e2
      subst e1 e2
      rw [ih h.2]
theorem ws_join : ∀ (ws : List (List Char)), ws ≠ [] → ws.all (fun a => a.all (· != Char.ofNat 32)) = true → wordsSigns (joinC ws) = ws
  | [], h, _ => absurd rfl h
  | [w], _, h => by simpa [joinC] using ws_word w (by simpa using h)
  | w :: v :: r, _, h => by
    simp only [List.all_cons, Bool.and_eq_true] at h
    rw [joinC, ws_more w _ h.1, ws_join (v :: r) (by simp) (by simpa using h.2)]
def ioWords : List (List Char) := ([[104, 97, 114, 110, 101, 115, 115], [51, 102, 55, 50, 97, 53, 48, 48, 98, 51, 55, 49, 53, 99, 101, 49, 48, 50, 102, 51, 53, 52, 101, 99, 50, 101, 51, 52, 101, 52, 50, 102, 48, 50, 97, 53, 49, 98, 50, 102, 101, 55, 50, 49, 53, 54, 51, 101, 52, 51, 51, 55, 54, 50, 53, 101, 97, 101, 52, 97, 53, 57, 98, 56], [99, 117, 116], [97, 116], [108, 111, 111, 112, 46, 101, 120, 97, 109, 112, 108, 101, 47, 116, 114, 101, 101, 108, 111, 99, 107, 115, 47, 108, 97, 119, 115, 46, 70, 110, 69, 120, 97, 99, 116, 86, 97, 108, 105, 100, 84, 97, 98, 108, 101], [108, 111, 111, 112, 46, 101, 120, 97, 109, 112, 108, 101, 47, 116, 114, 101, 101, 108, 111, 99, 107, 115, 47, 108, 97, 119, 115, 46, 70, 110, 69, 120, 97, 99, 116, 72, 101, 108, 100, 77, 111, 100, 101], [108, 111, 111, 112, 46, 101, 120, 97, 109, 112, 108, 101, 47, 116, 114, 101, 101, 108, 111, 99, 107, 115, 47, 108, 97, 119, 115, 46, 70, 110, 69, 120, 97, 99, 116, 76, 111, 99, 107, 66, 108, 111, 99, 107, 101, 114, 115], [108, 111, 111, 112, 46, 101, 120, 97, 109, 112, 108, 101, 47, 116, 114, 101, 101, 108, 111, 99, 107, 115, 47, 108, 97, 119, 115, 46, 70, 110, 69, 120, 97, 99, 116, 84, 97, 107, 101, 76, 111, 99, 107], [108, 111, 111, 112, 46, 101, 120, 97, 109, 112, 108, 101, 47, 116, 114, 101, 101, 108, 111, 99, 107, 115, 47, 108, 97, 119, 115, 46, 70, 110, 69, 120, 97, 99, 116, 70, 114, 101, 101, 76, 111, 99, 107, 115], [108, 111, 111, 112, 46, 101, 120, 97, 109, 112, 108, 101, 47, 116, 114, 101, 101, 108, 111, 99, 107, 115, 47, 108, 97, 119, 115, 46, 70, 110, 69, 120, 97, 99, 116, 65, 115, 107, 115, 79, 102], [108, 111, 111, 112, 46, 101, 120, 97, 109, 112, 108, 101, 47, 116, 114, 101, 101, 108, 111, 99, 107, 115, 47, 108, 97, 119, 115, 46, 70, 110, 69, 120, 97, 99, 116, 86, 97, 108, 105, 100, 83, 116, 101, 112, 115], [108, 111, 111, 112, 46, 101, 120, 97, 109, 112, 108, 101, 47, 116, 114, 101, 101, 108, 111, 99, 107, 115, 47, 108, 97, 119, 115, 46, 70, 110, 69, 120, 97, 99, 116, 84, 97, 98, 108, 101, 65, 102, 116, 101, 114], [108, 111, 111, 112, 46, 101, 120, 97, 109, 112, 108, 101, 47, 116, 114, 101, 101, 108, 111, 99, 107, 115, 47, 108, 97, 119, 115, 46, 70, 110, 69, 120, 97, 99, 116, 73, 115, 84, 119, 111, 80, 104, 97, 115, 101], [108, 111, 111, 112, 46, 101, 120, 97, 109, 112, 108, 101, 47, 116, 114, 101, 101, 108, 111, 99, 107, 115, 47, 108, 97, 119, 115, 46, 70, 110, 69, 120, 97, 99, 116, 76, 111, 99, 107, 80, 111, 105, 110, 116], [108, 111, 111, 112, 46, 101, 120, 97, 109, 112, 108, 101, 47, 116, 114, 101, 101, 108, 111, 99, 107, 115, 47, 108, 97, 119, 115, 46, 70, 110, 69, 120, 97, 99, 116, 76, 111, 99, 107, 80, 111, 105, 110, 116, 79, 114, 100, 101, 114], [108, 111, 111, 112, 46, 101, 120, 97, 109, 112, 108, 101, 47, 116, 114, 101, 101, 108, 111, 99, 107, 115, 47, 108, 97, 119, 115, 46, 70, 110, 69, 120, 97, 99, 116, 65, 99, 99, 101, 115, 115, 101, 115, 79, 102]] : List (List Nat)).map (·.map Char.ofNat)
set_option maxRecDepth 100000 in
theorem io : Tryd.prog.initOrder = String.ofList (joinC ioWords) := by kernel_rfl
theorem ioW : wordsSigns Tryd.prog.initOrder.toList = ioWords := by rw [io, String.toList_ofList]; exact ws_join _ (by simp [ioWords]) (by kernel_rfl)
def sumS : String := "3f72a500b3715ce102f354ec2e34e42f02a51b2fe721563e4337625eae4a59b8"
theorem ioT : ∃ tail, wordsSigns Tryd.prog.initOrder.toList = "harness".toList :: sumS.toList :: "cut".toList :: tail := ⟨_, ioW.trans (by kernel_rfl : ioWords = "harness".toList :: sumS.toList :: "cut".toList :: ioWords.drop 3)⟩
theorem sumOk : isSumSigns sumS.toList = true := by kernel_rfl
theorem behind_t (s : List Char) (hs : isSumSigns s = true) (tail : List (List Char)) : behindMainWord ("harness".toList :: s :: "cut".toList :: tail) = "cut".toList :: tail := by
  simp only [behindMainWord, hs, Bool.and_true]
  rw [if_pos (by simp)]
theorem strip_t (tail : List (List Char)) : stripLifts liftWords ("cut".toList :: tail) = ([], "cut".toList :: tail) := by kernel_rfl
theorem gen_hl (P : Program) (s : List Char) (tail : List (List Char)) (hs : isSumSigns s = true) (h : wordsSigns P.initOrder.toList = "harness".toList :: s :: "cut".toList :: tail) : P.headLifts = [] := by
  unfold Program.headLifts; rw [h, behind_t s hs, strip_t]; simp
theorem gen_make (P : Program) (s : List Char) (tail : List (List Char)) (hs : isSumSigns s = true) (h : wordsSigns P.initOrder.toList = "harness".toList :: s :: "cut".toList :: tail) : P.make = some .cut := by
  unfold Program.make; rw [h, behind_t s hs]; kernel_rfl
theorem gen_fin (P : Program) (s : List Char) (tail : List (List Char)) (hs : isSumSigns s = true) (h : wordsSigns P.initOrder.toList = "harness".toList :: s :: "cut".toList :: tail) : P.liftsFinal = false := by
  unfold Program.liftsFinal; rw [h, behind_t s hs, gen_hl P s tail hs h]; kernel_rfl
theorem gen_may (P : Program) (s : List Char) (tail : List (List Char)) (hs : isSumSigns s = true) (h : wordsSigns P.initOrder.toList = "harness".toList :: s :: "cut".toList :: tail)
    (hl : P.laysLater = false) (hb : P.bearsReflect = false) (hd : P.doorFits [] = true) : P.mayEnter = true := by
  unfold Program.mayEnter; rw [h, behind_t s hs]; simp only [strip_t, hl, hb, hd]; simp
theorem gen_main (P : Program) (s : List Char) (tail : List (List Char)) (hs : isSumSigns s = true) (h : wordsSigns P.initOrder.toList = "harness".toList :: s :: "cut".toList :: tail) : P.mainIs = some (true, s) := by
  unfold Program.mainIs; rw [h]; simp [hs]
theorem w_hl : Tryd.prog.headLifts = [] := by
  obtain ⟨tail, h⟩ := ioT
  exact gen_hl _ _ tail sumOk h
theorem w_make : Tryd.prog.make = some .cut := by
  obtain ⟨tail, h⟩ := ioT
  exact gen_make _ _ tail sumOk h
theorem w_fin : Tryd.prog.liftsFinal = false := by
  obtain ⟨tail, h⟩ := ioT
  exact gen_fin _ _ tail sumOk h
theorem w_may : Tryd.prog.mayEnter = true := by
  obtain ⟨tail, h⟩ := ioT
  exact gen_may _ _ tail sumOk h (by kernel_rfl) (by kernel_rfl) (by kernel_rfl)
theorem w_main : Tryd.prog.mainIs = some (true, sumS.toList) := by
  obtain ⟨tail, h⟩ := ioT
  exact gen_main _ _ tail sumOk h
end Go.Proofs.YteoeojbeaehdpaaDoor
