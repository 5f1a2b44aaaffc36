/-
  Plain facts on kids that are sorted by their names: what the reference's exchanges and the library's sort give.
-/
import Derived.Test.YtjmeeiofoioojaaPWalk
import Derived.Shelf.SlSortCmp.Insertion
namespace Go.Proofs.Ytjmeeiofoioojaa
open Go.Sort

def ints (l : List Nat) : List Int := l.map fun (x : Nat) => (x : Int)
theorem ints_len (l : List Nat) : (ints l).length = l.length := by simp [ints]
theorem ints_at {l : List Nat} {k : Nat} (h : k < (ints l).length) : (ints l)[k] = ((l[k]'(by rw [ints_len] at h; exact h) : Nat) : Int) := by simp [ints]
theorem ints_snoc (l : List Nat) (x : Nat) : ints (l ++ [x]) = ints l ++ [(x : Int)] := by simp [ints]
theorem perm_of {α : Type} [Inhabited α] {d d' : Array α} (h : PermIn 0 d.size d d') : d'.toList.Perm d.toList := by
  have h2 := h.2.2
  rw [Array.extract_size, ← h.1, Array.extract_size] at h2
  exact h2
theorem permIn_of {α : Type} [Inhabited α] {d d' : Array α} (hs : d'.size = d.size) (h : d'.toList.Perm d.toList) : PermIn 0 d.size d d' := by
  refine ⟨hs, fun i hi => ?_, ?_⟩
  · have h1 : d.size ≤ i := by omega
    rw [getElem!_neg d i (by omega), getElem!_neg d' i (by omega)]
  · rw [Array.extract_size, ← hs, Array.extract_size]; exact h
theorem swp_list {d : Array Nat} {k m : Nat} (_hk : k < d.size) (_hm : m < d.size) : ints (swp d k m).toList = ((ints d.toList).set k (d[m]! : Int)).set m (d[k]! : Int) := by
  simp [ints, swp, List.map_set]
theorem swp_perm {d : Array Nat} {k m : Nat} (hk : k < d.size) (hm : m < d.size) : (swp d k m).toList.Perm d.toList :=
  perm_of (swp_permIn d 0 d.size k m (Nat.zero_le _) hk (Nat.zero_le _) hm (Nat.le_refl _))
/-- the kids, each with a proof that it is a node -/
def kidsA (t : List Nd) (a : Nat) : Array (Fin t.length) := ((kidsL t a).attach.map fun x => (⟨x.1, (mem_kids.1 x.2).1⟩ : Fin t.length)).toArray
theorem kidsA_list (t : List Nd) (a : Nat) : (kidsA t a).toList.map (fun x => x.val) = kidsL t a := by
  simp [kidsA, List.map_map, Function.comp_def]
theorem kidsA_size (t : List Nd) (a : Nat) : (kidsA t a).size = (kidsL t a).length := by simp [kidsA]
/-- how the library compares two nodes -/
def cfN (t : List Nd) (x y : Fin t.length) : Int := Go.Lib.compareBytes (nameL t x.val) (nameL t y.val)
theorem ltOf_cf (t : List Nd) (x y : Fin t.length) : Go.Proofs.ltOf (cfN t) x y = ltN t x.val y.val := by
  unfold Go.Proofs.ltOf cfN ltN; exact cmp_lt _ _
theorem swo_cf (t : List Nd) : SWO (Go.Proofs.ltOf (cfN t)) where
  irrefl x := by rw [ltOf_cf]; exact (swoN t).irrefl _
  trans x y z := by rw [ltOf_cf, ltOf_cf, ltOf_cf]; exact (swoN t).trans _ _ _
  ntrans x y z := by rw [ltOf_cf, ltOf_cf, ltOf_cf]; exact (swoN t).ntrans _ _ _
theorem sorted_cf {t : List Nd} [Inhabited (Fin t.length)] {a : Nat} {d' : Array (Fin t.length)} (hp : PermIn 0 (kidsA t a).size (kidsA t a) d') (hs : SortedIn (Go.Proofs.ltOf (cfN t)) 0 (kidsA t a).size d') : IsSort t a (d'.toList.map fun x => x.val) := by
  refine ⟨?_, ?_⟩
  · have h := (perm_of hp).map fun x => x.val
    rw [kidsA_list] at h
    exact h
  · rw [List.pairwise_map, List.pairwise_iff_getElem]
    intro i j hi hj hij
    have hj' : j < d'.size := by simpa using hj
    have hi' : i < d'.size := by simpa using hi
    have h := hs i j (Nat.zero_le _) hij (by rw [← hp.1]; exact hj')
    rw [ltOf_cf, getElem!_pos d' i hi', getElem!_pos d' j hj'] at h
    simpa using h
theorem isSort_arr {t : List Nd} {a : Nat} {d : Array Nat} (hp : d.toList.Perm (kidsL t a)) (hs : SortedIn (ltN t) 0 d.size d) (h : OkTo t t.length) : d.toList = sortK t a := (sortK_of h (isSort_of hp hs)).symm
end Go.Proofs.Ytjmeeiofoioojaa
