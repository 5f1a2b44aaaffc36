/-
  Lists of pairs of numbers in memory ([][]int with two numbers each).
-/
import Derived.Test.YtbbnibjnjmmmnaaTIn
import Derived.Test.YtbbnibjnjmmmnaaMem2
namespace Go.Proofs.Ytbbnibjnjmmmnaa
open Go.RowKit

/-- a pair and the block in which it lies -/
structure P2 where
  g : Nat
  a : Int
  b : Int
def p2E : Enc P2 := { cells := fun x => [.slice (some ⟨x.g, 0, none⟩) 2 2], sz := 1, pos := by omega, len := fun _ => rfl, one := fun x u hu => by simp at hu; subst hu; rfl }
theorem Rd.p2 {w : World} {B : Nat} {A : Option Addr} {l : List P2} (h : Rd p2E w B A l) {k : Nat} (hk : k < l.length) :
    ∃ b o, A = some ⟨b, o, none⟩ ∧ b < B ∧ w.cell? ⟨b, o + k, none⟩ = some (.slice (some ⟨l[k].g, 0, none⟩) 2 2) := by
  rcases h with rfl | ⟨b, o, rfl, hb, hc⟩
  · simp at hk
  · have h1 := hc k l[k] (List.getElem?_eq_getElem hk) 0 _ rfl
    exact ⟨b, o, rfl, hb, by simpa [p2E] using h1⟩
theorem slP2 : SlT Try.prog p2E 50 47 (.slice none 0 0) 24 := ⟨Try.underlying50, by kernel_rfl, rfl, by omega⟩
def prs (L : List P2) : List (Int × Int) := L.map fun x => (x.a, x.b)
/-- the pairs themselves lie each in a block of its own -/
structure Inn (w : World) (base : Nat) (L : List P2) : Prop where
  at' : ∀ x, x ∈ L → base ≤ x.g ∧ Blk w x.g 3 #[.int .i64 x.a, .int .i64 x.b]
  nodup : (L.map P2.g).Nodup
structure Prs (w : World) (base : Nat) (v : Value) (L : List P2) : Prop where
  own : Own p2E 47 w base v L
  inn : Inn w base L
  apart : ∀ x, x ∈ L → v.ownBlock ≠ some x.g
theorem Prs.nil {w : World} {base : Nat} : Prs w base (.slice none 0 0) [] := ⟨Own.nil, ⟨by simp, by simp⟩, by simp⟩
theorem Inn.keep {w w' : World} {base : Nat} {L : List P2} (h : Inn w base L) (hk : ∀ x, x ∈ L → w'.heap[x.g]? = w.heap[x.g]?) : Inn w' base L :=
  ⟨fun x hx => ⟨(h.at' x hx).1, (hk x hx).trans (h.at' x hx).2⟩, h.nodup⟩
theorem Inn.lt {w : World} {base : Nat} {L : List P2} (h : Inn w base L) {x : P2} (hx : x ∈ L) : x.g < w.heap.size := (h.at' x hx).2.lt
theorem Prs.grow {w w' : World} {base : Nat} {v : Value} {L : List P2} (h : Prs w base v L) (hb : Below w.heap.size w w') : Prs w' base v L :=
  ⟨h.own.grow hb, h.inn.keep fun x hx => hb.block x.g (h.inn.lt hx), h.apart⟩
theorem Prs.base {w : World} {base base' : Nat} {v : Value} {L : List P2} (h : Prs w base v L) (hb : base' ≤ base) : Prs w base' v L :=
  ⟨h.own.base hb, ⟨fun x hx => ⟨Nat.le_trans hb (h.inn.at' x hx).1, (h.inn.at' x hx).2⟩, h.inn.nodup⟩, h.apart⟩
theorem Prs.alloc {w : World} {base : Nat} {v : Value} {L : List P2} (h : Prs w base v L) (o : Obj) : Prs (w.alloc o) base v L := h.grow ((Below.refl _ _).alloc (Nat.le_refl _) o)
/-- A pair in a new block is appended: what the law of append leaves is the list with the pair. -/
theorem Prs.push {w w' : World} {base : Nat} {v v' : Value} {L : List P2} {a b : Int} (h : Prs w base v L) (hbase : base ≤ w.heap.size)
    (ho : Own p2E 47 w' base v' (L ++ [⟨w.heap.size, a, b⟩])) (hg : (w.alloc (.cells #[.int .i64 a, .int .i64 b] 3)).grownBy w' v.ownBlock)
    (hat : v'.ownBlock = v.ownBlock ∨ ∃ k, (w.alloc (.cells #[.int .i64 a, .int .i64 b] 3)).heap.size ≤ k ∧ v'.ownBlock = some k) : Prs w' base v' (L ++ [⟨w.heap.size, a, b⟩]) := by
  have hnew : v.ownBlock ≠ some w.heap.size := by
    intro e; have := (h.own.lt _ e).2; omega
  refine ⟨ho, ⟨fun x hx => ?_, ?_⟩, fun x hx => ?_⟩
  · rcases List.mem_append.1 hx with hx | hx
    · refine ⟨(h.inn.at' x hx).1, ?_⟩
      exact ((h.inn.at' x hx).2.alloc _).kept hg (fun e => h.apart x hx e.symm)
    · simp at hx
      subst hx
      exact ⟨hbase, (Blk.new w _ _).kept hg (fun e => hnew e.symm)⟩
  · rw [List.map_append, List.nodup_append]
    refine ⟨h.inn.nodup, by simp, fun y hy z hz => ?_⟩
    obtain ⟨x, hx, rfl⟩ := List.mem_map.1 hy
    simp at hz
    subst hz
    have := h.inn.lt hx
    omega
  · rcases hat with e | ⟨k, hk, e⟩
    · rw [e]
      rcases List.mem_append.1 hx with hx | hx
      · exact h.apart x hx
      · simp at hx; subst hx; exact hnew
    · rw [e]
      intro e2
      injection e2 with e2
      simp at hk
      rcases List.mem_append.1 hx with hx | hx
      · have := h.inn.lt hx; omega
      · simp at hx; subst hx; simp at e2; omega
end Go.Proofs.Ytbbnibjnjmmmnaa
