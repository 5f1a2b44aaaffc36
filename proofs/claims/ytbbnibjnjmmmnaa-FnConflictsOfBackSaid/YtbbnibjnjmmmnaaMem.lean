/-
  Words for memory: a slice that reads as a list of structured elements; a slice that the call owns. No program in sight.
-/
import Derived.WalkKit
import Derived.WalkSpells
import Derived.WalkLawsBesides
import Derived.Lib.Hide
import Derived.Laws.MakeOwn
import Derived.Deep.Draws
import Derived.Maps.AppendAt
namespace Go.Proofs.Ytbbnibjnjmmmnaa
open Go.RowKit

theorem ret_bool {a b : Bool} (h : a = b) : Ending.returned (.bool a) = .returned (.bool b) := by rw [h]
theorem ret_int {k : IntKind} {a b : Int} (h : a = b) : Ending.returned (.int k a) = .returned (.int k b) := by rw [h]
theorem cell_lt {w : World} {b o : Nat} {v : Value} (h : w.cell? ⟨b, o, none⟩ = some v) : b < w.heap.size := by
  rcases Nat.lt_or_ge b w.heap.size with h1 | h1
  · exact h1
  · simp [World.cell?, Array.getElem?_eq_none h1] at h

/-- An element type as a list of cells: so many, each of one cell. -/
structure Enc (α : Type) where
  cells : α → List Value
  sz : Nat
  pos : 0 < sz
  len : ∀ x, (cells x).length = sz
  one : ∀ x u, u ∈ cells x → u.oneCell' = true

section
variable {α : Type} {E : Enc α}
/-- the flat cells of a list -/
def Enc.flat (E : Enc α) (l : List α) : List Value := l.flatMap E.cells
theorem Enc.flat_len (E : Enc α) (l : List α) : (E.flat l).length = l.length * E.sz := by
  induction l with
  | nil => simp [Enc.flat]
  | cons x l ih => simp only [Enc.flat, List.flatMap_cons, List.length_append, List.length_cons] at ih ⊢; rw [ih, E.len, Nat.add_mul]; omega
theorem Enc.flat_append (E : Enc α) (l m : List α) : E.flat (l ++ m) = E.flat l ++ E.flat m := by simp [Enc.flat]
theorem Enc.flat_one (E : Enc α) (x : α) : E.flat [x] = E.cells x := by simp [Enc.flat]
theorem Enc.flat_nil (E : Enc α) : E.flat [] = [] := rfl
theorem Enc.flat_at (E : Enc α) : ∀ (l : List α) (k : Nat) (x : α), l[k]? = some x → ∀ j, j < E.sz → (E.flat l)[k * E.sz + j]? = (E.cells x)[j]?
  | [], k, x, h, _, _ => by simp at h
  | y :: l, 0, x, h, j, hj => by
    simp only [List.getElem?_cons_zero, Option.some.injEq] at h
    subst h
    rw [Enc.flat, List.flatMap_cons, Nat.zero_mul, Nat.zero_add, List.getElem?_append_left (by rw [E.len]; exact hj)]
  | y :: l, k + 1, x, h, j, hj => by
    have ih := Enc.flat_at E l k x (by simpa using h) j hj
    rw [Enc.flat, List.flatMap_cons, List.getElem?_append_right (by rw [E.len, Nat.add_mul]; omega), E.len]
    rw [show (k + 1) * E.sz + j - E.sz = k * E.sz + j by rw [Nat.add_mul]; omega]
    exact ih
theorem Enc.flat_one' (E : Enc α) (l : List α) : ∀ u ∈ E.flat l, u.oneCell' = true := by
  intro u hu
  obtain ⟨x, _, hx⟩ := List.mem_flatMap.1 hu
  exact E.one x u hx

/-- The list l lies from A on, below block B. -/
def Rd (E : Enc α) (w : World) (B : Nat) (A : Option Addr) (l : List α) : Prop :=
  l = [] ∨ ∃ b o, A = some ⟨b, o, none⟩ ∧ b < B ∧ ∀ k x, l[k]? = some x → ∀ j v, (E.cells x)[j]? = some v → w.cell? ⟨b, o + k * E.sz + j, none⟩ = some v

theorem Rd.nil {w : World} {B : Nat} {A : Option Addr} : Rd E w B A [] := .inl rfl
theorem Rd.keep {w w' : World} {B : Nat} {A : Option Addr} {l : List α} (h : Rd E w B A l) (hk : ∀ k, k < B → w'.heap[k]? = w.heap[k]?) : Rd E w' B A l := by
  rcases h with h | ⟨b, o, rfl, hb, hc⟩
  · exact .inl h
  · exact .inr ⟨b, o, rfl, hb, fun k x hx j v hv => by rw [World.cell?_of_block (w := w) (hk b hb)]; exact hc k x hx j v hv⟩
theorem Rd.below {w w' : World} {B B' : Nat} {A : Option Addr} {l : List α} (h : Rd E w B A l) (hb : Below B' w w') (hB : B ≤ B') : Rd E w' B A l := h.keep fun k hk => hb.block k (by omega)
theorem Rd.more {w : World} {B B' : Nat} {A : Option Addr} {l : List α} (h : Rd E w B A l) (hB : B ≤ B') : Rd E w B' A l := by
  rcases h with h | ⟨b, o, rfl, hb, hc⟩
  · exact .inl h
  · exact .inr ⟨b, o, rfl, by omega, hc⟩
/-- kept while the call makes blocks of its own -/
theorem Rd.grow {w w' : World} {A : Option Addr} {l : List α} (h : Rd E w w.heap.size A l) (hb : Below w.heap.size w w') : Rd E w' w'.heap.size A l := (h.below hb (Nat.le_refl _)).more hb.size
theorem Rd.other {w w' : World} {B : Nat} {A : Option Addr} {l : List α} {row : Option Nat} (h : Rd E w B A l) (hg : w.grownBy w' row) (hB : B ≤ w.heap.size) (hr : ∀ g, row = some g → B ≤ g) : Rd E w' B A l :=
  h.keep fun k hk => hg.block k (by omega) (fun e => by have := hr k e.symm; omega)
theorem Rd.take {w : World} {B : Nat} {A : Option Addr} {l : List α} (h : Rd E w B A l) (n : Nat) : Rd E w B A (l.take n) := by
  rcases h with rfl | ⟨b, o, rfl, hb, hc⟩
  · simp [Rd]
  · refine .inr ⟨b, o, rfl, hb, fun k x hx => hc k x ?_⟩
    rw [List.getElem?_take] at hx
    split at hx
    · exact hx
    · cases hx
/-- a cut 's[k:]', as the walk spells it -/
theorem Rd.drop {w : World} {B : Nat} {A : Option Addr} {l : List α} (h : Rd E w B A l) (n cap : Nat) (hn : n ≤ l.length) (hc : l.length ≤ cap) : Rd E w B (if cap = n then A else A.map (·.add (n * E.sz))) (l.drop n) := by
  rcases h with rfl | ⟨b, o, rfl, hb, hcell⟩
  · simp [Rd]
  · rcases Nat.eq_or_lt_of_le hn with e | hlt
    · left; rw [List.drop_eq_nil_of_le (by omega)]
    · right
      rw [if_neg (by omega)]
      refine ⟨b, o + n * E.sz, ?_, hb, fun k x hx j v hv => ?_⟩
      · simp only [Option.map_some, Addr.add]
        split
        · rename_i h0; rw [h0]; simp
        · rfl
      · rw [List.getElem?_drop] at hx
        have := hcell (n + k) x hx j v hv
        rw [show o + n * E.sz + k * E.sz + j = o + (n + k) * E.sz + j by rw [Nat.add_mul]; omega]
        exact this

/-- The call owns the slice v, which holds the list l, in a block from 'base' on. -/
def Own (E : Enc α) (e : TypeId) (w : World) (base : Nat) (v : Value) (l : List α) : Prop := w.ownsRow base e E.sz v l.length (E.flat l)

theorem Own.form {e : TypeId} {w : World} {base : Nat} {v : Value} {l : List α} (h : Own E e w base v l) :
    ∃ A c, v = .slice A l.length c ∧ l.length ≤ c ∧ c ≤ maxLen ∧ Rd E w w.heap.size A l := by
  rcases h.2 with ⟨rfl, hn⟩ | ⟨g, cap, cur, rfl, hb, hg, hnc, hcm, hcs, htake⟩
  · exact ⟨none, 0, by rw [hn], by omega, by simp, .inl (List.eq_nil_of_length_eq_zero hn)⟩
  · refine ⟨_, cap, rfl, hnc, hcm, ?_⟩
    right
    refine ⟨g, 0, rfl, (Array.getElem?_eq_some_iff.1 hg).1, fun k x hx j u hu => ?_⟩
    have hk : k < l.length := by
      rcases Nat.lt_or_ge k l.length with h1 | h1
      · exact h1
      · rw [List.getElem?_eq_none h1] at hx; cases hx
    have hj : j < E.sz := by
      rw [← E.len x]
      rcases Nat.lt_or_ge j (E.cells x).length with h1 | h1
      · exact h1
      · rw [List.getElem?_eq_none h1] at hu; cases hu
    have h2 := E.flat_at l k x hx j hj
    rw [hu] at h2
    rw [cell_of_row w g _ cur e (0, 0) hg, Nat.zero_add]
    rw [← htake, List.getElem?_take] at h2
    split at h2
    · simpa using h2
    · cases h2
theorem Own.rd {e : TypeId} {w : World} {base : Nat} {A : Option Addr} {n c : Nat} {l : List α} (h : Own E e w base (.slice A n c) l) : Rd E w w.heap.size A l ∧ n = l.length ∧ l.length ≤ c ∧ c ≤ maxLen := by
  obtain ⟨A', c', e1, h1, h2, h3⟩ := h.form
  injection e1 with e1 e2 e3
  subst e1 e2 e3
  exact ⟨h3, rfl, h1, h2⟩
theorem Own.nil {e : TypeId} {w : World} {base : Nat} : Own E e w base (.slice none 0 0) [] := by
  unfold Own; exact World.ownsRow_nil w base e E.sz
theorem Own.kept {e : TypeId} {w w' : World} {base : Nat} {v : Value} {l : List α} {row : Option Nat} (h : Own E e w base v l) (hg : w.grownBy w' row) (hne : v.ownBlock = none ∨ v.ownBlock ≠ row) : Own E e w' base v l := World.ownsRow.kept h hg hne
theorem Own.lt {e : TypeId} {w : World} {base : Nat} {v : Value} {l : List α} (h : Own E e w base v l) : ∀ k, v.ownBlock = some k → base ≤ k ∧ k < w.heap.size := World.ownsRow.lt h
theorem Own.grow {e : TypeId} {w w' : World} {base : Nat} {v : Value} {l : List α} (h : Own E e w base v l) (hb : Below w.heap.size w w') : Own E e w' base v l := by
  refine h.kept (row := some w.heap.size) ⟨hb.os, hb.tape, hb.output, hb.size, fun k hk _ => hb.block k hk⟩ (.inr fun e => ?_)
  have := (h.lt _ e).2
  omega
theorem Own.base {e : TypeId} {w : World} {base base' : Nat} {v : Value} {l : List α} (h : Own E e w base v l) (hb : base' ≤ base) : Own E e w base' v l := by
  refine ⟨h.1, ?_⟩
  rcases h.2 with h2 | ⟨g, cap, cur, hv, hg, r⟩
  · exact .inl h2
  · exact .inr ⟨g, cap, cur, hv, by omega, r⟩
theorem Own.drewN {e : TypeId} {w : World} {base : Nat} {v : Value} {l : List α} (h : Own E e w base v l) (n : Nat) : Own E e (w.drewN n) base v l := h

theorem grownBy_drewN' {a w : World} {row : Option Nat} (h : a.grownBy w row) (n : Nat) : a.grownBy (w.drewN n) row := ⟨h.os, h.tape, h.output, h.size, h.block⟩
theorem below_drewN {B : Nat} {a w : World} (h : Below B a w) (n : Nat) : Below B a (w.drewN n) := ⟨h.os, h.tape, h.output, h.size, h.block⟩
/-- Behind an append to, or a store into, what the call owns. -/
theorem below_own {B : Nat} {a w w' : World} {e : TypeId} {v : Value} {l : List α} (h : Below B a w) (ho : Own E e w B v l) (hg : w.grownBy w' v.ownBlock) (hB : B ≤ w.heap.size) : Below B a w' :=
  h.grown hg hB fun k hk => (ho.lt k hk).1

/-- What a program's table says of a slice type and its elements. -/
structure SlT (P : Program) (E : Enc α) (t e : TypeId) (z : Value) (bytes : Nat) : Prop where
  und : P.underlying t = some (.slice e)
  info : (P.info? e).map (fun i => (i.zero, i.size, i.bytes)) = some (some z, E.sz, bytes)
  zs : z.cells.size = E.sz
  small : bytes ≤ 1000

/-- append of a list that is read anywhere onto a slice of the call's own. -/
theorem run_ap {P : Program} {t e : TypeId} {z : Value} {bytes : Nat} (T : SlT P E t e z bytes) (w : World) (ty : TypeId) (base : Nat) (v : Value) (l : List α) (ho : Own E e w base v l)
    (B : Nat) (A : Option Addr) (c : Nat) (m : List α) (hr : Rd E w B A m) (hlen : l.length + m.length ≤ 100000000) (hbase : base ≤ w.heap.size) :
    ∃ v' w', (Builtin.append_ #[t, t] ty #[v, .slice A m.length c]).run P w = .ok v' w' ∧ Own E e w' base v' (l ++ m) ∧ w.grownBy w' v.ownBlock ∧ (v'.ownBlock = v.ownBlock ∨ v'.ownBlock = some w.heap.size) := by
  obtain ⟨i, hi, hz, hs, hby⟩ := info_parts T.info
  have hb : (l.length + m.length) * bytes ≤ 140737488355328 := by
    have := Nat.mul_le_mul hlen T.small
    omega
  have h63 : l.length + m.length ≤ maxLen := by unfold maxLen; omega
  rcases hr with rfl | ⟨b, o, rfl, hb', hc⟩
  · cases A with
    | none =>
      refine ⟨v, w, ?_, by simpa using ho, World.grownBy.refl w _, .inl rfl⟩
      rcases ho.2 with ⟨rfl, hn⟩ | ⟨g, cap, cur, rfl, _, _, hnc, _⟩
      · simp [Builtin.append_, run_underlying T.und, sizeOf, typeInfo, hi, Builtin.lenOf, Builtin.firstCells]
      · simp [Builtin.append_, run_underlying T.und, sizeOf, typeInfo, hi, Builtin.lenOf, Builtin.firstCells, hnc, storeCells]
    | some ad =>
      obtain ⟨v', w', hrun, h2, h3, _, h5⟩ := run_append_own_at (P := P) w base t ty e i z E.sz bytes T.und hi hz hs hby T.zs E.pos v l.length (E.flat l) ho ad 0 c [] (by simp) (by simp) (by simp) (by unfold maxLen; omega) (by omega) hbase
      exact ⟨v', w', hrun, by simpa [Own] using h2, h3, h5⟩
  · have hcell : ∀ j u, (E.flat m)[j]? = some u → w.cell? ((⟨b, o, none⟩ : Addr).add j) = some u := by
      intro j u hu
      have hj : j < m.length * E.sz := by
        rw [← E.flat_len m]
        rcases Nat.lt_or_ge j (E.flat m).length with h1 | h1
        · exact h1
        · rw [List.getElem?_eq_none h1] at hu; cases hu
      have hk : j / E.sz < m.length := (Nat.div_lt_iff_lt_mul E.pos).2 hj
      have hm := E.flat_at m (j / E.sz) m[j / E.sz] (List.getElem?_eq_getElem hk) (j % E.sz) (Nat.mod_lt _ E.pos)
      rw [Nat.div_add_mod' j E.sz, hu] at hm
      have := hc (j / E.sz) _ (List.getElem?_eq_getElem hk) (j % E.sz) u hm.symm
      rw [Nat.add_assoc, Nat.div_add_mod' j E.sz] at this
      rw [Go.WideShapes.add_plain]
      exact this
    obtain ⟨v', w', hrun, h2, h3, _, h5⟩ := run_append_own_at (P := P) w base t ty e i z E.sz bytes T.und hi hz hs hby T.zs E.pos v l.length (E.flat l) ho ⟨b, o, none⟩ m.length c (E.flat m) (E.flat_len m)
      hcell (E.flat_one' m) h63 hb hbase
    exact ⟨v', w', hrun, by unfold Own; rw [List.length_append, E.flat_append]; exact h2, h3, h5⟩

theorem wpList_ap {P : Program} {t e : TypeId} {z : Value} {bytes : Nat} (T : SlT P E t e z bytes) {w : World} {ops : Array Oper} {rest : List Oper} {o : Oper} {a : Act} {Q : Exit → Act → World → Prop} (hgd : o.guard = none) (s x : Operand)
    (hop : o.op = .call { callee := .builtin .append, args := #[s, x], argTypes := #[t, t] })
    (base : Nat) (v : Value) (l : List α) (hs : a.eval s = v) (ho : Own E e w base v l)
    (B : Nat) (A : Option Addr) (c : Nat) (m : List α) (hx : a.eval x = .slice A m.length c) (hr : Rd E w B A m) (hlen : l.length + m.length ≤ 100000000) (hbase : base ≤ w.heap.size)
    (h : ∀ v' w', Own E e w' base v' (l ++ m) → w.grownBy w' v.ownBlock → (v'.ownBlock = v.ownBlock ∨ v'.ownBlock = some w.heap.size) → wpList P ops Q rest (a.put o.dst v') w') : wpList P ops Q (o :: rest) a w :=
  wpList_plain hgd fun K hK => by
    obtain ⟨v', w', hrun, h2, h3, h4⟩ := run_ap T w o.type base v l ho B A c m hr hlen hbase
    unfold Oper.wp execOp
    simp only [hop, resolve, invoke, builtin, Sem.run_bind, Sem.run_pure, Result.andThen_ok, List.map_toArray, List.map_cons, List.map_nil, hs, hx, hrun]
    exact hK _ _ (h v' w' h2 h3 h4)

/-- A block that is known whole reads as its list. -/
theorem rd_block {w : World} {g : Nat} {cs : Array Value} {t : TypeId} {fr : Nat × Nat} (hg : w.heap[g]? = some (.cells cs t fr)) (l : List α) (hcs : (E.flat l) <+: cs.toList) : Rd E w (g + 1) (some ⟨g, 0, none⟩) l := by
  right
  refine ⟨g, 0, rfl, by omega, fun k x hx j u hu => ?_⟩
  have hj : j < E.sz := by
    rw [← E.len x]
    rcases Nat.lt_or_ge j (E.cells x).length with h1 | h1
    · exact h1
    · rw [List.getElem?_eq_none h1] at hu; cases hu
  rw [cell_of_row w g _ cs t fr hg, Nat.zero_add, ← Array.getElem?_toList]
  obtain ⟨r, hr⟩ := hcs
  have h2 := E.flat_at l k x hx j hj
  rw [← hr, List.getElem?_append_left]
  · rw [h2, hu]
  · rcases Nat.lt_or_ge (k * E.sz + j) (E.flat l).length with h1 | h1
    · exact h1
    · rw [List.getElem?_eq_none h1] at h2; rw [hu] at h2; cases h2
/-- A new block that the text wrote out (a composite literal of one or more elements). -/
theorem rd_new (w : World) (cs : Array Value) (t : TypeId) (l : List α) (hcs : cs.toList = E.flat l) : Rd E (w.alloc (.cells cs t)) (w.heap.size + 1) (some ⟨w.heap.size, 0, none⟩) l :=
  rd_block (heap_alloc_new w _) l (by rw [hcs]; exact List.prefix_refl _)
theorem own_new {e : TypeId} (w : World) (cs : Array Value) (l : List α) (base : Nat) (hb : base ≤ w.heap.size) (hl : l.length ≤ 100000000) (hcs : cs.toList = E.flat l) : Own E e (w.alloc (.cells cs e)) base (.slice (some ⟨w.heap.size, 0, none⟩) l.length l.length) l := by
  refine ⟨E.flat_len l, .inr ⟨w.heap.size, l.length, cs, rfl, hb, heap_alloc_new w _, Nat.le_refl _, by unfold maxLen; omega, ?_, ?_⟩⟩
  · rw [← E.flat_len l, ← hcs]; simp
  · rw [hcs, ← E.flat_len l, List.take_length]
end

theorem run_make_rowN {P : Program} (t e : TypeId) (i : TypeInfo) (z : Value) (ht : P.underlying t = some (.slice e)) (hi : P.info? e = some i) (hz : i.zero = some z)
    (kl kc : IntKind) (n c : Nat) (hnc : n ≤ c) (hbytes : i.bytes * c ≤ 281474976710656) (h63 : c ≤ 9223372036854775807) (w : World) :
    (Instr.makeSlice t (.int kl (n : Int)) (.int kc (c : Int))).run P w = .ok (.slice (some ⟨w.heap.size, 0, none⟩) n c) (w.alloc (.cells (madeCells z.cells (c * i.size)) e)) := by
  have hb : (i.bytes : Int) * (c : Int) ≤ 281474976710656 := by
    have h : ((i.bytes * c : Nat) : Int) ≤ 281474976710656 := by omega
    rwa [Int.natCast_mul] at h
  have hr := run_make (P := P) w t e i z ht hi hz kl kc n c (by omega) (by omega) hb (by omega)
  simp only [Int.toNat_natCast] at hr
  exact hr

/-- A block known whole: its cells, of element type e, none of them frozen. -/
def Blk (w : World) (g : Nat) (e : TypeId) (cs : Array Value) : Prop := w.heap[g]? = some (.cells cs e (0, 0))
theorem Blk.lt {w : World} {g : Nat} {e : TypeId} {cs : Array Value} (h : Blk w g e cs) : g < w.heap.size := (Array.getElem?_eq_some_iff.1 h).1
theorem Blk.cell {w : World} {g : Nat} {e : TypeId} {cs : Array Value} (h : Blk w g e cs) (i : Nat) (hi : i < cs.size) : ∃ u, w.cell? ⟨g, i, none⟩ = some u := by
  refine ⟨cs[i], ?_⟩
  rw [cell_of_row w g i cs e (0, 0) h]; simp [hi]
theorem Blk.free {w : World} {g : Nat} {e : TypeId} {cs : Array Value} (h : Blk w g e cs) (i : Nat) : w.frozen? ⟨g, i, none⟩ = false := by
  unfold Blk at h; simp [World.frozen?, h]
theorem Blk.set {w : World} {g : Nat} {e : TypeId} {cs : Array Value} (h : Blk w g e cs) (i : Nat) (v : Value) : Blk (w.setCell ⟨g, i, none⟩ v) g e (cs.setIfInBounds i v) := by
  unfold Blk at h ⊢; simp [World.setCell, Array.getElem?_modify, h]
theorem Blk.other {w : World} {g : Nat} {e : TypeId} {cs : Array Value} (h : Blk w g e cs) {g' : Nat} (hne : g ≠ g') (i : Nat) (v : Value) : Blk (w.setCell ⟨g', i, none⟩ v) g e cs := (Below.heap_setCell w ⟨g', i, none⟩ v g hne).trans h
theorem Blk.below {w w' : World} {g B : Nat} {e : TypeId} {cs : Array Value} (h : Blk w g e cs) (hb : Below B w w') (hg : g < B) : Blk w' g e cs := (hb.block g hg).trans h
theorem Blk.grow {w w' : World} {g : Nat} {e : TypeId} {cs : Array Value} (h : Blk w g e cs) (hb : Below w.heap.size w w') : Blk w' g e cs := h.below hb h.lt
theorem Blk.kept {w w' : World} {g : Nat} {e : TypeId} {cs : Array Value} {row : Option Nat} (h : Blk w g e cs) (hg : w.grownBy w' row) (hne : some g ≠ row) : Blk w' g e cs := (hg.block g h.lt hne).trans h
theorem Blk.new (w : World) (e : TypeId) (cs : Array Value) : Blk (w.alloc (.cells cs e)) w.heap.size e cs := heap_alloc_new w _
theorem Blk.alloc {w : World} {g : Nat} {e : TypeId} {cs : Array Value} (h : Blk w g e cs) (o : Obj) : Blk (w.alloc o) g e cs := (Below.heap_alloc w o g h.lt).trans h

def setAll (cs : Array Value) (i : Nat) : List Value → Array Value
  | [] => cs
  | v :: vs => setAll (cs.setIfInBounds i v) (i + 1) vs
theorem setAll_size (vs : List Value) : ∀ (cs : Array Value) (i : Nat), (setAll cs i vs).size = cs.size := by
  induction vs with
  | nil => intro cs i; rfl
  | cons v vs ih => intro cs i; rw [setAll, ih]; simp
theorem setAll_take (vs : List Value) : ∀ (cs : Array Value) (i : Nat), i + vs.length ≤ cs.size → (setAll cs i vs).toList.take (i + vs.length) = cs.toList.take i ++ vs := by
  induction vs with
  | nil => intro cs i _; simp [setAll]
  | cons v vs ih =>
    intro cs i h
    simp only [List.length_cons] at h ⊢
    have := ih (cs.setIfInBounds i v) (i + 1) (by simp; omega)
    rw [setAll, show i + (vs.length + 1) = i + 1 + vs.length by omega, this]
    rw [Array.toList_setIfInBounds, List.take_add_one, List.take_set_of_le (Nat.le_refl _)]
    rw [List.getElem?_set_self (by simp; omega)]
    simp
theorem setAll_far (vs : List Value) : ∀ (cs : Array Value) (i j : Nat), i + vs.length ≤ j → (setAll cs i vs)[j]? = cs[j]? := by
  induction vs with
  | nil => intro cs i j _; rfl
  | cons v vs ih =>
    intro cs i j h
    simp only [List.length_cons] at h
    rw [setAll, ih _ _ _ (by omega), Array.getElem?_setIfInBounds_ne (by omega)]

/-- A row whose first cells are a list's becomes one that has an element more. -/
theorem fill_step {α : Type} {E : Enc α} (cs : Array Value) (l : List α) (k n : Nat) (hk : k < n) (hn : n = l.length) (hs : cs.size = n * E.sz) (ht : cs.toList.take (k * E.sz) = E.flat (l.take k)) :
    (setAll cs (k * E.sz) (E.cells (l[k]'(by omega)))).size = n * E.sz ∧ (setAll cs (k * E.sz) (E.cells (l[k]'(by omega)))).toList.take ((k + 1) * E.sz) = E.flat (l.take (k + 1)) := by
  refine ⟨by rw [setAll_size, hs], ?_⟩
  have hle : k * E.sz + E.sz ≤ n * E.sz := by rw [← Nat.succ_mul]; exact Nat.mul_le_mul_right _ hk
  have h1 := setAll_take (E.cells (l[k]'(by omega))) cs (k * E.sz) (by rw [E.len, hs]; exact hle)
  rw [E.len] at h1
  rw [Nat.succ_mul, h1, ht, List.take_succ_eq_append_getElem (by omega), E.flat_append, E.flat_one]
theorem own_full {α : Type} {E : Enc α} {w : World} {g : Nat} {e : TypeId} {cs : Array Value} (h : Blk w g e cs) (base : Nat) (hb : base ≤ g) (l : List α) (n : Nat) (hn : n = l.length) (hm : n ≤ maxLen) (hs : cs.size = n * E.sz) (ht : cs.toList.take (n * E.sz) = E.flat l) :
    Own E e w base (.slice (some ⟨g, 0, none⟩) n n) l := by
  subst hn
  exact ⟨E.flat_len l, .inr ⟨g, l.length, cs, rfl, hb, h, Nat.le_refl _, hm, hs, ht⟩⟩

theorem Own.block {α : Type} {E : Enc α} {e : TypeId} {w : World} {base : Nat} {v : Value} {l : List α} (h : Own E e w base v l) :
    (v = .slice none 0 0 ∧ l = []) ∨ ∃ g c cs, v = .slice (some ⟨g, 0, none⟩) l.length c ∧ base ≤ g ∧ Blk w g e cs ∧ l.length ≤ c ∧ c ≤ maxLen ∧ cs.size = c * E.sz ∧ cs.toList.take (l.length * E.sz) = E.flat l := by
  rcases h.2 with ⟨rfl, hn⟩ | ⟨g, cap, cur, rfl, hb, hg, hnc, hcm, hcs, htake⟩
  · exact .inl ⟨rfl, List.eq_nil_of_length_eq_zero hn⟩
  · exact .inr ⟨g, cap, cur, rfl, hb, hg, hnc, hcm, hcs, htake⟩
theorem own_blk {α : Type} {E : Enc α} {w : World} {g : Nat} {e : TypeId} {cs : Array Value} (h : Blk w g e cs) (base : Nat) (hb : base ≤ g) (l : List α) {n c : Nat} (hn : n = l.length) (hnc : n ≤ c) (hm : c ≤ maxLen) (hs : cs.size = c * E.sz) (ht : cs.toList.take (n * E.sz) = E.flat l) :
    Own E e w base (.slice (some ⟨g, 0, none⟩) n c) l := by
  subst hn
  exact ⟨E.flat_len l, .inr ⟨g, c, cs, rfl, hb, h, hnc, hm, hs, ht⟩⟩
theorem only_set {a w : World} {g i : Nat} {v : Value} (h : a.grownBy w (some g)) : a.grownBy (w.setCell ⟨g, i, none⟩ v) (some g) :=
  ⟨h.os, h.tape, h.output, by simpa [World.setCell] using h.size, fun k hk hne => (Below.heap_setCell w ⟨g, i, none⟩ v k (fun e => hne (by rw [e]))).trans (h.block k hk hne)⟩
/-- One element more of a row with room is written over. -/
theorem mark_step {α : Type} {E : Enc α} (cs : Array Value) (l : List α) (k c : Nat) (hk : k < l.length) (hc : k < c) (hs : cs.size = c * E.sz) (ht : cs.toList.take (k * E.sz) = E.flat (l.take k)) :
    (setAll cs (k * E.sz) (E.cells l[k])).size = c * E.sz ∧ (setAll cs (k * E.sz) (E.cells l[k])).toList.take ((k + 1) * E.sz) = E.flat (l.take (k + 1)) := by
  refine ⟨by rw [setAll_size, hs], ?_⟩
  have hle : k * E.sz + E.sz ≤ c * E.sz := by rw [← Nat.succ_mul]; exact Nat.mul_le_mul_right _ hc
  have h1 := setAll_take (E.cells l[k]) cs (k * E.sz) (by rw [E.len, hs]; exact hle)
  rw [E.len] at h1
  rw [Nat.succ_mul, h1, ht, List.take_succ_eq_append_getElem hk, E.flat_append, E.flat_one]

theorem Own.alloc {α : Type} {E : Enc α} {e : TypeId} {w : World} {base : Nat} {v : Value} {l : List α} (h : Own E e w base v l) (o : Obj) : Own E e (w.alloc o) base v l := h.grow ((Below.refl _ _).alloc (Nat.le_refl _) o)
/-- append of one element that the text has just written out in a block of its own -/
theorem wpList_ap1 {α : Type} {E : Enc α} {P : Program} {t e : TypeId} {z : Value} {bytes : Nat} (T : SlT P E t e z bytes) {ops : Array Oper} {rest : List Oper} {o : Oper} {a : Act} {Q : Exit → Act → World → Prop} (hgd : o.guard = none) (s x : Operand)
    (hop : o.op = .call { callee := .builtin .append, args := #[s, x], argTypes := #[t, t] })
    (wr : World) (cs : Array Value) (y : α) (hcs : cs.toList = E.cells y) (a0 : World) (B : Nat) (v : Value) (l : List α) (hs : a.eval s = v) (ho : Own E e wr B v l)
    (hx : a.eval x = .slice (some ⟨wr.heap.size, 0, none⟩) 1 1) (hlen : l.length ≤ 10000000) (hb : Below B a0 wr) (hB : B ≤ a0.heap.size)
    (h : ∀ v' w', Own E e w' B v' (l ++ [y]) → Below B a0 w' → wr.grownBy w' v.ownBlock → (v'.ownBlock = v.ownBlock ∨ ∃ k, wr.heap.size ≤ k ∧ v'.ownBlock = some k) → wpList P ops Q rest (a.put o.dst v') w') : wpList P ops Q (o :: rest) a (wr.alloc (.cells cs e)) := by
  have hsz : B ≤ wr.heap.size := Nat.le_trans hB hb.size
  refine wpList_ap T hgd s x hop B v l hs (ho.alloc _) _ _ 1 [y] hx (rd_new wr cs e [y] (by rw [hcs, E.flat_one])) (by simp; omega) (by simp; omega) fun v' w' ho' hg hat => ?_
  refine h v' w' ho' (below_own (hb.alloc hsz _) (ho.alloc _) hg (by simp; omega)) ⟨hg.os, hg.tape, hg.output, by have := hg.size; simp at this; omega, fun k hk hne => (hg.block k (by simp; omega) hne).trans (Below.heap_alloc wr _ k hk)⟩ ?_
  rcases hat with e | e
  · exact .inl e
  · exact .inr ⟨_, by simp, e⟩

/-- Two slices of the call's own do not share a block. -/
def Apart (v v' : Value) : Prop := v.ownBlock = none ∨ v.ownBlock ≠ v'.ownBlock
theorem Apart.symm {v v' : Value} (h : Apart v v') : Apart v' v := by
  rcases h with h | h
  · cases hv : v'.ownBlock with
    | none => exact .inl hv
    | some k => exact .inr (by rw [h, hv]; simp)
  · exact .inr h.symm
/-- behind an append to the second -/
theorem Apart.grown {α : Type} {E : Enc α} {e : TypeId} {w : World} {base : Nat} {v v1 v2 : Value} {l : List α} (h : Apart v v1) (ho : Own E e w base v l) (hat : v2.ownBlock = v1.ownBlock ∨ ∃ k, w.heap.size ≤ k ∧ v2.ownBlock = some k) : Apart v v2 := by
  rcases hat with e | ⟨k, hk, e⟩
  · rcases h with h | h
    · exact .inl h
    · exact .inr (by rw [e]; exact h)
  · cases hv : v.ownBlock with
    | none => exact .inl hv
    | some j =>
      right
      have := (ho.lt j hv).2
      rw [hv, e]
      intro e'
      injection e'
      omega
theorem own_ne {v1 v2 : Value} {n1 n2 : Nat} (h1 : ∀ k, v1.ownBlock = some k → k < n1) (h2 : ∀ k, v2.ownBlock = some k → n2 ≤ k) (h : n1 ≤ n2) : v1.ownBlock = none ∨ v1.ownBlock ≠ v2.ownBlock := by
  cases hv : v1.ownBlock with
  | none => exact .inl rfl
  | some k =>
    right
    intro e
    have := h1 k hv
    have := h2 k e.symm
    omega
theorem own_ne' {v1 v2 : Value} {n1 n2 : Nat} (h1 : ∀ k, v1.ownBlock = some k → n1 ≤ k) (h2 : ∀ k, v2.ownBlock = some k → k < n2) (h : n2 ≤ n1) : v1.ownBlock = none ∨ v1.ownBlock ≠ v2.ownBlock := by
  cases hv : v1.ownBlock with
  | none => exact .inl rfl
  | some k =>
    right
    intro e
    have := h1 k hv
    have := h2 k e.symm
    omega

/-- the same behind draws -/
theorem wpList_ap1d {α : Type} {E : Enc α} {P : Program} {t e : TypeId} {z : Value} {bytes : Nat} (T : SlT P E t e z bytes) {ops : Array Oper} {rest : List Oper} {o : Oper} {a : Act} {Q : Exit → Act → World → Prop} (hgd : o.guard = none) (s x : Operand)
    (hop : o.op = .call { callee := .builtin .append, args := #[s, x], argTypes := #[t, t] })
    (wr : World) (nq : Nat) (cs : Array Value) (y : α) (hcs : cs.toList = E.cells y) (a0 : World) (B : Nat) (v : Value) (l : List α) (hs : a.eval s = v) (ho : Own E e wr B v l)
    (hx : a.eval x = .slice (some ⟨wr.heap.size, 0, none⟩) 1 1) (hlen : l.length ≤ 10000000) (hb : Below B a0 wr) (hB : B ≤ a0.heap.size)
    (h : ∀ v' w', Own E e w' B v' (l ++ [y]) → Below B a0 w' → wr.grownBy w' v.ownBlock → (v'.ownBlock = v.ownBlock ∨ ∃ k, wr.heap.size ≤ k ∧ v'.ownBlock = some k) → wpList P ops Q rest (a.put o.dst v') w') : wpList P ops Q (o :: rest) a ((wr.alloc (.cells cs e)).drewN nq) :=
  wpList_ap1 T hgd s x hop (wr.drewN nq) cs y hcs a0 B v l hs ho hx hlen (below_drewN hb nq) hB fun v' w' h1 h2 h3 h4 => h v' w' h1 h2 ⟨h3.os, h3.tape, h3.output, h3.size, h3.block⟩ h4
/-- a number's list kept while another slice of the call's own grows -/
theorem Own.kept' {α : Type} {E : Enc α} {e : TypeId} {w w' : World} {base : Nat} {v v1 : Value} {l : List α} (h : Own E e w base v l) (hg : w.grownBy w' v1.ownBlock) (ha : Apart v v1) : Own E e w' base v l := h.kept hg ha

/-- a pop: the slice one shorter still is the call's own -/
theorem Own.pop {α : Type} {E : Enc α} {e : TypeId} {w : World} {base : Nat} {A : Option Addr} {n c : Nat} {l : List α} (h : Own E e w base (.slice A n c) l) (m : Nat) (hm : m ≤ n) : Own E e w base (.slice A m c) (l.take m) := by
  have hn := h.rd.2.1
  have hlen : (l.take m).length = m := by rw [List.length_take]; omega
  unfold Own
  rw [hlen]
  rcases h.2 with ⟨hv, h0⟩ | ⟨g, cap, cur, hv, hb, hg, hnc, hcm, hcs, htake⟩
  · injection hv with e1 e2 e3
    subst e1 e3
    have : m = 0 := by omega
    subst this
    exact ⟨by simp [Enc.flat], .inl ⟨rfl, rfl⟩⟩
  · injection hv with e1 e2 e3
    subst e1 e3
    refine ⟨by rw [E.flat_len, hlen], .inr ⟨g, c, cur, rfl, hb, hg, by omega, hcm, hcs, ?_⟩⟩
    have hle : m * E.sz ≤ l.length * E.sz := Nat.mul_le_mul_right _ (by omega)
    have h1 : cur.toList.take (m * E.sz) = (E.flat l).take (m * E.sz) := by rw [← htake, List.take_take, Nat.min_eq_left hle]
    rw [h1]
    have h2 : E.flat l = E.flat (l.take m) ++ E.flat (l.drop m) := by rw [← E.flat_append, List.take_append_drop]
    rw [h2, List.take_append_of_le_length (by rw [E.flat_len, hlen]; exact Nat.le_refl _), List.take_of_length_le (by rw [E.flat_len, hlen]; exact Nat.le_refl _)]
end Go.Proofs.Ytbbnibjnjmmmnaa
