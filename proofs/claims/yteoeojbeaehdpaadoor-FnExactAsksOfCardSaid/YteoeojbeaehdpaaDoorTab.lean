/-
  From what a row lists of the program's two tables to what the walks read: cell by cell.
-/
import Derived.Test.YteoeojbeaehdpaaDoorMode
import Derived.Test.YteoeojbeaehdpaaDoorFrame
import Derived.Test.YteoeojbeaehdpaaDoorRows
import Derived.Lib.LaidTab
import Derived.Deep.DeepHandedRow
namespace Go.Proofs.YteoeojbeaehdpaaDoor
open Go.ChangeShapes Go.WideShapes Go.ChangeAt Go.RowKit

theorem laid_mem {P : Program} {w : World} {n : String} {d : DataW Unit} : ∀ {l : List (String × DataW Unit)} {ps : List MemPlace}, DataW.LaidVars P w l ps → (n, d) ∈ l →
    ∃ g t cs fuel p, P.globalNamed n = some g ∧ (P.globals[g]?).map (·.type) = some t ∧ w.var? P n = some cs ∧ DataW.trod (fun _ => ()) P w 0 (fun _ => true) false fuel t cs.toList = some (d, p)
  | [], _, _, hm => by cases hm
  | (_, _) :: _, _, h, hm => by
    obtain ⟨g, t, cs, fuel, p, q, h1, h2, h3, h4, hs, _⟩ := h
    cases hm with
    | head => exact ⟨g, t, cs, fuel, p, h1, h2, h3, h4⟩
    | tail _ hm => exact laid_mem hs hm

/-- An array of six arrays of six one-cell elements, opened at one element. -/
theorem nested_at {H : Type} {enc : TypeId × Value → H} {P : Program} {w : World} {base : Nat} {sp : Nat → Bool} {held : Bool} {fuel : Nat} {t r e : TypeId} {cs : List Value} {rows : List (List (DataW H))} {p : List MemPlace}
    (ht : P.underlying t = some (.array 6 r)) (hr : P.underlying r = some (.array 6 e)) (cr : P.cellsOf r = 6) (ce : P.cellsOf e = 1)
    (h : DataW.trod enc P w base sp held fuel t cs = some (.agg (rows.map .agg), p)) (i j : Nat) (hi : i < 6) (hj : j < 6) :
    ∃ v y m, cs[i * 6 + j]? = some v ∧ DataW.trod enc P w base sp held m e [v] = some y ∧ (rows[i]?.bind (·[j]?)) = some y.1 := by
  obtain ⟨xs, m, _, hx, hl, hxl, hf⟩ := DataW.trod_array ht h
  simp only [Prod.mk.injEq, DataW.agg.injEq] at hx
  have h1 := hf i hi
  rw [cr] at h1
  obtain ⟨xi, hxi⟩ : ∃ xi, xs[i]? = some xi := ⟨xs[i], List.getElem?_eq_getElem (by omega)⟩
  rw [hxi] at h1
  obtain ⟨ys, m', _, hy, hl', hyl, hg⟩ := DataW.trod_array hr h1
  have h2 := hg j hj
  rw [ce, Nat.mul_one] at h2
  obtain ⟨yj, hyj⟩ : ∃ yj, ys[j]? = some yj := ⟨ys[j], List.getElem?_eq_getElem (by omega)⟩
  rw [hyj] at h2
  have hrow : (rows.map DataW.agg)[i]? = some xi.1 := by rw [hx.1]; simp [hxi]
  rw [List.getElem?_map] at hrow
  rw [List.length_take, List.length_drop, cr] at hl'
  have hlen : i * 6 + j < cs.length := by omega
  refine ⟨cs[i * 6 + j], yj, m', List.getElem?_eq_getElem hlen, ?_, ?_⟩
  · rw [← h2]
    congr 1
    rw [List.drop_take, List.drop_drop, List.take_take]
    rw [show min 1 (6 - j) = 1 by omega, List.drop_eq_getElem_cons hlen]
    rfl
  · cases hri : rows[i]? with
    | none => rw [hri] at hrow; cases hrow
    | some ri =>
      rw [hri] at hrow
      simp only [Option.map_some, Option.some.injEq] at hrow
      rw [hy] at hrow
      simp only [DataW.agg.injEq] at hrow
      simp [hrow, hyj]

def joinRows {H : Type} : List (List (DataW H)) := [0, 1, 2, 3, 4, 5].map fun i => [0, 1, 2, 3, 4, 5].map fun j => .lit (.int .i64 (joinTab.getD (i * 6 + j) 0))
theorem jtab_of {W : World} {n : String} {l : List (String × DataW Unit)} (hn : Tryd.prog.globalNamed n = some 1) (h : laidMet Tryd.prog l W) (hm : (n, Rows.laid_loop_example_treelocks_impl_joined) ∈ l) : JTab W := by
  obtain ⟨ps, hv, _, _⟩ := h
  obtain ⟨g, t, cs, fuel, p, h1, h2, h3, h4⟩ := laid_mem hv hm
  obtain rfl : g = 1 := Option.some.inj (h1.symm.trans hn)
  obtain rfl : t = 91 := Option.some.inj (h2.symm.trans (by kernel_rfl : (Tryd.prog.globals[1]?).map (·.type) = some 91))
  intro i hi
  have e : (Rows.laid_loop_example_treelocks_impl_joined : DataW Unit) = .agg (joinRows.map .agg) := rfl
  rw [e] at h4
  have c1 : Tryd.prog.cellsOf 90 = 6 := by kernel_rfl
  have c2 : Tryd.prog.cellsOf 3 = 1 := by kernel_rfl
  obtain ⟨v, y, m, hv1, hv2, hv3⟩ := nested_at Tryd.underlying91 Tryd.underlying90 c1 c2 h4 (i / 6) (i % 6) (by omega) (Nat.mod_lt _ (by omega))
  rw [show i / 6 * 6 + i % 6 = i by omega] at hv1
  obtain ⟨k, e1, e2, _⟩ := DataW.trod_int Tryd.underlying3 hv2
  obtain rfl : v = .int .i64 k := by simpa using e1
  have hc := World.var?_cell h1 h3 i
  have h5 : cs[i]? = some (.int .i64 k) := by simpa using hv1
  rw [hc, h5]
  rw [e2] at hv3
  have hk : ∀ i, i < 36 → ∀ k, ((joinRows (H := Unit))[i / 6]?.bind (·[i % 6]?)) = some (.lit (.int .i64 k)) → k = joinTab.getD i 0 := by
    intro i hi k h
    have : i ∈ List.range 36 := by simpa using hi
    simp only [List.mem_range] at this
    have h6 : (i / 6 < 6) := by omega
    have h7 : (i % 6 < 6) := Nat.mod_lt _ (by omega)
    have : ∀ a b, a < 6 → b < 6 → ((joinRows (H := Unit))[a]?.bind (·[b]?)) = some (.lit (.int .i64 (joinTab.getD (a * 6 + b) 0))) := by
      intro a b ha hb
      rcases (by omega : a = 0 ∨ a = 1 ∨ a = 2 ∨ a = 3 ∨ a = 4 ∨ a = 5) with rfl | rfl | rfl | rfl | rfl | rfl <;> rcases (by omega : b = 0 ∨ b = 1 ∨ b = 2 ∨ b = 3 ∨ b = 4 ∨ b = 5) with rfl | rfl | rfl | rfl | rfl | rfl <;> rfl
    rw [this _ _ h6 h7, show i / 6 * 6 + i % 6 = i by omega] at h
    simpa using h.symm
  rw [hk i hi k hv3]
def togRows {H : Type} : List (List (DataW H)) := [0, 1, 2, 3, 4, 5].map fun i => [0, 1, 2, 3, 4, 5].map fun j => .lit (.bool (togTab.getD (i * 6 + j) false))
theorem ttab_of {W : World} {n : String} {l : List (String × DataW Unit)} (hn : Tryd.prog.globalNamed n = some 0) (h : laidMet Tryd.prog l W) (hm : (n, Rows.laid_loop_example_treelocks_impl_together) ∈ l) : TTab W := by
  obtain ⟨ps, hv, _, _⟩ := h
  obtain ⟨g, t, cs, fuel, p, h1, h2, h3, h4⟩ := laid_mem hv hm
  obtain rfl : g = 0 := Option.some.inj (h1.symm.trans hn)
  obtain rfl : t = 89 := Option.some.inj (h2.symm.trans (by kernel_rfl : (Tryd.prog.globals[0]?).map (·.type) = some 89))
  intro i hi
  have e : (Rows.laid_loop_example_treelocks_impl_together : DataW Unit) = .agg (togRows.map .agg) := rfl
  rw [e] at h4
  have c1 : Tryd.prog.cellsOf 88 = 6 := by kernel_rfl
  have c2 : Tryd.prog.cellsOf 4 = 1 := by kernel_rfl
  obtain ⟨v, y, m, hv1, hv2, hv3⟩ := nested_at Tryd.underlying89 Tryd.underlying88 c1 c2 h4 (i / 6) (i % 6) (by omega) (Nat.mod_lt _ (by omega))
  rw [show i / 6 * 6 + i % 6 = i by omega] at hv1
  obtain ⟨k, e1, e2⟩ := DataW.trod_bool Tryd.underlying4 hv2
  obtain rfl : v = .bool k := by simpa using e1
  have hc := World.var?_cell h1 h3 i
  have h5 : cs[i]? = some (.bool k) := by simpa using hv1
  rw [hc, h5]
  rw [e2] at hv3
  have hk : ∀ i, i < 36 → ∀ k, ((togRows (H := Unit))[i / 6]?.bind (·[i % 6]?)) = some (.lit (.bool k)) → k = togTab.getD i false := by
    intro i hi k h
    have h6 : (i / 6 < 6) := by omega
    have h7 : (i % 6 < 6) := Nat.mod_lt _ (by omega)
    have : ∀ a b, a < 6 → b < 6 → ((togRows (H := Unit))[a]?.bind (·[b]?)) = some (.lit (.bool (togTab.getD (a * 6 + b) false))) := by
      intro a b ha hb
      rcases (by omega : a = 0 ∨ a = 1 ∨ a = 2 ∨ a = 3 ∨ a = 4 ∨ a = 5) with rfl | rfl | rfl | rfl | rfl | rfl <;> rcases (by omega : b = 0 ∨ b = 1 ∨ b = 2 ∨ b = 3 ∨ b = 4 ∨ b = 5) with rfl | rfl | rfl | rfl | rfl | rfl <;> rfl
    rw [this _ _ h6 h7, show i / 6 * 6 + i % 6 = i by omega] at h
    simpa using h.symm
  rw [hk i hi k hv3]
end Go.Proofs.YteoeojbeaehdpaaDoor
