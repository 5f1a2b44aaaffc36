/-
  How a code of bytes opens.
-/
import Derived.Test.YtbbnibjnjmmmnaaGen
import Derived.Test.YtbbnibjnjmmmnaaFrame
namespace Go.Proofs.Ytbbnibjnjmmmnaa
open Go.ChangeShapes Go.WideShapes Go.ChangeAt Go.RowKit

theorem cell_lt' {w : World} {b o : Nat} {v : Value} (h : w.cell? ⟨b, o, none⟩ = some v) : b < w.heap.size := by
  rcases Nat.lt_or_ge b w.heap.size with h1 | h1
  · exact h1
  · simp [World.cell?, Array.getElem?_eq_none h1] at h

theorem open_bytes_at {H : Type} {enc : TypeId × Value → H} {P : Program} {W : World} {r : Reach} {b0 : Nat} {held : Bool} {t e : TypeId} {v : Value} {d : DataW H} {p : List MemPlace}
    (ht : P.underlying t = some (.slice e)) (he : P.underlying e = some (.int .u8)) (ce : P.cellsOf e = 1)
    (hv : Value.okWide P W r b0 t v) (h : DataW.Trod enc P W 0 (fun _ => true) held t v d p) :
    ∃ A c l, v = .slice A (l.length) c ∧ BytesAt W W.heap.size A l ∧ (l.length ≤ c ∧ c ≤ maxLen) := by
  obtain ⟨a0, len, cap, rfl⟩ := okWide_slice ht hv
  obtain ⟨fuel, hf⟩ := h
  rcases open_ints ht he ce hf with ⟨hcs, _⟩ | ⟨a, len', cap', zs, hcs, _, hl, hm, hz, _, hcell, hwz⟩
  · simp [Value.cells] at hcs
    obtain ⟨rfl, rfl, rfl⟩ := hcs
    exact ⟨none, 0, [], rfl, ⟨by simp, .inl rfl⟩, by simp, by simp⟩
  · simp [Value.cells] at hcs
    obtain ⟨rfl, rfl, rfl⟩ := hcs
    simp only [if_true] at hz
    have hlen : (zs.take len).length = len := by rw [List.length_take]; omega
    refine ⟨some a, cap, zs.take len, by rw [hlen], ⟨fun x hx => ?_, ?_⟩, by rw [hlen]; exact hl, hm⟩
    · have := hwz x (List.mem_of_mem_take hx)
      have := bounds_u8 this
      omega
    · rcases Nat.eq_zero_or_pos zs.length with h0 | h0
      · left
        exact List.eq_nil_of_length_eq_zero (by rw [hlen]; omega)
      · right
        obtain ⟨b, off, rfl, hc⟩ := ints_at hcell h0
        refine ⟨b, off, rfl, cell_lt' (hc 0 h0), fun k x hx => ?_⟩
        rw [List.getElem?_take] at hx
        split at hx
        · have hk : k < zs.length := by
            rcases Nat.lt_or_ge k zs.length with h1 | h1
            · exact h1
            · rw [List.getElem?_eq_none h1] at hx; cases hx
          rw [hc k hk]
          simp [List.getD, hx]
        · cases hx

theorem open_bytes {H : Type} {enc : TypeId × Value → H} {W : World} {r : Reach} {b0 : Nat} {held : Bool} {v : Value} {d : DataW H} {p : List MemPlace}
    (hv : Value.okWide Try.prog W r b0 25 v) (h : DataW.Trod enc Try.prog W 0 (fun _ => true) held 25 v d p) :
    ∃ A c l, v = .slice A (l.length) c ∧ BytesAt W W.heap.size A l ∧ (l.length ≤ c ∧ c ≤ maxLen) :=
  open_bytes_at Try.underlying25 Try.underlying5 (by kernel_rfl) hv h

end Go.Proofs.Ytbbnibjnjmmmnaa
