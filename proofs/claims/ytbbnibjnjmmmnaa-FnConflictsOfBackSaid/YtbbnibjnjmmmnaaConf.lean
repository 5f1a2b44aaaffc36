/-
  Conflicts: the contract of the reference's test.
-/
import Derived.Test.YtbbnibjnjmmmnaaPConf
namespace Go.Proofs.Ytbbnibjnjmmmnaa
open Go.RowKit

theorem folB_hit {h : List Acc} {a b : Int} {i k : Nat} (hik : i < k) (hk : k < h.length) (hp : pairB a b h[i] h[k] = true) : folB h a b = !(a == b) := by
  have : Fol h a b := ⟨i, k, h[i], h[k], hik, List.getElem?_eq_getElem _, List.getElem?_eq_getElem _, hp⟩
  simp [folB, this]
def noTo (h : List Acc) (a b : Int) (i k : Nat) : Prop := ∀ i' k' (_ : i' < h.length) (_ : k' < h.length), i' < k' → (i' < i ∨ (i' = i ∧ k' < k)) → pairB a b h[i'] h[k'] = false
theorem noTo_start (h : List Acc) (a b : Int) : noTo h a b 0 1 := fun i' k' _ _ h1 h2 => by omega
theorem noTo_out {h : List Acc} {a b : Int} {i : Nat} (hn : noTo h a b i h.length) : noTo h a b (i + 1) (i + 2) := fun i' k' hi hk h1 h2 => hn i' k' hi hk h1 (by omega)
theorem noTo_in {h : List Acc} {a b : Int} {i k : Nat} (hn : noTo h a b i k) (hik : i < k) (hk : k < h.length) (hp : pairB a b h[i] h[k] = false) : noTo h a b i (k + 1) := fun i' k' hi hk' h1 h2 => by
  by_cases e : i' = i ∧ k' = k
  · obtain ⟨rfl, rfl⟩ := e; exact hp
  · exact hn i' k' hi hk' h1 (by omega)
theorem folB_miss {h : List Acc} {a b : Int} {i : Nat} (hn : noTo h a b i (i + 1)) (hi : h.length ≤ i) : folB h a b = false := by
  have : ¬ Fol h a b := by
    rintro ⟨i', k, x, y, h1, h2, h3, h4⟩
    obtain ⟨hi', rfl⟩ := List.getElem?_eq_some_iff.1 h2
    obtain ⟨hk', rfl⟩ := List.getElem?_eq_some_iff.1 h3
    rw [hn i' k hi' hk' h1 (by omega)] at h4; cases h4
  simp [folB, this]

/-- the world but for draws -/
def Dr (w w' : World) : Prop := ∃ n, w' = w.drewN n
theorem Dr.refl (w : World) : Dr w w := ⟨0, rfl⟩
theorem Dr.drewN {a w : World} (h : Dr a w) (n : Nat) : Dr a (w.drewN n) := by
  obtain ⟨m, rfl⟩ := h
  exact ⟨m + n, by simp [World.drewN, Nat.add_assoc]⟩
theorem Dr.trans {a b c : World} (h : Dr a b) (h2 : Dr b c) : Dr a c := by
  obtain ⟨n, rfl⟩ := h2; exact h.drewN n
theorem Dr.below {w w' : World} (h : Dr w w') (B : Nat) : Below B w w' := by
  obtain ⟨n, rfl⟩ := h; exact below_drewN (Below.refl _ _) n
theorem Rd.dr {α : Type} {E : Enc α} {w w' : World} {B : Nat} {A : Option Addr} {l : List α} (h : Rd E w B A l) (hd : Dr w w') : Rd E w' B A l := h.below (hd.below B) (Nat.le_refl _)

set_option maxRecDepth 100000 in
set_option maxHeartbeats 4000000 in
theorem mustFollow_c (A : Option Addr) (c : Nat) (h : List Acc) (a b : Int) (B : Nat) (w : World) (hr : Rd accE w B A h) (hl : h.length ≤ 1048576) :
    Calls Try.prog 67 #[.slice A h.length c, .int .i64 a, .int .i64 b] w fun e w' => e = .returned (.bool (folB h a b)) ∧ Dr w w' := by
  have H := Lib.hid hr
  clear hr
  go_enter Try.func67, Try.ntmps67
  go_wp2_with fail
  go_loopw [7, 8] (fun i _ wr => ∃ n : Nat, n ≤ h.length ∧ i = .int .i64 n ∧ Hid (noTo h a b n (n + 1)) ∧ Dr w wr) (fun i _ _ => h.length - (intOf i).toNat)
  case atStart => exact ⟨0, by omega, rfl, Lib.hid (noTo_start h a b), Dr.refl w⟩
  case round =>
    obtain ⟨n, hn, rfl, hno, hdr⟩ := hrel
    have R0 := Lib.hid hdr
    clear hdr
    by_cases hlt : n < h.length
    · go_wp2_with fail
      go_loopw [8] (fun k wr' => ∃ m : Nat, n < m ∧ m ≤ h.length ∧ k = .int .i64 m ∧ Hid (noTo h a b n m) ∧ Dr w wr') (fun k _ => h.length - (intOf k).toNat)
      case atStart => exact ⟨n + 1, by omega, by omega, by go_num, hno, R0.out⟩
      case round =>
        obtain ⟨m, hnm, hm, rfl, hnoi, hdr⟩ := hrel
        by_cases hlt2 : m < h.length
        · obtain ⟨bb, o, rfl, hb, c0, c1, c2⟩ := (H.out.dr hdr).acc hlt
          obtain ⟨b', o', e', hb', d0, d1, d2⟩ := (H.out.dr hdr).acc hlt2
          cases e'
          have R := Lib.hid hdr
          clear hdr
          by_cases hp : pairB a b h[n] h[m] = true
          · have F := Lib.hid (folB_hit hnm hlt2 hp)
            simp only [pairB, Bool.and_eq_true, Bool.or_eq_true] at hp
            obtain ⟨⟨e1, e2⟩, e3, e4⟩ := hp
            have hw : (h[n].write = true) ∨ (h[n].write = false ∧ h[m].write = true) := by
              cases h5 : h[n].write
              · right; rw [h5] at e4; simpa using e4
              · left; rfl
            clear e4
            rcases hw with e4 | ⟨e4, e5⟩
            all_goals
              go_wp2_with fail
              go_quiet (fail)
              go_wp2_with fail
              go_ret
              exact ⟨ret_bool (by rw [F.out]; rfl), R.out.drewN _⟩
          · rw [Bool.not_eq_true] at hp
            have hN := Lib.hid (noTo_in hnoi.out hnm hlt2 hp)
            have hw : (h[n].who == a) = false ∨ ((h[n].who == a) = true ∧ (h[m].who == b) = false) ∨ ((h[n].who == a) = true ∧ (h[m].who == b) = true ∧ (h[n].node == h[m].node) = false) ∨ ((h[n].who == a) = true ∧ (h[m].who == b) = true ∧ (h[n].node == h[m].node) = true ∧ h[n].write = false ∧ h[m].write = false) := by
              simp only [pairB] at hp
              cases h1 : (h[n].who == a) <;> cases h2 : (h[m].who == b) <;> cases h3 : (h[n].node == h[m].node) <;> cases h4 : h[n].write <;> cases h5 : h[m].write <;> simp_all
            clear hp
            rcases hw with e1 | ⟨e1, e2⟩ | ⟨e1, e2, e3⟩ | ⟨e1, e2, e3, e4, e5⟩
            all_goals
              go_wp2_with fail
              go_quiet (fail)
              go_wp2_with fail
              go_roundw
              case rel => exact ⟨m + 1, by omega, by omega, by go_num, hN, R.out.drewN _⟩
              case measure => simp [intOf]; omega
        · have e : m = h.length := by omega
          subst e
          have R := Lib.hid hdr
          clear hdr
          go_wp2_with fail
          go_roundw
          case rel => exact ⟨n + 1, by omega, by go_num, Lib.hid (noTo_out hnoi.out), R.out⟩
          case measure => simp [intOf]; omega
    · have F := Lib.hid (folB_miss hno.out (by omega))
      go_wp2_with fail
      go_ret
      exact ⟨ret_bool F.out.symm, R0.out⟩
end Go.Proofs.Ytbbnibjnjmmmnaa
