/-
  The contracts of the reader that draws arguments out of a code: whatever the code, a pick is a number below its bound, and only the reader's own block turns.
-/
import Derived.Test.YtbbnibjnjmmmnaaMode
import Derived.BigQuiet
import Derived.Deep.QuietTactic
import Derived.Laws.BitsAllLaws
import Derived.Laws.BitsLemmas
namespace Go.Proofs.Ytbbnibjnjmmmnaa
open Go.RowKit

theorem ofInt_i64 (a : Nat) (ha : a < 9223372036854775808) : (BitVec.ofInt 64 (a : Int)).toNat = a := by
  rw [BitVec.ofInt_natCast, BitVec.toNat_ofNat]; exact Nat.mod_eq_of_lt (by omega)
theorem i64_xor_nat (a b : Nat) (ha : a < 9223372036854775808) (hb : b < 9223372036854775808) : bits .xor .i64 (a : Int) (b : Int) = ((a ^^^ b : Nat) : Int) := by
  have hx : a ^^^ b < 2 ^ 63 := Nat.xor_lt_two_pow (by omega) (by omega)
  show IntKind.i64.wrap ((BitVec.ofInt 64 (a : Int) ^^^ BitVec.ofInt 64 (b : Int)).toNat : Int) = _
  rw [BitVec.toNat_xor, ofInt_i64 a ha, ofInt_i64 b hb, IntKind.wrap_i64]
  omega
theorem far_ok (x y n : Int) (p L : Nat) (hx : 0 ≤ x ∧ x ≤ 255) (hy : 0 ≤ y ∧ y ≤ 255) (hn : 1 ≤ n) (hp : p ≤ 100000) (_ : 0 < L) :
    0 ≤ (bits BinOp.xor IntKind.i64 (wrap64 (x * 131 + y * 1117 + (p : Int) * 29 + wrap64 (wrap64 ((p : Int) / (L : Int)) * 53))) (wrap64 ((wrap64 (x * 131 + y * 1117 + (p : Int) * 29 + wrap64 (wrap64 ((p : Int) / (L : Int)) * 53))).tdiv 64))).tmod n ∧
      (bits BinOp.xor IntKind.i64 (wrap64 (x * 131 + y * 1117 + (p : Int) * 29 + wrap64 (wrap64 ((p : Int) / (L : Int)) * 53))) (wrap64 ((wrap64 (x * 131 + y * 1117 + (p : Int) * 29 + wrap64 (wrap64 ((p : Int) / (L : Int)) * 53))).tdiv 64))).tmod n < n := by
  have hq : (p : Int) / (L : Int) = ((p / L : Nat) : Int) := by simp
  have hq2 : p / L ≤ p := Nat.div_le_self _ _
  rw [hq]
  generalize p / L = q at hq2
  rw [IntWalk.wrap64_in (q : Int) ⟨by omega, by omega⟩, IntWalk.wrap64_in ((q : Int) * 53) ⟨by omega, by omega⟩, IntWalk.wrap64_in _ ⟨by omega, by omega⟩]
  obtain ⟨a, ha⟩ := Int.eq_ofNat_of_zero_le (show 0 ≤ x * 131 + y * 1117 + (p : Int) * 29 + (q : Int) * 53 by omega)
  have ha2 : a < 100000000 := by omega
  rw [ha]
  have ht : ((a : Int)).tdiv 64 = ((a / 64 : Nat) : Int) := by rw [Int.tdiv_eq_ediv_of_nonneg (by omega)]; simp
  rw [ht, IntWalk.wrap64_in _ ⟨by omega, by omega⟩, i64_xor_nat a (a / 64) (by omega) (by omega), Int.tmod_eq_emod_of_nonneg (by omega)]
  exact ⟨Int.emod_nonneg _ (by omega), Int.emod_lt_of_pos _ (by omega)⟩

/-- The bytes l lie from A on, below block B. -/
def BytesAt (w : World) (B : Nat) (A : Option Addr) (l : List Int) : Prop :=
  (∀ x ∈ l, 0 ≤ x ∧ x ≤ 255) ∧ (l = [] ∨ ∃ b o, A = some ⟨b, o, none⟩ ∧ b < B ∧ ∀ k x, l[k]? = some x → w.cell? ⟨b, o + k, none⟩ = some (.int .u8 x))

/-- Block g is a reader of the bytes l that has picked p times. -/
def Rdr (w : World) (g : Nat) (l : List Int) (p : Nat) : Prop :=
  l.length ≤ 2000 ∧ p ≤ 100000 ∧ ∃ A c, w.heap[g]? = some (.cells #[.slice A l.length c, .int .i64 p] 87 (0, 0)) ∧ BytesAt w g A l

set_option maxHeartbeats 400000 in
theorem pick_zero (n : Int) (hn : n < 1) (g : Nat) (l : List Int) (p : Nat) (w : World) (h : Rdr w g l p) :
    Calls Try.prog 80 #[.pointer (some ⟨g, 0, none⟩), .int .i64 n] w fun e w' => e = .returned (.int .i64 0) ∧ w.setCell ⟨g, 1, none⟩ (.int .i64 (p + 1)) = w' := by
  obtain ⟨h1, h2, A, c, hg, hby⟩ := h
  have c0 : w.cell? ⟨g, 0, none⟩ = some (.slice A l.length c) := by simp [World.cell?, hg]
  have c1 : w.cell? ⟨g, 1, none⟩ = some (.int .i64 p) := by simp [World.cell?, hg]
  have f1 : w.frozen? ⟨g, 1, none⟩ = false := by simp [World.frozen?, hg]
  clear hg hby
  go_enter Try.func80, Try.ntmps80
  go_wp2
  go_ret
  exact ⟨rfl, rfl⟩

set_option maxHeartbeats 400000 in
theorem pick_in (n : Int) (hn : 1 ≤ n) (hn2 : n ≤ 100000) (g : Nat) (l : List Int) (p : Nat) (hp : p < l.length) (w : World) (h : Rdr w g l p) :
    Calls Try.prog 80 #[.pointer (some ⟨g, 0, none⟩), .int .i64 n] w fun e w' => e = .returned (.int .i64 (l[p] % n)) ∧ w.setCell ⟨g, 1, none⟩ (.int .i64 (p + 1)) = w' := by
  obtain ⟨h1, h2, A, c, hg, hb, hby⟩ := h
  have c0 : w.cell? ⟨g, 0, none⟩ = some (.slice A l.length c) := by simp [World.cell?, hg]
  have c1 : w.cell? ⟨g, 1, none⟩ = some (.int .i64 p) := by simp [World.cell?, hg]
  have f1 : w.frozen? ⟨g, 1, none⟩ = false := by simp [World.frozen?, hg]
  rcases hby with rfl | ⟨b, o, rfl, hlt, hcell⟩
  · simp at hp
  have hc := hcell p l[p] (by simp)
  have hne : b ≠ g := by omega
  have hx := hb l[p] (by simp)
  have hl0 : ((l.length : Int) == 0) = false := by rw [beq_eq_false_iff_ne]; omega
  have hn1 : decide (n < 1) = false := by simpa using hn
  clear hg hcell hb
  go_enter Try.func80, Try.ntmps80
  go_wp2
  go_ret
  exact ⟨rfl, rfl⟩

set_option maxHeartbeats 400000 in
theorem pick_none (n : Int) (g : Nat) (p : Nat) (w : World) (h : Rdr w g [] p) :
    Calls Try.prog 80 #[.pointer (some ⟨g, 0, none⟩), .int .i64 n] w fun e w' => e = .returned (.int .i64 0) ∧ w.setCell ⟨g, 1, none⟩ (.int .i64 (p + 1)) = w' := by
  obtain ⟨h1, h2, A, c, hg, hby⟩ := h
  have c0 : w.cell? ⟨g, 0, none⟩ = some (.slice A 0 c) := by simp [World.cell?, hg]
  have c1 : w.cell? ⟨g, 1, none⟩ = some (.int .i64 p) := by simp [World.cell?, hg]
  have f1 : w.frozen? ⟨g, 1, none⟩ = false := by simp [World.frozen?, hg]
  clear hg hby
  by_cases hn : n < 1
  · go_enter Try.func80, Try.ntmps80
    go_wp2
    go_ret
    exact ⟨rfl, rfl⟩
  · have hn1 : decide (n < 1) = false := by simpa using hn
    go_enter Try.func80, Try.ntmps80
    go_wp2
    go_ret
    exact ⟨rfl, rfl⟩

set_option maxHeartbeats 1000000 in
theorem pick_far (n : Int) (hn : 1 ≤ n) (hn2 : n ≤ 100000) (g : Nat) (l : List Int) (hl : l ≠ []) (p : Nat) (hp : l.length ≤ p) (w : World) (h : Rdr w g l p) :
    Calls Try.prog 80 #[.pointer (some ⟨g, 0, none⟩), .int .i64 n] w fun e w' => ∃ x m, e = .returned (.int .i64 x) ∧ 0 ≤ x ∧ x < n ∧ (w.setCell ⟨g, 1, none⟩ (.int .i64 (p + 1))).drewN m = w' := by
  obtain ⟨h1, h2, A, c, hg, hb, hby⟩ := h
  have hlen : 0 < l.length := List.length_pos_iff.2 hl
  have c0 : w.cell? ⟨g, 0, none⟩ = some (.slice A l.length c) := by simp [World.cell?, hg]
  have c1 : w.cell? ⟨g, 1, none⟩ = some (.int .i64 p) := by simp [World.cell?, hg]
  have f1 : w.frozen? ⟨g, 1, none⟩ = false := by simp [World.frozen?, hg]
  rcases hby with rfl | ⟨b, o, rfl, hlt, hcell⟩
  · simp at hlen
  have hne : b ≠ g := by omega
  have i1 : p % l.length < l.length := Nat.mod_lt _ hlen
  have i2 : (p * 7 + 3) % l.length < l.length := Nat.mod_lt _ hlen
  have hc1 := hcell (p % l.length) l[p % l.length] (by simp)
  have hc2 := hcell ((p * 7 + 3) % l.length) l[(p * 7 + 3) % l.length] (by simp)
  have hx1 := hb l[p % l.length] (by simp)
  have hx2 := hb l[(p * 7 + 3) % l.length] (by simp)
  have hl0 : ((l.length : Int) == 0) = false := by rw [beq_eq_false_iff_ne]; omega
  have hn1 : decide (n < 1) = false := by simpa using hn
  have hb1 : (0 : Int) ≤ ((p : Int) * 7 + 3) % (l.length : Int) := Int.emod_nonneg _ (by omega)
  have hb2 : ((p : Int) * 7 + 3) % (l.length : Int) < (l.length : Int) := Int.emod_lt_of_pos _ (by omega)
  clear hg hcell hb hl
  go_enter Try.func80, Try.ntmps80
  go_wp2
  go_quiet (fail)
  go_wp2
  go_ret
  have hfar := far_ok l[p % l.length] l[(p * 7 + 3) % l.length] n p l.length hx1 hx2 hn h2 hlen
  exact ⟨_, _, rfl, hfar.1, hfar.2, rfl⟩

theorem Rdr.lt {w : World} {g : Nat} {l : List Int} {p : Nat} (h : Rdr w g l p) : g < w.heap.size := by
  obtain ⟨_, _, A, c, hg, _⟩ := h
  exact (Array.getElem?_eq_some_iff.1 hg).1
theorem BytesAt.keep {w w' : World} {B : Nat} {A : Option Addr} {l : List Int} (h : BytesAt w B A l) (hk : ∀ k, k < B → w'.heap[k]? = w.heap[k]?) : BytesAt w' B A l := by
  refine ⟨h.1, ?_⟩
  rcases h.2 with h0 | ⟨b, o, rfl, hlt, hc⟩
  · exact .inl h0
  · exact .inr ⟨b, o, rfl, hlt, fun k x hx => by rw [World.cell?_of_block (w := w) (hk b hlt)]; exact hc k x hx⟩
theorem Rdr.next {w : World} {g : Nat} {l : List Int} {p : Nat} (h : Rdr w g l p) (hp : p < 100000) : Rdr (w.setCell ⟨g, 1, none⟩ (.int .i64 (p + 1))) g l (p + 1) := by
  obtain ⟨h1, h2, A, c, hg, hb⟩ := h
  refine ⟨h1, by omega, A, c, ?_, hb.keep fun k hk => Below.heap_setCell _ _ _ _ (by show k ≠ g; omega)⟩
  simp [World.setCell, Array.getElem?_modify, hg]
theorem Rdr.drewN {w : World} {g : Nat} {l : List Int} {p : Nat} (h : Rdr w g l p) (m : Nat) : Rdr (w.drewN m) g l p := h
/-- What lies elsewhere may grow or turn. -/
theorem Rdr.below {w w' : World} {B g : Nat} {l : List Int} {p : Nat} (h : Rdr w g l p) (hb : Below B w w') (hg : g < B) : Rdr w' g l p := by
  obtain ⟨h1, h2, A, c, hh, hby⟩ := h
  exact ⟨h1, h2, A, c, by rw [hb.block g hg]; exact hh, hby.keep fun k hk => hb.block k (by omega)⟩

theorem grownBy_setCell (w : World) (g i : Nat) (v : Value) : w.grownBy (w.setCell ⟨g, i, none⟩ v) (some g) :=
  ⟨rfl, rfl, rfl, by simp [World.setCell], fun k _ hne => Below.heap_setCell _ _ _ _ (fun e => hne (by rw [e]))⟩
theorem grownBy_drewN {a w : World} {row : Option Nat} (h : a.grownBy w row) (n : Nat) : a.grownBy (w.drewN n) row := ⟨h.os, h.tape, h.output, h.size, h.block⟩
theorem below_of_grown {w w' : World} {g B : Nat} (h : w.grownBy w' (some g)) (hB : B ≤ g) (hB2 : B ≤ w.heap.size) : Below B w w' :=
  ⟨h.os, h.tape, h.output, h.size, fun k hk => h.block k (by omega) (fun e => by injection e; omega)⟩

/-- A pick, whatever the reader: a number below the bound; only the reader's block turns. -/
theorem pick_c (n : Int) (hn : 1 ≤ n) (hn2 : n ≤ 100000) (g : Nat) (l : List Int) (p : Nat) (hp : p < 100000) (w : World) (h : Rdr w g l p) :
    Calls Try.prog 80 #[.pointer (some ⟨g, 0, none⟩), .int .i64 n] w fun e w' => ∃ x, 0 ≤ x ∧ x < n ∧ e = .returned (.int .i64 x) ∧ Rdr w' g l (p + 1) ∧ w.grownBy w' (some g) ∧ w'.heap.size = w.heap.size := by
  have hsz : ∀ v, (w.setCell ⟨g, 1, none⟩ v).heap.size = w.heap.size := fun v => by simp [World.setCell]
  by_cases hl : l = []
  · subst hl
    refine (pick_none n g p w h).mono ?_
    rintro e w' ⟨rfl, rfl⟩
    exact ⟨0, by omega, by omega, rfl, h.next hp, grownBy_setCell _ _ _ _, hsz _⟩
  · by_cases hlt : p < l.length
    · refine (pick_in n hn hn2 g l p hlt w h).mono ?_
      rintro e w' ⟨rfl, rfl⟩
      exact ⟨_, Int.emod_nonneg _ (by omega), Int.emod_lt_of_pos _ (by omega), rfl, h.next hp, grownBy_setCell _ _ _ _, hsz _⟩
    · refine (pick_far n hn hn2 g l hl p (by omega) w h).mono ?_
      rintro e w' ⟨x, m, rfl, hx, hx2, rfl⟩
      exact ⟨x, hx, hx2, rfl, h.next hp, grownBy_drewN (grownBy_setCell _ _ _ _) _, hsz _⟩

set_option maxHeartbeats 400000 in
/-- one of the numbers of a list that lies whole in a block other than the reader's -/
theorem one_c (g : Nat) (l : List Int) (p : Nat) (hp : p < 100000) (w : World) (h : Rdr w g l p) (b n c : Nat) (xs : List Int) (hn : 1 ≤ n) (hn2 : n ≤ 100000) (hlen : n ≤ xs.length)
    (hc : ∀ k x, xs[k]? = some x → w.cell? ⟨b, k, none⟩ = some (.int .i64 x)) (hbg : b ≠ g) (hb : b < w.heap.size) :
    Calls Try.prog 79 #[.pointer (some ⟨g, 0, none⟩), .slice (some ⟨b, 0, none⟩) n c] w fun e w' => ∃ x, x ∈ xs ∧ e = .returned (.int .i64 x) ∧ Rdr w' g l (p + 1) ∧ w.grownBy w' (some g) ∧ w'.heap.size = w.heap.size := by
  have PC := Lib.hid (pick_c n (by omega) (by omega) g l p hp w h)
  have Hc := Lib.hid hc
  clear hc
  go_enter Try.func79, Try.ntmps79
  go_wp2_with fail
  refine PC.out.mono ?_
  rintro e w' ⟨x, hx, hx2, rfl, hr, hg, hz⟩
  obtain ⟨k, rfl⟩ := Int.eq_ofNat_of_zero_le hx
  have hk : k < n := by omega
  have hcell : w'.cell? ⟨b, k, none⟩ = some (.int .i64 (xs[k]'(by omega))) := by
    rw [World.cell?_of_block (w := w) (hg.block b hb (by intro e; injection e; omega))]
    exact Hc.out k _ (by simp)
  have Hg := Lib.hid hg
  have Hr := Lib.hid hr
  have Hz := Lib.hid hz
  clear hg hr hz
  go_wp2_with fail
  go_ret
  exact ⟨_, List.getElem_mem _, rfl, Hr.out, Hg.out, Hz.out⟩

set_option maxHeartbeats 400000 in
theorem newReader_c (A : Option Addr) (c : Nat) (l : List Int) (w : World) (h : BytesAt w w.heap.size A l) (hl : l.length ≤ c) :
    Calls Try.prog 56 #[.slice A l.length c] w fun e w' => e = .returned (.pointer (some ⟨w.heap.size, 0, none⟩)) ∧ Rdr w' w.heap.size (l.take 2000) 0 ∧ Below w.heap.size w w' ∧ w'.heap.size = w.heap.size + 1 := by
  have hby : BytesAt w w.heap.size A (l.take 2000) := by
    refine ⟨fun x hx => h.1 x (List.mem_of_mem_take hx), ?_⟩
    rcases h.2 with rfl | ⟨b, o, rfl, hlt, hc⟩
    · exact .inl (by simp)
    · refine .inr ⟨b, o, rfl, hlt, fun k x hx => hc k x ?_⟩
      rw [List.getElem?_take] at hx
      split at hx
      · exact hx
      · cases hx
  have fin : ∀ n c', n = (l.take 2000).length → Rdr (w.alloc (.cells #[.slice A n c', .int .i64 0] 87)) w.heap.size (l.take 2000) 0 := by
    rintro n c' rfl
    refine ⟨by simp; omega, by omega, A, c', heap_alloc_new w _, hby.keep fun k hk => Below.heap_alloc _ _ _ hk⟩
  have Fin := Lib.hid fin
  clear fin hby h
  by_cases hlong : 2000 < l.length
  · go_enter Try.func56, Try.ntmps56
    go_wp2
    go_ret
    exact ⟨rfl, Fin.out _ _ (by simp; omega), (Below.refl _ _).alloc (Nat.le_refl _) _, by simp⟩
  · go_enter Try.func56, Try.ntmps56
    go_wp2
    go_ret
    exact ⟨rfl, Fin.out _ _ (by simp; omega), (Below.refl _ _).alloc (Nat.le_refl _) _, by simp⟩
end Go.Proofs.Ytbbnibjnjmmmnaa
