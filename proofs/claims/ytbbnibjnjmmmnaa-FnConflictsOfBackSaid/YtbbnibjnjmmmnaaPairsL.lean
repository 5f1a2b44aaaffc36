/-
  Lists of pairs: the laws' own helpers over them.
-/
import Derived.Test.YtbbnibjnjmmmnaaPairs
namespace Go.Proofs.Ytbbnibjnjmmmnaa
open Go.RowKit

/-- The pairs L lie from A on, below block B. -/
structure RdP (w : World) (B : Nat) (A : Option Addr) (L : List P2) : Prop where
  rd : Rd p2E w B A L
  inn : ∀ x, x ∈ L → x.g < B ∧ Blk w x.g 3 #[.int .i64 x.a, .int .i64 x.b]
theorem RdP.keep {w w' : World} {B : Nat} {A : Option Addr} {L : List P2} (h : RdP w B A L) (hk : ∀ k, k < B → w'.heap[k]? = w.heap[k]?) : RdP w' B A L :=
  ⟨h.rd.keep hk, fun x hx => ⟨(h.inn x hx).1, (hk x.g (h.inn x hx).1).trans (h.inn x hx).2⟩⟩
theorem RdP.below {w w' : World} {B B' : Nat} {A : Option Addr} {L : List P2} (h : RdP w B A L) (hb : Below B' w w') (hB : B ≤ B') : RdP w' B A L := h.keep fun k hk => hb.block k (by omega)
theorem RdP.other {w w' : World} {B : Nat} {A : Option Addr} {L : List P2} {row : Option Nat} (h : RdP w B A L) (hg : w.grownBy w' row) (hB : B ≤ w.heap.size) (hr : ∀ g, row = some g → B ≤ g) : RdP w' B A L :=
  h.keep fun k hk => hg.block k (by omega) (fun e => by have := hr k e.symm; omega)
theorem Prs.form {w : World} {base : Nat} {v : Value} {L : List P2} (h : Prs w base v L) : ∃ A c, v = .slice A L.length c ∧ L.length ≤ c ∧ RdP w w.heap.size A L := by
  obtain ⟨A, c, e, h1, _, h2⟩ := h.own.form
  exact ⟨A, c, e, h1, h2, fun x hx => ⟨h.inn.lt hx, (h.inn.at' x hx).2⟩⟩
theorem Prs.rdp {w : World} {base : Nat} {A : Option Addr} {n c : Nat} {L : List P2} (h : Prs w base (.slice A n c) L) : RdP w w.heap.size A L := by
  obtain ⟨A', c', e, _, h2⟩ := h.form
  injection e with e1 e2 e3
  subst e1
  exact h2
theorem Prs.kept {w w' : World} {base : Nat} {v : Value} {L : List P2} {row : Option Nat} (h : Prs w base v L) (hg : w.grownBy w' row) (hr : ∀ g, row = some g → g < base) : Prs w' base v L :=
  ⟨h.own.kept hg (by
      cases hv : v.ownBlock with
      | none => exact .inl rfl
      | some k => exact .inr fun e => by have := hr k e.symm; have := (h.own.lt k hv).1; omega),
    h.inn.keep fun x hx => hg.block x.g (h.inn.lt hx) (fun e => by have := hr x.g e.symm; have := (h.inn.at' x hx).1; omega), h.apart⟩

set_option maxHeartbeats 1000000 in
theorem eqIntSS_c (A A' : Option Addr) (c c' : Nat) (L L' : List P2) (hL : prs L = prs L') (w : World) (B B' : Nat) (h : RdP w B A L) (h' : RdP w B' A' L') (hB : B ≤ w.heap.size) (hB' : B' ≤ w.heap.size) (hl : L.length ≤ 1048576) :
    Calls Try.prog 38 #[.slice A L.length c, .slice A' L'.length c'] w fun e w' => e = .returned (.bool true) ∧ Below w.heap.size w w' := by
  have hlen : L'.length = L.length := by have := congrArg List.length hL; simpa [prs] using this.symm
  have hat : ∀ k (hk : k < L.length) (hk' : k < L'.length), L[k].a = L'[k].a ∧ L[k].b = L'[k].b := by
    intro k hk hk'
    have h1 : (prs L)[k]? = (prs L')[k]? := by rw [hL]
    simp only [prs, List.getElem?_map, List.getElem?_eq_getElem hk, List.getElem?_eq_getElem (show k < L'.length by omega), Option.map_some, Option.some.injEq, Prod.mk.injEq] at h1
    exact h1
  rw [hlen]
  have H := Lib.hid (And.intro h (And.intro h' (And.intro hat hlen)))
  clear h h' hat hL hlen
  go_enter Try.func38, Try.ntmps38
  go_wp2_with fail
  go_loopw [5] (fun i wr => ∃ k : Nat, k ≤ L.length ∧ i = .int .i64 k ∧ Below w.heap.size w wr) (fun i _ => L.length - (intOf i).toNat)
  case atStart => exact ⟨0, by omega, rfl, Below.refl _ _⟩
  case round =>
    obtain ⟨k, hk, rfl, hbel⟩ := hrel
    by_cases hlt : k < L.length
    · have hlt' : k < L'.length := by rw [H.out.2.2.2]; exact hlt
      obtain ⟨b, o, rfl, hb, c0⟩ := (H.out.1.below hbel hB).rd.p2 hlt
      obtain ⟨b', o', rfl, hb', c0'⟩ := (H.out.2.1.below hbel hB').rd.p2 hlt'
      have i1 := (H.out.1.inn _ (List.getElem_mem hlt))
      have i2 := (H.out.2.1.inn _ (List.getElem_mem hlt'))
      have e := H.out.2.2.1 k hlt hlt'
      have I := Lib.hid (And.intro i1 (And.intro i2 e))
      have R := Lib.hid hbel
      clear hbel i1 i2 e
      go_wp2_with fail
      go_still_tail 8, (by kernel_rfl)
      go_wp2_with fail
      have d1 := I.out.1.2.below R.out.drew (Nat.lt_of_lt_of_le I.out.1.1 hB)
      have d2 := I.out.2.1.2.below R.out.drew (Nat.lt_of_lt_of_le I.out.2.1.1 hB')
      rw [← I.out.2.2.1, ← I.out.2.2.2] at d2
      have D := Lib.hid (And.intro (rd_block (E := inE) d1 [L[k].a, L[k].b] (List.prefix_refl _)) (And.intro (rd_block (E := inE) d2 [L[k].a, L[k].b] (List.prefix_refl _)) (And.intro d1.lt d2.lt)))
      clear d1 d2
      refine (eqIntS_c _ _ 2 2 [L[k].a, L[k].b] _ (D.out.1.more D.out.2.2.1) (D.out.2.1.more D.out.2.2.2) (by simp)).mono ?_
      rintro e w1 ⟨rfl, hb1⟩
      have R1 := Lib.hid hb1
      clear hb1
      go_wp2_with fail
      go_roundw
      case rel => exact ⟨k + 1, by omega, by go_num, R.out.drew.trans (R1.out.mono R.out.size)⟩
      case measure => simp [intOf]; omega
    · have R := Lib.hid hbel
      clear hbel
      go_wp2_with fail
      go_ret
      exact ⟨rfl, R.out⟩
/-- the pairs marked, from the mark K on -/
def markP (K : Int) (L : List P2) (n : Nat) : List P2 := (List.range L.length).map fun i => if i < n then ⟨((L[i]?.map P2.g).getD 0), K + 2 * (i : Int), K + 2 * (i : Int) + 1⟩ else L[i]?.getD ⟨0, 0, 0⟩
theorem markP_len (K : Int) (L : List P2) (n : Nat) : (markP K L n).length = L.length := by simp [markP]
theorem markP_at (K : Int) (L : List P2) (n k : Nat) (h : k < L.length) : (markP K L n)[k]'(by rw [markP_len]; exact h) = if k < n then ⟨L[k].g, K + 2 * (k : Int), K + 2 * (k : Int) + 1⟩ else L[k] := by
  simp [markP, List.getElem?_eq_getElem h]
theorem markP_zero (K : Int) (L : List P2) : markP K L 0 = L := by
  apply List.ext_getElem (by rw [markP_len])
  intro k h1 h2
  rw [markP_at K L 0 k h2]; simp
theorem markP_g (K : Int) (L : List P2) (n : Nat) : (markP K L n).map P2.g = L.map P2.g := by
  apply List.ext_getElem (by simp [markP_len])
  intro k h1 h2
  have hk : k < L.length := by simpa using h2
  rw [List.getElem_map, List.getElem_map, markP_at K L n k hk]
  split <;> rfl
theorem prs_marked {w w' : World} {base n : Nat} {K : Int} {v : Value} {L : List P2} (hn : n < L.length) (h : Prs w base v (markP K L n)) (ho : Own inE 3 w' base (.slice (some ⟨L[n].g, 0, none⟩) 2 2) [K + 2 * (n : Int), K + 2 * (n : Int) + 1]) (hg : w.grownBy w' (some L[n].g)) : Prs w' base v (markP K L (n + 1)) := by
  have hmem : ∀ k (hk : k < L.length), (markP K L n)[k]'(by rw [markP_len]; exact hk) ∈ markP K L n := fun k hk => List.getElem_mem _
  have hge : ∀ k (hk : k < L.length), ((markP K L n)[k]'(by rw [markP_len]; exact hk)).g = L[k].g := by
    intro k hk; rw [markP_at K L n k hk]; split <;> rfl
  have hnd : ∀ k (hk : k < L.length), k ≠ n → L[k].g ≠ L[n].g := by
    intro k hk hne e
    have h1 := h.inn.nodup
    rw [markP_g] at h1
    have h2 := List.pairwise_iff_getElem.1 h1
    rcases Nat.lt_or_gt_of_ne hne with h3 | h3
    · exact h2 k n (by simpa using hk) (by simpa using hn) h3 (by simpa using e)
    · exact h2 n k (by simpa using hn) (by simpa using hk) h3 (by simpa using e.symm)
  have hvn : v.ownBlock ≠ some L[n].g := by
    have := h.apart _ (hmem n hn)
    rwa [hge n hn] at this
  have hcells : w'.heap[L[n].g]? = some (.cells #[.int .i64 (K + 2 * (n : Int)), .int .i64 (K + 2 * (n : Int) + 1)] 3 (0, 0)) := by
    rcases ho.block with ⟨e, _⟩ | ⟨g, c, cs, e, _, hblk, _, _, hcs, htk⟩
    · cases e
    · injection e with e1 e2 e3
      injection e1 with e1
      injection e1 with e1 _ _
      subst e1 e3
      have hs2 : cs.size = 2 := hcs
      have h3 : cs.toList = [.int .i64 (K + 2 * (n : Int)), .int .i64 (K + 2 * (n : Int) + 1)] := by
        have h4 : cs.toList.take 2 = _ := htk
        rwa [List.take_of_length_le (by simp [hs2])] at h4
      have h5 : cs = #[.int .i64 (K + 2 * (n : Int)), .int .i64 (K + 2 * (n : Int) + 1)] := by
        apply Array.toList_inj.1; exact h3
      rw [← h5]; exact hblk
  have own2 : Own p2E 47 w' base v (markP K L (n + 1)) := by
    have h1 := h.own.kept hg (.inr hvn)
    unfold Own at h1 ⊢
    rw [markP_len] at h1 ⊢
    have e : p2E.flat (markP K L (n + 1)) = p2E.flat (markP K L n) := by
      have key : ∀ M : List P2, p2E.flat M = (M.map P2.g).map fun g => Value.slice (some ⟨g, 0, none⟩) 2 2 := by
        intro M
        induction M with
        | nil => rfl
        | cons x M ih => simp only [Enc.flat, List.flatMap_cons] at ih ⊢; rw [ih]; rfl
      rw [key, key, markP_g, markP_g]
    rw [e]; exact h1
  refine ⟨own2, ⟨fun x hx => ?_, by rw [markP_g]; have := h.inn.nodup; rwa [markP_g] at this⟩, fun x hx => ?_⟩
  · obtain ⟨k, hk, rfl⟩ := List.mem_iff_getElem.1 hx
    have hk' : k < L.length := by rw [markP_len] at hk; exact hk
    have h1 := h.inn.at' _ (hmem k hk')
    rw [markP_at K L n k hk'] at h1
    rw [markP_at K L (n + 1) k hk']
    by_cases e : k = n
    · subst e
      rw [if_pos (by omega)]
      rw [if_neg (by omega)] at h1
      exact ⟨h1.1, hcells⟩
    · have hb : w'.heap[L[k].g]? = w.heap[L[k].g]? := hg.block _ (by split at h1 <;> exact h1.2.lt) (by intro e2; exact hnd k hk' e (Option.some.inj e2))
      by_cases h3 : k < n
      · rw [if_pos h3] at h1; rw [if_pos (by omega)]
        exact ⟨h1.1, hb.trans h1.2⟩
      · rw [if_neg h3] at h1; rw [if_neg (by omega)]
        exact ⟨h1.1, hb.trans h1.2⟩
  · obtain ⟨k, hk, rfl⟩ := List.mem_iff_getElem.1 hx
    have hk' : k < L.length := by rw [markP_len] at hk; exact hk
    have h1 := h.apart _ (hmem k hk')
    rw [hge k hk'] at h1
    rw [markP_at K L (n + 1) k hk']
    split <;> exact h1
set_option maxHeartbeats 1000000 in
theorem markIntSS_c (v : Value) (L : List P2) (base : Nat) (K : Int) (hK : 0 ≤ K) (hK2 : K ≤ 1000000) (w : World) (h : Prs w base v L) (hl : L.length ≤ 1000000) (hbase : base ≤ w.heap.size) :
    Calls Try.prog 40 #[v, .int .i64 K] w fun e w' => e = .returned (.int .i64 (K + 2 * (L.length : Int))) ∧ Prs w' base v (markP K L L.length) ∧ Below base w w' := by
  obtain ⟨A, c, rfl, _, _⟩ := h.form
  have H := Lib.hid (show Prs w base (.slice A L.length c) (markP K L 0) by rw [markP_zero]; exact h)
  clear h
  go_enter Try.func40, Try.ntmps40
  go_wp2_with fail
  go_loopw [1, 5] (fun kv i wr => ∃ n : Nat, n ≤ L.length ∧ i = .int .i64 n ∧ kv = .int .i64 (K + 2 * (n : Int)) ∧ Prs wr base (.slice A L.length c) (markP K L n) ∧ Below base w wr) (fun _ i _ => L.length - (intOf i).toNat)
  case atStart => exact ⟨0, by omega, rfl, by simp, H.out, Below.refl _ _⟩
  case round =>
    obtain ⟨n, hn, rfl, rfl, hpr, hbel⟩ := hrel
    by_cases hlt : n < L.length
    · obtain ⟨b, o, rfl, hb, c0⟩ := hpr.rdp.rd.p2 (k := n) (by rw [markP_len]; exact hlt)
      have hx := hpr.inn.at' _ (List.getElem_mem (show n < (markP K L n).length by rw [markP_len]; exact hlt))
      rw [markP_at K L n n hlt, if_neg (by omega)] at c0 hx
      have ho : Own inE 3 _ base (.slice (some ⟨L[n].g, 0, none⟩) 2 2) [L[n].a, L[n].b] := own_blk hx.2 base hx.1 [L[n].a, L[n].b] rfl (by omega) (by unfold maxLen; omega) rfl rfl
      have R := Lib.hid (And.intro hpr (And.intro hbel ho))
      clear hpr hbel ho hx
      go_wp2_with fail
      refine (markIntS_c _ [L[n].a, L[n].b] base (K + 2 * (n : Int)) (by omega) (by omega) _ R.out.2.2 (by simp)).mono ?_
      rintro e w1 ⟨rfl, ho, hg, hz⟩
      have Z := Lib.hid (And.intro (prs_marked hlt R.out.1 (by simpa [inMarks, List.range_succ] using ho) hg) (below_own R.out.2.1 R.out.2.2 hg (Nat.le_trans hbase R.out.2.1.size)))
      clear ho hg hz
      go_wp2_with fail
      go_roundw
      case rel => exact ⟨n + 1, by omega, by go_num, by simp; omega, Z.out.1, Z.out.2⟩
      case measure => simp [intOf]; omega
    · have e : n = L.length := by omega
      subst e
      have R := Lib.hid (And.intro hpr hbel)
      clear hpr hbel
      go_wp2_with fail
      go_ret
      exact ⟨rfl, R.out.1, R.out.2⟩
set_option maxHeartbeats 1000000 in
theorem heldIntSS_c (A : Option Addr) (c : Nat) (L : List P2) (K : Int) (hK : 0 ≤ K) (hK2 : K ≤ 1000000) (w : World) (h : RdP w w.heap.size A (markP K L L.length)) (hl : L.length ≤ 1000000) :
    Calls Try.prog 41 #[.slice A L.length c, .int .i64 K] w fun e w' => e = .returned (.int .i64 (K + 2 * (L.length : Int))) ∧ w = w' := by
  have H := Lib.hid h
  clear h
  go_enter Try.func41, Try.ntmps41
  go_wp2_with fail
  go_loop [1, 5] (fun kv i => ∃ n : Nat, n ≤ L.length ∧ i = .int .i64 n ∧ kv = .int .i64 (K + 2 * (n : Int))) (fun _ i => L.length - (intOf i).toNat)
  case atStart => exact ⟨0, by omega, rfl, by simp⟩
  case round =>
    obtain ⟨n, hn, rfl, rfl⟩ := hrel
    by_cases hlt : n < L.length
    · obtain ⟨b, o, rfl, hb, c0⟩ := H.out.rd.p2 (k := n) (by rw [markP_len]; exact hlt)
      have hx := H.out.inn _ (List.getElem_mem (show n < (markP K L L.length).length by rw [markP_len]; exact hlt))
      rw [markP_at K L L.length n hlt, if_pos hlt] at c0 hx
      have D := Lib.hid (And.intro (rd_block (E := inE) hx.2 [K + 2 * (n : Int), K + 2 * (n : Int) + 1] (List.prefix_refl _)) hx.2.lt)
      clear hx
      have e2 : ([K + 2 * (n : Int), K + 2 * (n : Int) + 1] : List Int) = inMarks (K + 2 * (n : Int)) 2 := by simp [inMarks, List.range_succ]
      have D2 := Lib.hid (show Rd inE w w.heap.size (some ⟨L[n].g, 0, none⟩) (inMarks (K + 2 * (n : Int)) 2) by rw [← e2]; exact D.out.1.more D.out.2)
      clear e2
      go_wp2_with fail
      refine (heldIntS_c _ 2 2 (K + 2 * (n : Int)) (by omega) (by omega) _ D2.out (by omega)).mono ?_
      rintro e w' ⟨rfl, rfl⟩
      go_wp2_with fail
      go_round
      case rel => exact ⟨n + 1, by omega, by go_num, by simp; omega⟩
      case measure => simp [intOf]; omega
    · have e : n = L.length := by omega
      subst e
      go_wp2_with fail
      go_ret
      exact ⟨rfl, rfl⟩
end Go.Proofs.Ytbbnibjnjmmmnaa
