/-
  The laws' own tests of equality over lists of numbers and of pairs; the draw of the accesses for ConflictsOf.
-/
import Derived.Test.YtbbnibjnjmmmnaaConf3
import Derived.Test.YtbbnibjnjmmmnaaPairsL
import Derived.Test.YtbbnibjnjmmmnaaLessA
namespace Go.Proofs.Ytbbnibjnjmmmnaa
open Go.RowKit

set_option maxHeartbeats 1000000 in
theorem equalInts_c (A A' : Option Addr) (c c' : Nat) (l m : List Int) (B B' : Nat) (w : World) (h : Rd inE w B A l) (h' : Rd inE w B' A' m) (hl : l.length ≤ 1048576) (hm : m.length ≤ 1048576) :
    Calls Try.prog 37 #[.slice A l.length c, .slice A' m.length c'] w fun e w' => e = .returned (.bool (decide (l = m))) ∧ Dr w w' := by
  have H := Lib.hid (And.intro h h')
  clear h h'
  cases hn : ((l.length : Int) != (m.length : Int))
  · have E := Lib.hid (show m.length = l.length by simp at hn; omega)
    have hn2 : ((l.length : Int) != (m.length : Int)) = false := hn
    clear hn
    go_enter Try.func37, Try.ntmps37
    go_wp2_with fail
    go_loopw [5] (fun i wr => ∃ k : Nat, i = .int .i64 k ∧ k ≤ l.length ∧ Hid (l.take k = m.take k) ∧ Dr w wr) (fun i _ => l.length - (intOf i).toNat)
    case atStart => exact ⟨0, rfl, by omega, Lib.hid (by simp), Dr.refl w⟩
    case round =>
      obtain ⟨k, rfl, hk, hT, hdr⟩ := hrel
      by_cases hlt : k < l.length
      · have hlt2 : k < m.length := by have := E.out; omega
        obtain ⟨b, o, rfl, hb, c0⟩ := (H.out.1.dr hdr).int hlt
        obtain ⟨b', o', rfl, hb', d0⟩ := (H.out.2.dr hdr).int hlt2
        have R := Lib.hid hdr
        clear hdr
        cases hx : (l[k] != m[k])
        · have NX := Lib.hid (show l.take (k + 1) = m.take (k + 1) by
            rw [List.take_succ_eq_append_getElem hlt, List.take_succ_eq_append_getElem hlt2, hT.out]
            simp at hx
            rw [hx])
          go_wp2_with fail
          go_quiet (fail)
          go_wp2_with fail
          go_roundw
          case rel => exact ⟨k + 1, by go_num, by omega, NX, R.out.drewN _⟩
          case measure => simp [intOf]; omega
        · have F := Lib.hid (show decide (l = m) = false by
            rw [decide_eq_false_iff_not]
            intro e
            subst e
            simp at hx)
          go_wp2_with fail
          go_quiet (fail)
          go_wp2_with fail
          go_ret
          exact ⟨ret_bool F.out.symm, R.out.drewN _⟩
      · have F := Lib.hid (show decide (l = m) = true by
          rw [decide_eq_true_eq]
          have := hT.out
          rwa [List.take_of_length_le (by omega), List.take_of_length_le (by have := E.out; omega)] at this)
        have R := Lib.hid hdr
        clear hdr
        go_wp2_with fail
        go_ret
        exact ⟨ret_bool F.out.symm, R.out⟩
  · have F := Lib.hid (show decide (l = m) = false by
      rw [decide_eq_false_iff_not]
      intro e
      subst e
      simp at hn)
    have hn2 : ((l.length : Int) != (m.length : Int)) = true := hn
    clear hn
    go_enter Try.func37, Try.ntmps37
    go_wp2_with fail
    go_ret
    exact ⟨ret_bool F.out.symm, Dr.refl w⟩
theorem pair_rd {w : World} {x : P2} (h : Blk w x.g 3 #[.int .i64 x.a, .int .i64 x.b]) : Rd inE w w.heap.size (some ⟨x.g, 0, none⟩) [x.a, x.b] := by
  refine .inr ⟨x.g, 0, rfl, h.lt, fun k y hy j v hv => ?_⟩
  match k, hy with
  | 0, hy =>
    obtain rfl := Option.some.inj hy
    match j, hv with
    | 0, hv => obtain rfl := Option.some.inj hv; rw [cell_of_row _ _ _ _ _ _ h]; rfl
  | 1, hy =>
    obtain rfl := Option.some.inj hy
    match j, hv with
    | 0, hv => obtain rfl := Option.some.inj hv; rw [cell_of_row _ _ _ _ _ _ h]; rfl
def pe (x y : P2) : Bool := decide ([x.a, x.b] = [y.a, y.b])
theorem equalPair_q {w : World} {x y : P2} (h : Blk w x.g 3 #[.int .i64 x.a, .int .i64 x.b]) (h' : Blk w y.g 3 #[.int .i64 y.a, .int .i64 y.b]) (v : Bool) (hv : pe x y = v) (n : Nat) :
    Calls Try.prog 37 #[.slice (some ⟨x.g, 0, none⟩) 2 2, .slice (some ⟨y.g, 0, none⟩) 2 2] (w.drewN n) fun e w' => e = .returned (.bool v) ∧ ∃ m, w' = w.drewN m := by
  subst hv
  exact (equalInts_c (some ⟨x.g, 0, none⟩) (some ⟨y.g, 0, none⟩) 2 2 [x.a, x.b] [y.a, y.b] _ _ (w.drewN n) (pair_rd h) (pair_rd h') (by simp) (by simp)).mono fun e w' hh => ⟨hh.1, Dr.trans ⟨n, rfl⟩ hh.2⟩
theorem RdP.dr {w w' : World} {B : Nat} {A : Option Addr} {L : List P2} (h : RdP w B A L) (hd : Dr w w') : RdP w' B A L := h.below (hd.below B) (Nat.le_refl _)
set_option maxHeartbeats 1000000 in
theorem equalLists_c (A A' : Option Addr) (c c' : Nat) (L L' : List P2) (hL : prs L = prs L') (w : World) (B B' : Nat) (h : RdP w B A L) (h' : RdP w B' A' L') (hl : L.length ≤ 1048576) :
    Calls Try.prog 35 #[.slice A L.length c, .slice A' L'.length c'] w fun e w' => e = .returned (.bool true) ∧ Dr w w' := by
  have hlen : L'.length = L.length := by have := congrArg List.length hL; simpa [prs] using this.symm
  have hat : ∀ k (hk : k < L.length) (hk' : k < L'.length), pe L[k] L'[k] = true := by
    intro k hk hk'
    have h1 : (prs L)[k]? = (prs L')[k]? := by rw [hL]
    simp only [prs, List.getElem?_map, List.getElem?_eq_getElem hk, List.getElem?_eq_getElem (show k < L'.length by omega), Option.map_some, Option.some.injEq, Prod.mk.injEq] at h1
    rw [pe, h1.1, h1.2]; simp
  rw [hlen]
  have H := Lib.hid (And.intro h (And.intro h' (And.intro hat hlen)))
  clear h h' hat hL hlen
  go_enter Try.func35, Try.ntmps35
  go_wp2_with fail
  go_loopw [5] (fun i wr => ∃ k : Nat, i = .int .i64 k ∧ k ≤ L.length ∧ Dr w wr) (fun i _ => L.length - (intOf i).toNat)
  case atStart => exact ⟨0, rfl, by omega, Dr.refl w⟩
  case round =>
    obtain ⟨k, rfl, hk, hdr⟩ := hrel
    by_cases hlt : k < L.length
    · have hlt' : k < L'.length := by rw [H.out.2.2.2]; exact hlt
      obtain ⟨b, o, rfl, hb, c0⟩ := (H.out.1.dr hdr).rd.p2 hlt
      obtain ⟨b', o', rfl, hb', c0'⟩ := (H.out.2.1.dr hdr).rd.p2 hlt'
      have Q := Lib.hid (fun n => equalPair_q ((H.out.1.dr hdr).inn _ (List.getElem_mem hlt)).2 ((H.out.2.1.dr hdr).inn _ (List.getElem_mem hlt')).2 true (H.out.2.2.1 k hlt hlt') n)
      have R := Lib.hid hdr
      clear hdr
      go_wp2_with fail
      go_quiet ((go_at_call 37; exact Q.out _))
      go_wp2_with fail
      go_roundw
      case rel => exact ⟨k + 1, by go_num, by omega, R.out.drewN _⟩
      case measure => simp [intOf]; omega
    · have R := Lib.hid hdr
      clear hdr
      go_wp2_with fail
      go_ret
      exact ⟨rfl, R.out⟩
set_option maxHeartbeats 1000000 in
theorem DrawConflictsOf_c (A : Option Addr) (c : Nat) (l : List Int) (w : World) (h : BytesAt w w.heap.size A l) (hl : l.length ≤ c) :
    Calls Try.prog 33 #[.slice A l.length c] w fun e w' => ∃ v ws, e = .returned v ∧ Own accE 46 w' w.heap.size v ws ∧ ws.length ≤ 17 ∧ Below w.heap.size w w' := by
  have H := Lib.hid h
  clear h
  go_enter Try.func33, Try.ntmps33
  go_wp2_with fail
  refine (newReader_c A c l w H.out hl).mono ?_
  rintro e w1 ⟨rfl, hr, hb, hz⟩
  have X1 := Lib.hid (And.intro hr (And.intro hb hz))
  clear hr hb hz
  go_wp2_with fail
  refine (anyAccesses_c _ _ _ X1.out.1).mono ?_
  rintro e w2 ⟨v, ws, rfl, ho, hlen, hb⟩
  have X2 := Lib.hid (And.intro (ho.base X1.out.2.1.size) (And.intro hlen (X1.out.2.1.trans hb)))
  clear ho hlen hb
  go_wp2_with fail
  go_ret
  exact ⟨v, ws, rfl, X2.out.1, X2.out.2.1, X2.out.2.2⟩
end Go.Proofs.Ytbbnibjnjmmmnaa
