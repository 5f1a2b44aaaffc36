/-
  Accesses that the reference draws: the contract of the drawing.
-/
import Derived.Test.YtbbnibjnjmmmnaaDrawWt
import Derived.Test.YtbbnibjnjmmmnaaAcc1
namespace Go.Proofs.Ytbbnibjnjmmmnaa
open Go.RowKit

theorem own_putA {e : TypeId} {w : World} {base : Nat} {v : Value} {ws : List Acc} (h : Own accE e w base v ws) {i : Nat} (hi : i < ws.length) :
    ∃ g c, v = .slice (some ⟨g, 0, none⟩) ws.length c ∧ base ≤ g ∧ g < w.heap.size ∧ (∃ u, w.cell? ⟨g, i * 3, none⟩ = some u) ∧ (∃ u, w.cell? ⟨g, i * 3 + 1, none⟩ = some u) ∧ (∃ u, w.cell? ⟨g, i * 3 + 2, none⟩ = some u) ∧ (∀ j, w.frozen? ⟨g, j, none⟩ = false) ∧
      ∀ (a b : Int) (d : Bool), Own accE e (((w.setCell ⟨g, i * 3, none⟩ (.int .i64 a)).setCell ⟨g, i * 3 + 1, none⟩ (.int .i64 b)).setCell ⟨g, i * 3 + 2, none⟩ (.bool d)) base v (ws.set i ⟨a, b, d⟩) := by
  obtain ⟨g, c, cs, rfl, hb, hblk, _, hcell, hput⟩ := h.at hi
  refine ⟨g, c, rfl, hb, hblk.lt, ⟨_, hcell 0 _ rfl⟩, ⟨_, hcell 1 _ rfl⟩, ⟨_, hcell 2 _ rfl⟩, fun j => hblk.free j, fun a b d => ?_⟩
  have h1 := hput 0 ⟨a, ws[i].node, ws[i].write⟩ (.int .i64 a) (by decide) rfl
  have hi2 : i < (ws.set i ⟨a, ws[i].node, ws[i].write⟩).length := by simpa using hi
  obtain ⟨g', c', cs', e1, _, _, _, _, hput'⟩ := h1.at hi2
  injection e1 with e1 _ _
  injection e1 with e1
  injection e1 with e1 _ _
  subst e1
  have h2 := hput' 1 ⟨a, b, ws[i].write⟩ (.int .i64 b) (by decide) (by simp [accE])
  rw [List.set_set] at h2
  have hi3 : i < (ws.set i ⟨a, b, ws[i].write⟩).length := by simpa using hi
  obtain ⟨g', c', cs', e1, _, _, _, _, hput''⟩ := h2.at hi3
  injection e1 with e1 _ _
  injection e1 with e1
  injection e1 with e1 _ _
  subst e1
  have h3 := hput'' 2 ⟨a, b, d⟩ (.bool d) (by decide) (by simp [accE])
  rw [List.set_set] at h3
  exact h3

set_option maxRecDepth 100000 in
set_option maxHeartbeats 1000000 in
theorem anyAccesses_c (g : Nat) (l : List Int) (w : World) (h : Rdr w g l 0) :
    Calls Try.prog 55 #[.pointer (some ⟨g, 0, none⟩)] w fun e w' => ∃ v ws, e = .returned v ∧ Own accE 46 w' w.heap.size v ws ∧ ws.length ≤ 17 ∧ Below g w w' := by
  have hgw := h.lt
  have H := Lib.hid h
  have N := Lib.hid (own_new (E := accE) (e := 46) w #[] [] w.heap.size (Nat.le_refl _) (by simp) rfl)
  have B0 := Lib.hid (show Below g w (w.alloc (.cells #[] 46)) from (Below.refl _ _).alloc (Nat.le_of_lt hgw) _)
  have H1 := Lib.hid (show Rdr (w.alloc (.cells #[] 46)) g l 0 from h.alloc _)
  clear h
  go_enter Try.func55, Try.ntmps55
  go_wp2_with fail
  refine (one_litg g l 0 (by omega) (w.alloc (.cells #[] 46)) H1.out _ _ 8 [6, 8, 4, 12, 2, 0, 16, 17] _ (by simp) (by omega) (by omega) (by decide) rfl).mono ?_
  rintro e w1 ⟨x, hx, rfl, hr, hg⟩
  obtain ⟨n0, rfl, hn0⟩ := nat_of hx (by decide)
  have X := Lib.hid (And.intro (own_pick N.out hg hgw) (And.intro hr (below_pick B0.out hg (Nat.le_of_lt H1.out.lt))))
  clear hx hr hg
  go_wp2_with fail
  go_loopw [3, 4] (fun ov nv wr => ∃ (n p : Nat) (ws : List Acc), nv = .int .i64 n ∧ ws.length + n ≤ 17 ∧ p + 3 * n ≤ 60 ∧ Own accE 46 wr w.heap.size ov ws ∧ Rdr wr g l p ∧ Below g w wr) (fun _ nv _ => (intOf nv).toNat)
  case atStart => exact ⟨n0, 1, [], rfl, by simpa using hn0, by omega, X.out.1, X.out.2.1, X.out.2.2⟩
  case round =>
    obtain ⟨n, p, ws, rfl, hlen, hp, ho, hr, hbel⟩ := hrel
    obtain ⟨Ao, co, rfl, _, _, _⟩ := ho.form
    have R := Lib.hid (And.intro ho (And.intro hr hbel))
    have hgr := hr.lt
    clear ho hr hbel
    by_cases hn : 0 < n
    · go_wp2_with fail
      refine (pick_c 4 (by omega) (by omega) g l p (by omega) _ R.out.2.1).mono ?_
      rintro e w2 ⟨a, ha0, ha1, rfl, hr, hg, hz⟩
      have Y := Lib.hid (And.intro (own_pick R.out.1 hg hgw) (And.intro hr (below_pick R.out.2.2 hg (Nat.le_of_lt hgr))))
      have hg2 := hr.lt
      clear hr hg hz
      go_wp2_with fail
      refine (pick_c 4 (by omega) (by omega) g l (p + 1) (by omega) _ Y.out.2.1).mono ?_
      rintro e w3 ⟨b, hb0, hb1, rfl, hr, hg, hz⟩
      have Z := Lib.hid (And.intro (own_pick Y.out.1 hg hgw) (And.intro hr (below_pick Y.out.2.2 hg (Nat.le_of_lt hg2))))
      have hg3 := hr.lt
      clear hr hg hz
      go_wp2_with fail
      refine (pick_c 2 (by omega) (by omega) g l (p + 2) (by omega) _ Z.out.2.1).mono ?_
      rintro e w4 ⟨d, hd0, hd1, rfl, hr, hg, hz⟩
      have U := Lib.hid (And.intro (own_pick Z.out.1 hg hgw) (And.intro hr (below_pick Z.out.2.2 hg (Nat.le_of_lt hg3))))
      clear hr hg hz
      go_wp2_with (at_builtin; go_loud (refine wpList_ap1 slAcc rfl (.tmp 13) (.tmp 22) rfl w4 _ ⟨a, b, d == 0⟩ rfl w4 w.heap.size _ _ rfl U.out.1 rfl (by omega) (Below.refl _ _) U.out.2.2.size ?_); intro v5 w5 ho4 hb4 hg4 hat4; have Q := Lib.hid (And.intro ho4 (And.intro (U.out.2.1.below hb4 hgw) (U.out.2.2.trans (hb4.mono (Nat.le_of_lt hgw))))); clear ho4 hb4 hg4 hat4)
      go_roundw
      case rel => exact ⟨n - 1, p + 3, _, by go_num, by rw [List.length_append]; show _ + 1 + _ ≤ _; omega, by omega, Q.out.1, Q.out.2.1, Q.out.2.2⟩
      case measure => simp [intOf]; omega
    · obtain rfl : n = 0 := by omega
      by_cases hw : 0 < ws.length
      · go_wp2_with fail
        refine (pick_c 16 (by omega) (by omega) g l p (by omega) _ R.out.2.1).mono ?_
        rintro e w2 ⟨a, ha0, ha1, rfl, hr, hg, hz⟩
        have Y := Lib.hid (And.intro (own_pick R.out.1 hg hgw) (And.intro hr (below_pick R.out.2.2 hg (Nat.le_of_lt hgr))))
        have hg2 := hr.lt
        clear hr hg hz
        by_cases ha : (a == 0) = true
        · go_wp2_with fail
          refine (pick_c ws.length (by omega) (by omega) g l (p + 1) (by omega) _ Y.out.2.1).mono ?_
          rintro e w3 ⟨b, hb0, hb1, rfl, hr, hg, hz⟩
          obtain ⟨i, rfl⟩ : ∃ i : Nat, b = (i : Int) := ⟨b.toNat, by omega⟩
          have hi : i < ws.length := by omega
          have Z := Lib.hid (And.intro (own_pick Y.out.1 hg hgw) (And.intro hr (below_pick Y.out.2.2 hg (Nat.le_of_lt hg2))))
          have hg3 := hr.lt
          clear hr hg hz
          go_wp2_with fail
          refine (one_lit g l (p + 2) (by omega) _ Z.out.2.1 _ _ 3 [4, -1, 0] (by omega) (by omega) (by decide) rfl).mono ?_
          rintro e w4 ⟨y, _, rfl, hr, hg⟩
          have U := Lib.hid (And.intro (own_pick Z.out.1 hg hgw) (And.intro hr (below_pick Z.out.2.2 hg (Nat.le_of_lt hg3))))
          have hg4 := hr.lt
          clear hr hg
          go_wp2_with fail
          refine (one_lit g l (p + 3) (by omega) _ U.out.2.1 _ _ 3 [12, -1, 11] (by omega) (by omega) (by decide) rfl).mono ?_
          rintro e w5 ⟨z, _, rfl, hr, hg⟩
          have V := Lib.hid (And.intro (own_pick U.out.1 hg hgw) (below_pick U.out.2.2 hg (Nat.le_of_lt hg4)))
          clear hr hg
          obtain ⟨gb, cb, e1, hbb, hlb, ⟨u0, d0⟩, ⟨u1, d1⟩, ⟨u2, d2⟩, hfr, hput⟩ := own_putA V.out.1 hi
          cases e1
          have f0 := hfr (i * 3)
          have f1 := hfr (i * 3 + 1)
          have f2 := hfr (i * 3 + 2)
          have PP := Lib.hid hput
          clear hfr hput
          go_wp2_with fail
          go_ret
          exact ⟨_, _, rfl, PP.out y z false, by simpa using (show ws.length ≤ 17 by omega), ((V.out.2.setCell (by show g ≤ gb; omega) _).setCell (by show g ≤ gb; omega) _).setCell (by show g ≤ gb; omega) _⟩
        · rw [Bool.not_eq_true] at ha
          go_wp2_with fail
          go_ret
          exact ⟨_, _, rfl, Y.out.1, by omega, Y.out.2.2⟩
      · go_wp2_with fail
        go_ret
        exact ⟨_, _, rfl, R.out.1, by omega, R.out.2.2⟩
set_option maxHeartbeats 1000000 in
theorem DrawValidAccesses_c (A : Option Addr) (c : Nat) (l : List Int) (w : World) (h : BytesAt w w.heap.size A l) (hl : l.length ≤ c) :
    Calls Try.prog 20 #[.slice A l.length c] w fun e w' => ∃ v ws, e = .returned v ∧ Own accE 46 w' w.heap.size v ws ∧ ws.length ≤ 17 ∧ Below w.heap.size w w' := by
  have H := Lib.hid h
  clear h
  go_enter Try.func20, Try.ntmps20
  go_wp2_with fail
  refine (newReader_c A c l w H.out hl).mono ?_
  rintro e w1 ⟨rfl, hr, hb, hz⟩
  have X1 := Lib.hid (And.intro hr (And.intro hb hz))
  clear hr hb hz
  go_wp2_with fail
  refine (anyAccesses_c _ _ _ X1.out.1).mono ?_
  rintro e w2 ⟨v, ws, rfl, ho, hlen, hb⟩
  have X2 := Lib.hid (And.intro (ho.base X1.out.2.1.size) (And.intro hlen (X1.out.2.1.trans hb)))
  clear ho hlen hb
  go_wp2_with fail
  go_ret
  exact ⟨v, ws, rfl, X2.out.1, X2.out.2.1, X2.out.2.2⟩
end Go.Proofs.Ytbbnibjnjmmmnaa
