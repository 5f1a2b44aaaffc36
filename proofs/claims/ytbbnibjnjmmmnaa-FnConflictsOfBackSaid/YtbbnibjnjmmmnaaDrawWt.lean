/-
  Waits that the reference draws: the contract of the drawing, and the law FnValidWaits over it.
-/
import Derived.Test.YtbbnibjnjmmmnaaGenMode
import Derived.Test.YtbbnibjnjmmmnaaWt1
import Derived.Test.YtbbnibjnjmmmnaaMem6
import Derived.Test.YtbbnibjnjmmmnaaMem4
namespace Go.Proofs.Ytbbnibjnjmmmnaa
open Go.RowKit

theorem own_pick {α : Type} {E : Enc α} {e : TypeId} {w w' : World} {base g : Nat} {v : Value} {l : List α} (h : Own E e w base v l) (hg : w.grownBy w' (some g)) (hb : g < base) : Own E e w' base v l := by
  refine h.kept hg ?_
  cases hv : v.ownBlock with
  | none => exact .inl rfl
  | some k => right; intro e; injection e with e; have := (h.lt k hv).1; omega
theorem below_pick {w0 w w' : World} {g : Nat} (h : Below g w0 w) (hg : w.grownBy w' (some g)) (hlt : g ≤ w.heap.size) : Below g w0 w' := h.trans (below_of_grown hg (Nat.le_refl _) hlt)
theorem nat_of {x : Int} {xs : List Int} (hx : x ∈ xs) (h : ∀ y ∈ xs, 0 ≤ y ∧ y ≤ 17) : ∃ n : Nat, x = (n : Int) ∧ n ≤ 17 := ⟨x.toNat, by have := h x hx; omega, by have := h x hx; omega⟩

theorem own_putW {e : TypeId} {w : World} {base : Nat} {v : Value} {ws : List Wt} (h : Own wtE e w base v ws) {i : Nat} (hi : i < ws.length) :
    ∃ g c, v = .slice (some ⟨g, 0, none⟩) ws.length c ∧ base ≤ g ∧ g < w.heap.size ∧ (∃ u, w.cell? ⟨g, i * 2, none⟩ = some u) ∧ (∃ u, w.cell? ⟨g, i * 2 + 1, none⟩ = some u) ∧ (∀ j, w.frozen? ⟨g, j, none⟩ = false) ∧
      ∀ a b : Int, Own wtE e ((w.setCell ⟨g, i * 2, none⟩ (.int .i64 a)).setCell ⟨g, i * 2 + 1, none⟩ (.int .i64 b)) base v (ws.set i ⟨a, b⟩) := by
  obtain ⟨g, c, cs, rfl, hb, hblk, _, hcell, hput⟩ := h.at hi
  refine ⟨g, c, rfl, hb, hblk.lt, ⟨_, hcell 0 _ rfl⟩, ⟨_, hcell 1 _ rfl⟩, fun j => hblk.free j, fun a b => ?_⟩
  have h1 := hput 0 ⟨a, ws[i].wfor⟩ (.int .i64 a) (by decide) rfl
  have hi2 : i < (ws.set i ⟨a, ws[i].wfor⟩).length := by simpa using hi
  obtain ⟨g', c', cs', e1, _, _, _, _, hput'⟩ := h1.at hi2
  injection e1 with e1 _ _
  injection e1 with e1
  injection e1 with e1 _ _
  subst e1
  have h2 := hput' 1 ⟨a, b⟩ (.int .i64 b) (by decide) (by simp [wtE])
  rw [List.set_set] at h2
  exact h2

theorem one_litg (g : Nat) (l : List Int) (p : Nat) (hp : p < 100000) (w : World) (h : Rdr w g l p) (cs : Array Value) (T : TypeId) (n : Nat) (xs : List Int) (gx : Nat) (hgx : gx = w.heap.size) (hn : 1 ≤ n) (hn2 : n ≤ 100000) (hlen : n ≤ xs.length) (hcs : cs = (xs.map (Value.int .i64)).toArray) :
    Calls Try.prog 79 #[.pointer (some ⟨g, 0, none⟩), .slice (some ⟨gx, 0, none⟩) n n] (w.alloc (.cells cs T)) fun e w' => ∃ x, x ∈ xs ∧ e = .returned (.int .i64 x) ∧ Rdr w' g l (p + 1) ∧ w.grownBy w' (some g) := by
  subst hgx
  exact one_lit g l p hp w h cs T n xs hn hn2 hlen hcs
set_option maxRecDepth 100000 in
set_option maxHeartbeats 4000000 in
theorem anyWaits_c (g : Nat) (l : List Int) (w : World) (h : Rdr w g l 0) :
    Calls Try.prog 61 #[.pointer (some ⟨g, 0, none⟩)] w fun e w' => ∃ v ws, e = .returned v ∧ Own wtE 39 w' w.heap.size v ws ∧ ws.length ≤ 17 ∧ Below g w w' := by
  have hgw := h.lt
  have H := Lib.hid h
  have N := Lib.hid (own_new (E := wtE) (e := 39) w #[] [] w.heap.size (Nat.le_refl _) (by simp) rfl)
  have B0 := Lib.hid (show Below g w (w.alloc (.cells #[] 39)) from (Below.refl _ _).alloc (Nat.le_of_lt hgw) _)
  have H1 := Lib.hid (show Rdr (w.alloc (.cells #[] 39)) g l 0 from h.alloc _)
  clear h
  go_enter Try.func61, Try.ntmps61
  go_wp2_with fail
  refine (one_litg g l 0 (by omega) (w.alloc (.cells #[] 39)) H1.out _ _ 8 [3, 4, 5, 2, 1, 0, 12, 13] _ (by simp) (by omega) (by omega) (by decide) rfl).mono ?_
  rintro e w1 ⟨x, hx, rfl, hr, hg⟩
  obtain ⟨n0, rfl, hn0⟩ := nat_of hx (by decide)
  have X := Lib.hid (And.intro (own_pick N.out hg hgw) (And.intro hr (below_pick B0.out hg (Nat.le_of_lt H1.out.lt))))
  clear hx hr hg
  go_wp2_with fail
  go_loopw [3, 4] (fun ov nv wr => ∃ (n p : Nat) (ws : List Wt), nv = .int .i64 n ∧ ws.length + n ≤ 17 ∧ p + 2 * n ≤ 40 ∧ Own wtE 39 wr w.heap.size ov ws ∧ Rdr wr g l p ∧ Below g w wr) (fun _ nv _ => (intOf nv).toNat)
  case atStart => exact ⟨n0, 1, [], rfl, by simpa using hn0, by omega, X.out.1, X.out.2.1, X.out.2.2⟩
  case round =>
    obtain ⟨n, p, ws, rfl, hlen, hp, ho, hr, hbel⟩ := hrel
    obtain ⟨Ao, co, rfl, _, _, _⟩ := ho.form
    have R := Lib.hid (And.intro ho (And.intro hr hbel))
    have hgr := hr.lt
    clear ho hr hbel
    by_cases hn : 0 < n
    · go_wp2_with fail
      refine (pick_c 4 (by omega) (by omega) g l p (by omega) _ R.out.2.1).mono ?_
      rintro e w2 ⟨a, ha0, ha1, rfl, hr, hg, hz⟩
      have Y := Lib.hid (And.intro (own_pick R.out.1 hg hgw) (And.intro hr (below_pick R.out.2.2 hg (Nat.le_of_lt hgr))))
      have hg2 := hr.lt
      clear hr hg hz
      go_wp2_with fail
      refine (pick_c 3 (by omega) (by omega) g l (p + 1) (by omega) _ Y.out.2.1).mono ?_
      rintro e w3 ⟨b, hb0, hb1, rfl, hr, hg, hz⟩
      have Z := Lib.hid (And.intro (own_pick Y.out.1 hg hgw) (And.intro hr (below_pick Y.out.2.2 hg (Nat.le_of_lt hg2))))
      have hg3 := hr.lt
      clear hr hg hz
      go_wp2_with (at_builtin; go_loud (refine wpList_ap1 slWt rfl (.tmp 16) (.tmp 25) rfl w3 _ ⟨a, _⟩ rfl w3 w.heap.size _ _ rfl Z.out.1 rfl (by omega) (Below.refl _ _) Z.out.2.2.size ?_); intro v4 w4 ho4 hb4 hg4 hat4; have Q := Lib.hid (And.intro ho4 (And.intro (Z.out.2.1.below hb4 hgw) (Z.out.2.2.trans (hb4.mono (Nat.le_of_lt hgw))))); clear ho4 hb4 hg4 hat4)
      go_roundw
      case rel => exact ⟨n - 1, p + 2, _, by go_num, by rw [List.length_append]; show _ + 1 + _ ≤ _; omega, by omega, Q.out.1, Q.out.2.1, Q.out.2.2⟩
      case measure => simp [intOf]; omega
    · obtain rfl : n = 0 := by omega
      by_cases hw : 0 < ws.length
      · go_wp2_with fail
        refine (pick_c 16 (by omega) (by omega) g l p (by omega) _ R.out.2.1).mono ?_
        rintro e w2 ⟨a, ha0, ha1, rfl, hr, hg, hz⟩
        have Y := Lib.hid (And.intro (own_pick R.out.1 hg hgw) (And.intro hr (below_pick R.out.2.2 hg (Nat.le_of_lt hgr))))
        have hg2 := hr.lt
        clear hr hg hz
        by_cases ha : (a == 0) = true
        · go_wp2_with fail
          refine (pick_c ws.length (by omega) (by omega) g l (p + 1) (by omega) _ Y.out.2.1).mono ?_
          rintro e w3 ⟨b, hb0, hb1, rfl, hr, hg, hz⟩
          obtain ⟨i, rfl⟩ : ∃ i : Nat, b = (i : Int) := ⟨b.toNat, by omega⟩
          have hi : i < ws.length := by omega
          have Z := Lib.hid (And.intro (own_pick Y.out.1 hg hgw) (And.intro hr (below_pick Y.out.2.2 hg (Nat.le_of_lt hg2))))
          have hg3 := hr.lt
          clear hr hg hz
          go_wp2_with fail
          refine (one_lit g l (p + 2) (by omega) _ Z.out.2.1 _ _ 3 [4, -1, 1] (by omega) (by omega) (by decide) rfl).mono ?_
          rintro e w4 ⟨y, _, rfl, hr, hg⟩
          have V := Lib.hid (And.intro (own_pick Z.out.1 hg hgw) (below_pick Z.out.2.2 hg (Nat.le_of_lt hg3)))
          clear hr hg
          obtain ⟨gb, cb, e1, hbb, hlb, ⟨u0, d0⟩, ⟨u1, d1⟩, hfr, hput⟩ := own_putW V.out.1 hi
          cases e1
          have f0 := hfr (i * 2)
          have f1 := hfr (i * 2 + 1)
          have PP := Lib.hid hput
          clear hfr hput
          go_wp2_with fail
          go_ret
          exact ⟨_, _, rfl, PP.out y 1, by simpa using (show ws.length ≤ 17 by omega), (V.out.2.setCell (by show g ≤ gb; omega) _).setCell (by show g ≤ gb; omega) _⟩
        · rw [Bool.not_eq_true] at ha
          go_wp2_with fail
          go_ret
          exact ⟨_, _, rfl, Y.out.1, by omega, Y.out.2.2⟩
      · go_wp2_with fail
        go_ret
        exact ⟨_, _, rfl, R.out.1, by omega, R.out.2.2⟩
set_option maxHeartbeats 1000000 in
theorem DrawValidWaits_c (A : Option Addr) (c : Nat) (l : List Int) (w : World) (h : BytesAt w w.heap.size A l) (hl : l.length ≤ c) :
    Calls Try.prog 26 #[.slice A l.length c] w fun e w' => ∃ v ws, e = .returned v ∧ Own wtE 39 w' w.heap.size v ws ∧ ws.length ≤ 17 ∧ Below w.heap.size w w' := by
  have H := Lib.hid h
  clear h
  go_enter Try.func26, Try.ntmps26
  go_wp2_with fail
  refine (newReader_c A c l w H.out hl).mono ?_
  rintro e w1 ⟨rfl, hr, hb, hz⟩
  have X1 := Lib.hid (And.intro hr (And.intro hb hz))
  clear hr hb hz
  go_wp2_with fail
  refine (anyWaits_c _ _ _ X1.out.1).mono ?_
  rintro e w2 ⟨v, ws, rfl, ho, hlen, hb⟩
  have X2 := Lib.hid (And.intro (ho.base X1.out.2.1.size) (And.intro hlen (X1.out.2.1.trans hb)))
  clear ho hlen hb
  go_wp2_with fail
  go_ret
  exact ⟨v, ws, rfl, X2.out.1, X2.out.2.1, X2.out.2.2⟩
def turnW (x : Wt) : Wt := ⟨x.wfor, x.who⟩
theorem turn_snoc {ws : List Wt} {k : Nat} (hk : k < ws.length) : (ws.take (k + 1)).map turnW = (ws.take k).map turnW ++ [turnW ws[k]] := by
  rw [List.take_succ_eq_append_getElem hk, List.map_append]; rfl
theorem turn_ok (ws : List Wt) : validWt (ws.map turnW) = validWt ws := by
  have h : ∀ x : Wt, wtOk (turnW x) = wtOk x := fun x => by
    show ((inR x.wfor 0 3 && inR x.who 0 3) && !(x.wfor == x.who)) = ((inR x.who 0 3 && inR x.wfor 0 3) && !(x.who == x.wfor))
    rw [Bool.and_comm (inR x.wfor 0 3), show (x.wfor == x.who) = (x.who == x.wfor) from BEq.comm]
  simp only [validWt, List.length_map, List.all_map, Function.comp_def, h]
set_option maxRecDepth 100000 in
set_option maxHeartbeats 4000000 in
theorem FnValidWaits_c (A : Option Addr) (c : Nat) (l : List Int) (w : World) (h : BytesAt w w.heap.size A l) (hl : l.length ≤ c ∧ c ≤ maxLen) :
    Calls Try.prog 7 #[.slice A l.length c] w fun e w' => e = .returned (.bool true) ∧ Below w.heap.size w w' := by
  have hm := hl.2
  unfold maxLen at hm
  have H := Lib.hid (And.intro h hl)
  clear h hl
  by_cases hlong : 1048576 < l.length
  · go_enter Try.func7, Try.ntmps7
    go_wp2
    go_ret
    exact ⟨rfl, Below.refl _ _⟩
  go_enter Try.func7, Try.ntmps7
  go_wp2_with fail
  refine (DrawValidWaits_c A c l w H.out.1 H.out.2.1).mono ?_
  rintro e w1 ⟨v, ws, rfl, ho, hlen, hb⟩
  obtain ⟨A1, c1, rfl, _, _, hr1⟩ := ho.form
  have X := Lib.hid (And.intro hr1 hb)
  clear ho hr1 hb
  go_wp2_with fail
  refine (impl_ValidWaits_c A1 c1 ws _ X.out.1 (by omega)).mono ?_
  rintro e w2 ⟨rfl, hb⟩
  have Y := Lib.hid (And.intro (X.out.1.grow hb) (X.out.2.trans (hb.mono X.out.2.size)))
  clear hb
  go_wp2_with fail
  refine (spec_ValidWaits_c A1 c1 ws _ Y.out.1 (by omega)).mono ?_
  rintro e w3 ⟨rfl, hb⟩
  have Z := Lib.hid (And.intro (Y.out.1.grow hb) (Y.out.2.trans (hb.mono Y.out.2.size)))
  clear hb
  have N := Lib.hid (own_new (E := wtE) (e := 39) w3 #[] [] w3.heap.size (Nat.le_refl _) (by simp) rfl)
  have B0 := Lib.hid ((Below.refl w3.heap.size w3).alloc (Nat.le_refl _) (.cells #[] 39))
  obtain ⟨bv, hbv⟩ : ∃ bv, validWt ws = bv := ⟨_, rfl⟩
  have HB := Lib.hid hbv
  have TT := Lib.hid ((turn_ok ws).trans hbv)
  rw [hbv]
  clear hbv
  go_wp2_with fail
  go_loopw [5, 6] (fun ov iv wr => ∃ (k : Nat) (L : List Wt), k ≤ ws.length ∧ iv = .int .i64 k ∧ L.length ≤ 17 ∧ Hid (L = (ws.take k).map turnW) ∧ Own wtE 39 wr w3.heap.size ov L ∧ Below w3.heap.size w3 wr) (fun _ iv _ => ws.length - (intOf iv).toNat)
  case atStart => exact ⟨0, [], by omega, rfl, by simp, Lib.hid rfl, N.out, B0.out⟩
  case round =>
    obtain ⟨k, L, hk, rfl, hlk, hL, ho, hbel⟩ := hrel
    obtain ⟨Ao, co, rfl, _, _, hro⟩ := ho.form
    by_cases hlt : k < ws.length
    · obtain ⟨b, o, rfl, hb, c0, c1⟩ := (Z.out.1.below hbel (Nat.le_refl _)).wt hlt
      have R := Lib.hid (And.intro ho hbel)
      clear ho hbel hro
      have S := Lib.hid (show L ++ [turnW ws[k]] = (ws.take (k + 1)).map turnW by rw [turn_snoc hlt, hL.out])
      have S2 : (L ++ [turnW ws[k]]).length ≤ 17 := by rw [S.out, List.length_map, List.length_take]; omega
      go_wp2_with fail
      go_region_law (go_loud (refine step_ap1 slWt rfl (.tmp 25) (.tmp 37) rfl _ _ (turnW ws[k]) rfl w3 w3.heap.size _ _ rfl (R.out.1.grow (below_drewN (Below.refl _ _) _)) _ (by simp) rfl (by omega) (below_drewN R.out.2 _) (Nat.le_refl _) ?_); intro v1 w4 ho1 hb1 hg1 hat1; have Q := Lib.hid (And.intro ho1 hb1); clear ho1 hb1 hg1 hat1)
      go_wp2_with fail
      all_goals first
        | (go_roundw; (case rel => exact ⟨k + 1, _, by omega, by go_num, S2, S, Q.out.1, Q.out.2⟩); (case measure => simp [intOf]; omega))
        | (refine ⟨⟨k + 1, _, by omega, by go_num, S2, S, Q.out.1, Q.out.2⟩, ?_⟩; simp [intOf]; omega)
    · obtain rfl : k = ws.length := by omega
      have R := Lib.hid (And.intro ho hbel)
      have HR := Lib.hid hro
      have hv2 := Lib.hid (show validWt L = bv by rw [hL.out, List.take_length]; exact TT.out)
      clear ho hbel hro
      go_wp2_with fail
      refine (impl_ValidWaits_c Ao co L _ HR.out (by omega)).mono ?_
      rintro e w4 ⟨rfl, hb⟩
      have Q := Lib.hid (Z.out.2.trans ((R.out.2.mono Z.out.2.size).trans (hb.mono (Nat.le_trans Z.out.2.size R.out.2.size))))
      clear hb
      rw [hv2.out]
      go_wp2_with fail
      go_ret
      exact ⟨ret_bool (by simp), Q.out⟩
end Go.Proofs.Ytbbnibjnjmmmnaa
