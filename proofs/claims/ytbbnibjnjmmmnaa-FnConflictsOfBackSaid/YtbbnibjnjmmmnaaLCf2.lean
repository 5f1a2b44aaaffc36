/-
  The law FnConflictsOfBack: the accesses in reverse have the conflicts turned around.
-/
import Derived.Test.YtbbnibjnjmmmnaaPCf
import Derived.Deep.RegionHeld3
namespace Go.Proofs.Ytbbnibjnjmmmnaa
open Go.RowKit

def turnB (x y : P2) : Bool := pe y ⟨0, x.b, x.a⟩
theorem any_turn {Lg Lt : List P2} {i : Nat} (hi : i < Lg.length) (h : ∀ a b, (a, b) ∈ prs Lg → (b, a) ∈ prs Lt) : Lt.any (turnB Lg[i]) = true := by
  have := h Lg[i].a Lg[i].b (List.mem_map.2 ⟨_, List.getElem_mem hi, rfl⟩)
  obtain ⟨y, hy, he⟩ := List.mem_map.1 this
  rw [List.any_eq_true]
  exact ⟨y, hy, pe_yes he⟩

set_option maxRecDepth 100000 in
set_option maxHeartbeats 1000000 in
theorem FnConflictsOfBack_c (A : Option Addr) (c : Nat) (l : List Int) (w : World) (h : BytesAt w w.heap.size A l) (hl : l.length ≤ c ∧ c ≤ maxLen) :
    Calls Try.prog 12 #[.slice A l.length c] w fun e w' => e = .returned (.bool true) ∧ Below w.heap.size w w' := by
  have hm := hl.2
  unfold maxLen at hm
  have H := Lib.hid (And.intro h hl)
  clear h hl
  by_cases hlong : 1048576 < l.length
  · go_enter Try.func12, Try.ntmps12
    go_wp2
    go_ret
    exact ⟨rfl, Below.refl _ _⟩
  go_enter Try.func12, Try.ntmps12
  go_wp2_with fail
  refine (DrawConflictsOf_c A c l w H.out.1 H.out.2.1).mono ?_
  rintro e w1 ⟨v, ws, rfl, ho, hlen, hb⟩
  obtain ⟨A1, c1, rfl, hc1, hcm1, hr1⟩ := ho.form
  have X := Lib.hid (And.intro hr1 hb)
  clear ho hr1 hb
  go_wp2_with fail
  refine (impl_ConflictsOf_c A1 c1 ws _ X.out.1 (by omega) hc1).mono ?_
  rintro e w2 ⟨vg, Lg, rfl, hp, hL, hb⟩
  obtain ⟨Ag, cg, rfl, _, hrp⟩ := hp.form
  have hLg : Lg.length ≤ 16 := by have := confF_len ws; rw [← hL, prs_len] at this; exact this
  have LG := Lib.hid hL
  have Y := Lib.hid (And.intro (X.out.1.grow hb) (And.intro (X.out.2.trans (hb.mono X.out.2.size)) hrp))
  clear hp hL hb hrp
  go_wp2_with fail
  refine (spec_ConflictsOf_c A1 c1 ws _ Y.out.1 (by omega)).mono ?_
  rintro e w3 ⟨vs, Ls, rfl, hp, hL, hb⟩
  obtain ⟨As, cs, rfl, _, hrp⟩ := hp.form
  have Z := Lib.hid (And.intro (Y.out.1.grow hb) (And.intro (Y.out.2.1.trans (hb.mono Y.out.2.1.size)) (And.intro (Y.out.2.2.below hb (Nat.le_refl _)) (And.intro hrp (And.intro (LG.out.trans hL.symm) hb.size)))))
  clear hp hL hb hrp
  go_wp2_with fail
  refine (equalLists_c Ag As cg cs Lg Ls Z.out.2.2.2.2.1 _ _ _ Z.out.2.2.1 Z.out.2.2.2.1 (by omega)).mono ?_
  rintro e w4 ⟨rfl, hd⟩
  have U := Lib.hid (And.intro (Z.out.1.grow (hd.below _)) (And.intro (Z.out.2.1.trans (hd.below _)) (And.intro (Z.out.2.2.1.dr hd) (Nat.le_trans Z.out.2.2.2.2.2 (hd.below 0).size))))
  clear hd
  obtain ⟨bv, hbv⟩ : ∃ bv, validAcc ws = bv := ⟨_, rfl⟩
  have HB := Lib.hid hbv
  clear hbv
  go_wp2_with fail
  refine (impl_ValidAccesses_c A1 c1 ws _ U.out.1 (by omega)).mono ?_
  rintro e w5 ⟨rfl, hb⟩
  have V := Lib.hid (And.intro (U.out.1.grow hb) (And.intro (U.out.2.1.trans (hb.mono U.out.2.1.size)) (And.intro (U.out.2.2.1.below hb U.out.2.2.2) (Nat.le_trans U.out.2.2.2 hb.size))))
  clear hb
  rw [HB.out]
  cases bv
  · go_wp2_with fail
    refine (spec_ConflictsOf_c A1 c1 ws _ V.out.1 (by omega)).mono ?_
    rintro e w6 ⟨va, La, rfl, hp, hL, hb⟩
    obtain ⟨Aa, ca, rfl, _, hrp⟩ := hp.form
    have Q := Lib.hid (And.intro (V.out.2.2.1.below hb V.out.2.2.2) (And.intro hrp (And.intro (LG.out.trans hL.symm) (V.out.2.1.trans (hb.mono V.out.2.1.size)))))
    clear hp hL hb hrp
    go_wp2_with fail
    refine (equalLists_c Ag Aa cg ca Lg La Q.out.2.2.1 _ _ _ Q.out.1 Q.out.2.1 (by omega)).mono ?_
    rintro e w7 ⟨rfl, hd⟩
    have K := Lib.hid (Q.out.2.2.2.trans (hd.below _))
    clear hd
    go_wp2_with fail
    go_ret
    exact ⟨rfl, K.out⟩
  have N := Lib.hid (own_new (E := accE) (e := 46) w5 #[] [] w5.heap.size (Nat.le_refl _) (by simp) rfl)
  have B0 := Lib.hid ((Below.refl w5.heap.size w5).alloc (Nat.le_refl _) (.cells #[] 46))
  go_wp2_with fail
  go_loopw [5, 6] (fun ov iv wr => ∃ (m : Nat) (z : Int) (L : List Acc), iv = .int .i64 z ∧ m ≤ ws.length ∧ L.length ≤ 17 ∧ Hid (z = (m : Int) - 1 ∧ L = ws.reverse.take (ws.length - m)) ∧ Own accE 46 wr w5.heap.size ov L ∧ Below w5.heap.size w5 wr) (fun _ iv _ => (intOf iv + 1).toNat)
  case atStart => exact ⟨ws.length, (ws.length : Int) - 1, [], by go_num, by omega, by simp, Lib.hid ⟨rfl, by simp⟩, N.out, B0.out⟩
  case round =>
    obtain ⟨m, z, L, rfl, hm2, hlk, hL, ho, hbel⟩ := hrel
    obtain ⟨Ao, co, rfl, hco, _, hro⟩ := ho.form
    by_cases hpos : 0 < m
    · obtain ⟨k, rfl⟩ : ∃ k, m = k + 1 := ⟨m - 1, by omega⟩
      have hlt : k < ws.length := by omega
      obtain rfl : z = (k : Int) := by have := hL.out.1; omega
      obtain ⟨b, o, rfl, hb, c0, c1', c2⟩ := (V.out.1.below hbel (Nat.le_refl _)).acc hlt
      have R := Lib.hid (And.intro ho hbel)
      have S := Lib.hid (show L ++ [ws[k]] = ws.reverse.take (ws.length - k) by
        have e : ws.length - k = (ws.length - (k + 1)) + 1 := by omega
        have hr : ws.length - (k + 1) < ws.reverse.length := by rw [List.length_reverse]; omega
        rw [hL.out.2, e, List.take_succ_eq_append_getElem hr, List.getElem_reverse]
        congr 3
        omega)
      have S2 : (L ++ [ws[k]]).length ≤ 17 := by rw [S.out, List.length_take, List.length_reverse]; omega
      clear ho hbel hro
      go_wp2_with (at_builtin; refine wpList_ap1 slAcc rfl (.tmp 40) (.tmp 45) rfl _ _ ws[k] rfl w5 w5.heap.size _ L rfl R.out.1 rfl (by omega) R.out.2 (Nat.le_refl _) ?_; intro v1 w6 ho1 hb1 hg1 hat1; have Q := Lib.hid (And.intro ho1 hb1); clear ho1 hb1 hg1 hat1)
      go_roundw
      case rel => exact ⟨k, (k : Int) - 1, _, by go_num, by omega, S2, Lib.hid ⟨rfl, S.out⟩, Q.out.1, Q.out.2⟩
      case measure => simp [intOf]
    · obtain rfl : m = 0 := by omega
      obtain rfl : z = -1 := by have := hL.out.1; omega
      have LR := Lib.hid (show L = ws.reverse by rw [hL.out.2, List.take_of_length_le (by simp)])
      have R := Lib.hid (And.intro hro (And.intro (V.out.2.1.trans (hbel.mono V.out.2.1.size)) (And.intro (V.out.2.2.1.below hbel V.out.2.2.2) (Nat.le_trans V.out.2.2.2 hbel.size))))
      clear ho hbel hro hL
      go_wp2_with fail
      refine (impl_ConflictsOf_c Ao co L _ R.out.1 (by omega) hco).mono ?_
      rintro e w6 ⟨vt, Lt, rfl, hp, hLt, hb⟩
      obtain ⟨At, ct, rfl, _, hrp⟩ := hp.form
      have hLt16 : Lt.length ≤ 16 := by have := confF_len L; rw [← hLt, prs_len] at this; exact this
      rw [LR.out] at hLt
      have AN := Lib.hid (fun (i : Nat) (hi : i < Lg.length) => any_turn (Lt := Lt) hi (fun a b hx => by rw [hLt]; rw [LG.out] at hx; exact rev_mem hx))
      have EQL := Lib.hid (show ((Lt.length : Int) == (Lg.length : Int)) = true by
        rw [← prs_len Lt, ← prs_len Lg, hLt, LG.out, rev_len]; simp)
      have Q := Lib.hid (And.intro hrp (And.intro (R.out.2.2.1.below hb R.out.2.2.2) (And.intro (R.out.2.1.trans (hb.mono R.out.2.1.size)) (Nat.le_trans R.out.2.2.2 hb.size))))
      clear hp hLt hb hrp
      go_wp2_with fail
      go_loopw [8] (fun iv wr' => ∃ i : Nat, iv = .int .i64 i ∧ i ≤ Lg.length ∧ Below w6.heap.size w6 wr') (fun iv _ => Lg.length - (intOf iv).toNat)
      case atStart => exact ⟨0, rfl, by omega, Below.refl _ _⟩
      case round =>
        obtain ⟨i, rfl, hi, hbel⟩ := hrel
        have D := Lib.hid hbel
        clear hbel
        by_cases hil : i < Lg.length
        · go_wp2_with fail
          go_loopw [9, 10] (fun sv kv wr' => ∃ (k : Nat) (b : Bool), kv = .int .i64 k ∧ k ≤ Lt.length ∧ sv = .bool b ∧ Hid (b = (Lt.take k).any (turnB Lg[i])) ∧ Below w6.heap.size w6 wr') (fun _ kv _ => Lt.length - (intOf kv).toNat)
          case atStart => exact ⟨0, false, rfl, by omega, rfl, Lib.hid rfl, D.out⟩
          case round =>
            obtain ⟨k, bs, rfl, hk, rfl, hbs, hbel⟩ := hrel
            by_cases hkl : k < Lt.length
            · have PT := Q.out.1.below hbel (Nat.le_refl _)
              have PG := Q.out.2.1.below hbel Q.out.2.2.2
              obtain ⟨b1, o1, rfl, hb1, c0⟩ := PT.rd.p2 hkl
              obtain ⟨b2, o2, rfl, hb2, d0⟩ := PG.rd.p2 hil
              have BT := (PT.inn _ (List.getElem_mem hkl))
              have BG := (PG.inn _ (List.getElem_mem hil))
              have e0 : wr.cell? ⟨Lg[i].g, 0, none⟩ = some (.int .i64 Lg[i].a) := by rw [cell_of_row _ _ _ _ _ _ BG.2]; rfl
              have e1 : wr.cell? ⟨Lg[i].g, 1, none⟩ = some (.int .i64 Lg[i].b) := by rw [cell_of_row _ _ _ _ _ _ BG.2]; rfl
              have hs6 := hbel.size
              have g1 : b1 < wr.heap.size := by omega
              have g2 : b2 < wr.heap.size := by have := Q.out.2.2.2; omega
              have g3 : Lg[i].g < wr.heap.size := BG.2.lt
              obtain ⟨ev, hev⟩ : ∃ ev, turnB Lg[i] Lt[k] = ev := ⟨_, rfl⟩
              have QQ := Lib.hid (show ∀ (W : World) (g : Nat), Blk W Lt[k].g 3 #[.int .i64 Lt[k].a, .int .i64 Lt[k].b] → Blk W g 3 #[.int .i64 Lg[i].b, .int .i64 Lg[i].a] → Calls Try.prog 37 #[.slice (some ⟨Lt[k].g, 0, none⟩) 2 2, .slice (some ⟨g, 0, none⟩) 2 2] W fun e w' => e = .returned (.bool ev) ∧ ∃ n, w' = W.drewN n from
                fun W g h1 h2 => equalPair_q (x := Lt[k]) (y := ⟨g, Lg[i].b, Lg[i].a⟩) (w := W) h1 h2 ev hev 0)
              have BTA := Lib.hid (BT.2.alloc (.cells #[.int .i64 Lg[i].b, .int .i64 Lg[i].a] 3))
              have BA := Lib.hid (hbel.alloc hbel.size (.cells #[.int .i64 Lg[i].b, .int .i64 Lg[i].a] 3))
              have BB := Lib.hid (hbel.drew.alloc hbel.drew.size (.cells #[.int .i64 Lg[i].b, .int .i64 Lg[i].a] 3))
              have nw1 := World.new_ne wr _ c0
              have nw2 := World.new_ne wr _ d0
              have nw3 := World.new_ne wr _ e0
              have nw4 := World.new_ne wr _ e1
              have D2 := Lib.hid hbel
              have NX := Lib.hid (show (bs || ev) = (Lt.take (k + 1)).any (turnB Lg[i]) by
                rw [List.take_succ_eq_append_getElem hkl, List.any_append, ← hbs.out]; simp [hev])
              clear hbel hev PT PG BT BG
              cases bs
              · go_wp2_with fail
                go_region_held3 (fun w' => w'.cell? ⟨b1, o1 + k, none⟩ = some (.slice (some ⟨Lt[k].g, 0, none⟩) 2 2) ∧ w'.cell? ⟨b2, o2 + i, none⟩ = some (.slice (some ⟨Lg[i].g, 0, none⟩) 2 2) ∧ w'.cell? ⟨Lg[i].g, 0, none⟩ = some (.int .i64 Lg[i].a) ∧ w'.cell? ⟨Lg[i].g, 1, none⟩ = some (.int .i64 Lg[i].b))
                  (first | go_keep | assumption)
                  ((go_at_call 37; refine (QQ.out _ _ ?_ ?_).mono ?_; (exact BTA.out); (exact Blk.new wr _ _); rintro e w7 ⟨rfl, n7, rfl⟩))
                go_wp2_with fail
                all_goals first
                  | (go_roundw; (case rel => exact ⟨k + 1, ev, by go_num, by omega, rfl, Lib.hid (by rw [← NX.out]; rfl), by first | exact below_drewN BA.out.drew _ | exact below_drewN BB.out _ | exact below_drewN BA.out _⟩); (case measure => simp [intOf]; omega))
                  | (refine ⟨⟨k + 1, ev, by go_num, by omega, rfl, Lib.hid (by rw [← NX.out]; rfl), by first | exact below_drewN BA.out.drew _ | exact below_drewN BB.out _ | exact below_drewN BA.out _⟩, ?_⟩; simp [intOf]; omega)
              · go_wp2_with fail
                first
                  | (go_region_held3 (fun w' => w'.cell? ⟨b1, o1 + k, none⟩ = some (.slice (some ⟨Lt[k].g, 0, none⟩) 2 2) ∧ w'.cell? ⟨b2, o2 + i, none⟩ = some (.slice (some ⟨Lg[i].g, 0, none⟩) 2 2) ∧ w'.cell? ⟨Lg[i].g, 0, none⟩ = some (.int .i64 Lg[i].a) ∧ w'.cell? ⟨Lg[i].g, 1, none⟩ = some (.int .i64 Lg[i].b)) (first | go_keep | assumption) (fail))
                  | (go_quiet (fail))
                  | (go_region_law (fail))
                  | (fail "no way")
                go_wp2_with fail
                all_goals first
                  | (go_roundw; (case rel => exact ⟨k + 1, true, by go_num, by omega, rfl, Lib.hid (by rw [← NX.out]; rfl), by first | exact D2.out.drew | exact D2.out | exact below_drewN D2.out _⟩); (case measure => simp [intOf]; omega))
                  | (refine ⟨⟨k + 1, true, by go_num, by omega, rfl, Lib.hid (by rw [← NX.out]; rfl), by first | exact D2.out.drew | exact D2.out | exact below_drewN D2.out _⟩, ?_⟩; simp [intOf]; omega)
            · obtain rfl : bs = true := by
                rw [hbs.out, List.take_of_length_le (by omega)]; exact AN.out i hil
              have D2 := Lib.hid hbel
              clear hbel
              go_wp2_with fail
              go_roundw
              case rel => exact ⟨i + 1, by go_num, by omega, D2.out⟩
              case measure => simp [intOf]; omega
        · have hz := EQL.out
          have K := Lib.hid (Q.out.2.2.1.trans (D.out.mono Q.out.2.2.1.size))
          go_wp2_with fail
          go_ret
          exact ⟨rfl, K.out⟩
end Go.Proofs.Ytbbnibjnjmmmnaa
