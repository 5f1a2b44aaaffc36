/-
  The law FnConflictsOf: a part has no conflict that the whole has not; reads alone have none.
-/
import Derived.Test.YtbbnibjnjmmmnaaPCf
namespace Go.Proofs.Ytbbnibjnjmmmnaa
open Go.RowKit

set_option maxRecDepth 100000 in
set_option maxHeartbeats 2000000 in
theorem FnConflictsOf_c (A : Option Addr) (c : Nat) (l : List Int) (w : World) (h : BytesAt w w.heap.size A l) (hl : l.length ≤ c ∧ c ≤ maxLen) :
    Calls Try.prog 11 #[.slice A l.length c] w fun e w' => e = .returned (.bool true) ∧ Below w.heap.size w w' := by
  have hm := hl.2
  unfold maxLen at hm
  have H := Lib.hid (And.intro h hl)
  clear h hl
  by_cases hlong : 1048576 < l.length
  · go_enter Try.func11, Try.ntmps11
    go_wp2
    go_ret
    exact ⟨rfl, Below.refl _ _⟩
  go_enter Try.func11, Try.ntmps11
  go_wp2_with fail
  refine (DrawConflictsOf_c A c l w H.out.1 H.out.2.1).mono ?_
  rintro e w1 ⟨v, ws, rfl, ho, hlen, hb⟩
  obtain ⟨A1, c1, rfl, hc1, hcm1, hr1⟩ := ho.form
  have X := Lib.hid (And.intro hr1 hb)
  clear ho hr1 hb
  go_wp2_with fail
  refine (impl_ConflictsOf_c A1 c1 ws _ X.out.1 (by omega) hc1).mono ?_
  rintro e w2 ⟨vg, Lg, rfl, hp, hL, hb⟩
  obtain ⟨Ag, cg, rfl, _, hrp⟩ := hp.form
  have hLg : Lg.length ≤ 16 := by have := confF_len ws; rw [← hL, prs_len] at this; exact this
  have LG := Lib.hid hL
  have Y := Lib.hid (And.intro (X.out.1.grow hb) (And.intro (X.out.2.trans (hb.mono X.out.2.size)) hrp))
  clear hp hL hb hrp
  go_wp2_with fail
  refine (spec_ConflictsOf_c A1 c1 ws _ Y.out.1 (by omega)).mono ?_
  rintro e w3 ⟨vs, Ls, rfl, hp, hL, hb⟩
  obtain ⟨As, cs, rfl, _, hrp⟩ := hp.form
  have Z := Lib.hid (And.intro (Y.out.1.grow hb) (And.intro (Y.out.2.1.trans (hb.mono Y.out.2.1.size)) (And.intro (Y.out.2.2.below hb (Nat.le_refl _)) (And.intro hrp (And.intro (LG.out.trans hL.symm) hb.size)))))
  clear hp hL hb hrp
  go_wp2_with fail
  refine (equalLists_c Ag As cg cs Lg Ls Z.out.2.2.2.2.1 _ _ _ Z.out.2.2.1 Z.out.2.2.2.1 (by omega)).mono ?_
  rintro e w4 ⟨rfl, hd⟩
  have U := Lib.hid (And.intro (Z.out.1.grow (hd.below _)) (And.intro (Z.out.2.1.trans (hd.below _)) (And.intro (Z.out.2.2.1.dr hd) (Nat.le_trans Z.out.2.2.2.2.2 (hd.below 0).size))))
  clear hd
  obtain ⟨bv, hbv⟩ : ∃ bv, validAcc ws = bv := ⟨_, rfl⟩
  have HB := Lib.hid hbv
  clear hbv
  go_wp2_with fail
  refine (impl_ValidAccesses_c A1 c1 ws _ U.out.1 (by omega)).mono ?_
  rintro e w5 ⟨rfl, hb⟩
  have V := Lib.hid (And.intro (U.out.1.grow hb) (And.intro (U.out.2.1.trans (hb.mono U.out.2.1.size)) (And.intro (U.out.2.2.1.below hb U.out.2.2.2) (Nat.le_trans U.out.2.2.2 hb.size))))
  clear hb
  rw [HB.out]
  cases bv
  · go_wp2_with fail
    refine (spec_ConflictsOf_c A1 c1 ws _ V.out.1 (by omega)).mono ?_
    rintro e w6 ⟨va, La, rfl, hp, hL, hb⟩
    obtain ⟨Aa, ca, rfl, _, hrp⟩ := hp.form
    have Q := Lib.hid (And.intro (V.out.2.2.1.below hb V.out.2.2.2) (And.intro hrp (And.intro (LG.out.trans hL.symm) (V.out.2.1.trans (hb.mono V.out.2.1.size)))))
    clear hp hL hb hrp
    go_wp2_with fail
    refine (equalLists_c Ag Aa cg ca Lg La Q.out.2.2.1 _ _ _ Q.out.1 Q.out.2.1 (by omega)).mono ?_
    rintro e w7 ⟨rfl, hd⟩
    have K := Lib.hid (Q.out.2.2.2.trans (hd.below _))
    clear hd
    go_wp2_with fail
    go_ret
    exact ⟨rfl, K.out⟩
  by_cases h0 : ((ws.length : Int) == 0) = true
  · go_wp2_with fail
    refine (spec_ConflictsOf_c A1 c1 ws _ V.out.1 (by omega)).mono ?_
    rintro e w6 ⟨va, La, rfl, hp, hL, hb⟩
    obtain ⟨Aa, ca, rfl, _, hrp⟩ := hp.form
    have Q := Lib.hid (And.intro (V.out.2.2.1.below hb V.out.2.2.2) (And.intro hrp (And.intro (LG.out.trans hL.symm) (V.out.2.1.trans (hb.mono V.out.2.1.size)))))
    clear hp hL hb hrp
    go_wp2_with fail
    refine (equalLists_c Ag Aa cg ca Lg La Q.out.2.2.1 _ _ _ Q.out.1 Q.out.2.1 (by omega)).mono ?_
    rintro e w7 ⟨rfl, hd⟩
    have K := Lib.hid (Q.out.2.2.2.trans (hd.below _))
    clear hd
    go_wp2_with fail
    go_ret
    exact ⟨rfl, K.out⟩
  rw [Bool.not_eq_true] at h0
  obtain ⟨n, hn⟩ : ∃ n, ws.length = n + 1 := ⟨ws.length - 1, by have := beq_eq_false_iff_ne.1 h0; omega⟩
  have hw1 : IntKind.i64.wrap ((ws.length : Int) - 1) = (n : Int) := by rw [IntKind.wrap_i64]; omega
  have LT : (ws.take n).length = n := by rw [List.length_take]; omega
  have hnc : n ≤ c1 := by omega
  have HN := Lib.hid hn
  have PC := Lib.hid (show ∀ W, Rd accE W W.heap.size A1 ws → Calls Try.prog 34 #[.slice A1 n c1] W fun e w' => ∃ v L, e = .returned v ∧ Prs w' W.heap.size v L ∧ prs L = confF (ws.take n) ∧ Below W.heap.size W w' by
    intro W hW
    have := impl_ConflictsOf_c A1 c1 (ws.take n) W (hW.take n) (by omega) (by omega)
    rw [LT] at this
    exact this)
  clear hn LT
  have N := Lib.hid (own_new (E := accE) (e := 46) w5 #[] [] w5.heap.size (Nat.le_refl _) (by simp) rfl)
  have B0 := Lib.hid ((Below.refl w5.heap.size w5).alloc (Nat.le_refl _) (.cells #[] 46))
  go_wp2_with fail
  go_loopw [5, 6] (fun ov iv wr => ∃ (k : Nat) (L : List Acc), k ≤ ws.length ∧ iv = .int .i64 k ∧ L.length ≤ 17 ∧ Hid (L = (ws.take k).map readA) ∧ Own accE 46 wr w5.heap.size ov L ∧ Below w5.heap.size w5 wr) (fun _ iv _ => ws.length - (intOf iv).toNat)
  case atStart => exact ⟨0, [], by omega, rfl, by simp, Lib.hid rfl, N.out, B0.out⟩
  case round =>
    obtain ⟨k, L, hk, rfl, hlk, hL, ho, hbel⟩ := hrel
    obtain ⟨Ao, co, rfl, hco, _, hro⟩ := ho.form
    by_cases hlt : k < ws.length
    · obtain ⟨b, o, rfl, hb, c0, c1', c2⟩ := (V.out.1.below hbel (Nat.le_refl _)).acc hlt
      have R := Lib.hid (And.intro ho hbel)
      clear ho hbel hro
      have S := Lib.hid (show L ++ [readA ws[k]] = (ws.take (k + 1)).map readA by rw [read_snoc hlt, hL.out])
      have S2 : (L ++ [readA ws[k]]).length ≤ 17 := by rw [S.out, List.length_map, List.length_take]; omega
      go_wp2_with fail
      go_region_law (go_loud (refine step_ap1 slAcc rfl (.tmp 44) (.tmp 56) rfl _ _ (readA ws[k]) rfl w5 w5.heap.size _ _ rfl (R.out.1.grow (below_drewN (Below.refl _ _) _)) _ (by simp) rfl (by omega) (below_drewN R.out.2 _) (Nat.le_refl _) ?_); intro v1 w6 ho1 hb1 hg1 hat1; have Q := Lib.hid (And.intro ho1 hb1); clear ho1 hb1 hg1 hat1)
      go_wp2_with fail
      all_goals first
        | (go_roundw; (case rel => exact ⟨k + 1, _, by omega, by go_num, S2, S, Q.out.1, Q.out.2⟩); (case measure => simp [intOf]; omega))
        | (refine ⟨⟨k + 1, _, by omega, by go_num, S2, S, Q.out.1, Q.out.2⟩, ?_⟩; simp [intOf]; omega)
    · obtain rfl : k = ws.length := by omega
      have R := Lib.hid (And.intro hro (And.intro (V.out.2.1.trans (hbel.mono V.out.2.1.size)) (And.intro (V.out.2.2.1.below hbel V.out.2.2.2) (And.intro (V.out.1.grow hbel) (Nat.le_trans V.out.2.2.2 hbel.size)))))
      have LR := Lib.hid (show L = ws.map readA by rw [hL.out, List.take_length])
      have CO := Lib.hid hco
      clear ho hbel hro hL hco
      go_wp2_with fail
      refine (PC.out _ R.out.2.2.2.1).mono ?_
      rintro e w6 ⟨vp, Lp, rfl, hp, hLp, hb⟩
      obtain ⟨Ap, cp, rfl, _, hrp⟩ := hp.form
      have hLp16 : Lp.length ≤ 16 := by have := confF_len (ws.take n); rw [← hLp, prs_len] at this; exact this
      have AN := Lib.hid (fun (i : Nat) (hi : i < Lp.length) => any_pe (Lg := Lg) hi (fun x hx => by rw [LG.out]; rw [hLp] at hx; exact part_mem HB.out hx))
      have Q := Lib.hid (And.intro hrp (And.intro (R.out.2.2.1.below hb R.out.2.2.2.2) (And.intro (R.out.1.grow hb) (R.out.2.1.trans (hb.mono R.out.2.1.size)))))
      clear hp hLp hb hrp
      go_wp2_with fail
      go_loopw [8] (fun iv wr' => ∃ i : Nat, iv = .int .i64 i ∧ i ≤ Lp.length ∧ Dr w6 wr') (fun iv _ => Lp.length - (intOf iv).toNat)
      case atStart => exact ⟨0, rfl, by omega, Dr.refl _⟩
      case round =>
        obtain ⟨i, rfl, hi, hdr⟩ := hrel
        have D := Lib.hid hdr
        clear hdr
        by_cases hil : i < Lp.length
        · go_wp2_with fail
          go_loopw [9, 10] (fun sv kv wr' => ∃ (k : Nat) (b : Bool), kv = .int .i64 k ∧ k ≤ Lg.length ∧ sv = .bool b ∧ Hid (b = (Lg.take k).any (pe Lp[i])) ∧ Dr w6 wr') (fun _ kv _ => Lg.length - (intOf kv).toNat)
          case atStart => exact ⟨0, false, rfl, by omega, rfl, Lib.hid rfl, D.out⟩
          case round =>
            obtain ⟨k, bs, rfl, hk, rfl, hbs, hdr⟩ := hrel
            by_cases hkl : k < Lg.length
            · obtain ⟨b1, o1, rfl, hb1, c0⟩ := (Q.out.1.dr hdr).rd.p2 hil
              obtain ⟨b2, o2, rfl, hb2, d0⟩ := (Q.out.2.1.dr hdr).rd.p2 hkl
              obtain ⟨ev, hev⟩ : ∃ ev, pe Lp[i] Lg[k] = ev := ⟨_, rfl⟩
              have QQ := Lib.hid (fun n => equalPair_q ((Q.out.1.dr hdr).inn _ (List.getElem_mem hil)).2 ((Q.out.2.1.dr hdr).inn _ (List.getElem_mem hkl)).2 ev hev n)
              have D2 := Lib.hid hdr
              have NX := Lib.hid (show (bs || ev) = (Lg.take (k + 1)).any (pe Lp[i]) by
                rw [List.take_succ_eq_append_getElem hkl, List.any_append, ← hbs.out]; simp [hev])
              clear hdr hev
              cases bs
              · go_wp2_with fail
                go_quiet ((go_at_call 37; exact QQ.out _))
                go_wp2_with fail
                go_roundw
                case rel => exact ⟨k + 1, ev, by go_num, by omega, rfl, Lib.hid (by rw [← NX.out]; rfl), D2.out.drewN _⟩
                case measure => simp [intOf]; omega
              · go_wp2_with fail
                go_quiet (fail)
                go_wp2_with fail
                go_roundw
                case rel => exact ⟨k + 1, true, by go_num, by omega, rfl, Lib.hid (by rw [← NX.out]; rfl), D2.out.drewN _⟩
                case measure => simp [intOf]; omega
            · obtain rfl : bs = true := by
                rw [hbs.out, List.take_of_length_le (by omega)]; exact AN.out i hil
              have D2 := Lib.hid hdr
              clear hdr
              go_wp2_with fail
              go_roundw
              case rel => exact ⟨i + 1, by go_num, by omega, D2.out⟩
              case measure => simp [intOf]; omega
        · go_wp2_with fail
          refine (impl_ConflictsOf_c Ao co L _ (Q.out.2.2.1.grow (D.out.below _)) (by omega) CO.out).mono ?_
          rintro e w7 ⟨vr, Lr, rfl, hp, hLr, hb⟩
          obtain ⟨Ar, cr, rfl, _, hrp⟩ := hp.form
          have K := Lib.hid (Q.out.2.2.2.trans ((D.out.below _).trans (hb.mono (Nat.le_trans Q.out.2.2.2.size (D.out.below 0).size))))
          have hz : ((Lr.length : Int) == 0) = true := by
            have : Lr.length = 0 := by rw [← prs_len, hLr, LR.out, read_conf]; rfl
            rw [this]; rfl
          clear hp hLr hb hrp
          go_wp2_with fail
          go_ret
          exact ⟨rfl, K.out⟩
end Go.Proofs.Ytbbnibjnjmmmnaa
