/-
  The rule of the path: the contracts of the reference's functions.
-/
import Derived.Test.YtfgcjdhcnalmmaaDoorPAlong
import Derived.Test.YtfgcjdhcnalmmaaDoorIsin
import Derived.Test.YtfgcjdhcnalmmaaDoorMem3
namespace Go.Proofs.YtfgcjdhcnalmmaaDoor
open Go.RowKit

theorem own_newg {α : Type} {E : Enc α} {e : TypeId} (w : World) (g : Nat) (hg : g = w.heap.size) (cs : Array Value) (l : List α) (base : Nat) (hb : base ≤ w.heap.size) (hl : l.length ≤ 100000000) (hcs : cs.toList = E.flat l) : Own E e (w.alloc (.cells cs e)) base (.slice (some ⟨g, 0, none⟩) l.length l.length) l := by
  subst hg; exact own_new w cs l base hb hl hcs

set_option maxRecDepth 100000 in
set_option maxHeartbeats 2000000 in
theorem leave_c (A : Option Addr) (c : Nat) (l : List Int) (x : Int) (w : World) (h : Rd inE w w.heap.size A l) (hl : l.length ≤ 1048576) :
    Calls Tryd.prog 88 #[.slice A l.length c, .int .i64 x] w fun e w' => ∃ v, e = .returned v ∧ Own inE 3 w' w.heap.size v (leaveL l x) ∧ Below w.heap.size w w' := by
  have H := Lib.hid h
  clear h
  have N := Lib.hid (own_new (E := inE) (e := 3) w #[] [] w.heap.size (Nat.le_refl _) (by simp) rfl)
  have B0 := Lib.hid ((Below.refl w.heap.size w).alloc (Nat.le_refl _) (.cells #[] 3))
  go_enter Tryd.func88, Tryd.ntmps88
  go_wp2_with fail
  go_loopw [5, 6] (fun vo i wr => ∃ k : Nat, k ≤ l.length ∧ i = .int .i64 k ∧ Own inE 3 wr w.heap.size vo ((l.take k).filter (fun y => y != x)) ∧ Below w.heap.size w wr) (fun _ i _ => l.length - (intOf i).toNat)
  case atStart => exact ⟨0, by omega, rfl, N.out, B0.out⟩
  case round =>
    obtain ⟨k, hk, rfl, ho, hbel⟩ := hrel
    obtain ⟨Ao, co, rfl, _, _, _⟩ := ho.form
    have R := Lib.hid (And.intro ho hbel)
    by_cases hlt : k < l.length
    · obtain ⟨b, o, rfl, hb, c0⟩ := (H.out.below hbel (Nat.le_refl _)).int hlt
      have hlf : ((l.take k).filter (fun y => y != x)).length ≤ 1048576 := Nat.le_trans (filter_take_le _ _ _) hl
      clear ho hbel
      cases h1 : (l[k] != x)
      · have hf := Lib.hid (filter_no (p := fun y => y != x) hlt h1)
        go_wp2_with fail
        go_roundw
        case rel => exact ⟨k + 1, by omega, by go_num, by rw [hf.out]; exact R.out.1, R.out.2⟩
        case measure => simp [intOf]; omega
      · have hf := Lib.hid (filter_yes (p := fun y => y != x) hlt h1)
        go_wp2_with (at_builtin; refine wpList_ap1 slIn rfl (.tmp 20) (.tmp 25) rfl _ _ l[k] rfl w w.heap.size _ _ rfl R.out.1 rfl (by omega) R.out.2 (Nat.le_refl _) ?_; intro v1 w1 ho1 hb1 hg1 hat1; have Z := Lib.hid (And.intro ho1 hb1); clear ho1 hb1 hg1 hat1)
        go_roundw
        case rel => exact ⟨k + 1, by omega, by go_num, by rw [hf.out]; exact Z.out.1, Z.out.2⟩
        case measure => simp [intOf]; omega
    · have hf := Lib.hid (filter_done (p := fun y => y != x) (l := l) (k := k) (by omega))
      clear ho hbel
      go_wp2_with fail
      go_ret
      exact ⟨_, rfl, by rw [leaveL, ← hf.out]; exact R.out.1, R.out.2⟩
set_option maxRecDepth 100000 in
set_option maxHeartbeats 8000000 in
theorem alongFault_c (A : Option Addr) (c : Nat) (t : List Nd) (A2 : Option Addr) (c2 : Nat) (r : List Stp) (who : Int) (w : World) (h : Rd ndE w w.heap.size A t) (h2 : Rd stpE w w.heap.size A2 r) (_hl : t.length ≤ 1048577) (hr : r.length ≤ 100) (hs : ∀ k (hk : k < r.length), ∃ j : Nat, r[k].node = (j : Int) ∧ j ≤ 11) :
    Calls Tryd.prog 63 #[.slice A t.length c, .slice A2 r.length c2, .int .i64 who] w fun e w' => e = .returned (.int .i64 (alongL t r who)) ∧ Below w.heap.size w w' := by
  have H := Lib.hid h
  have H2 := Lib.hid h2
  have NS := Lib.hid hs
  clear h h2 hs
  have N1 := Lib.hid ((own_new (E := inE) (e := 3) w #[] [] w.heap.size (Nat.le_refl _) (by simp) rfl).alloc (.cells #[] 3))
  have N2 := Lib.hid (own_newg (E := inE) (e := 3) (w.alloc (.cells #[] 3)) (w.heap.size + 1) (by simp) #[] [] w.heap.size (by simp) (by simp) rfl)
  have B0 := Lib.hid (((Below.refl w.heap.size w).alloc (Nat.le_refl _) (.cells #[] 3)).alloc (by simp) (.cells #[] 3))
  go_enter Tryd.func63, Tryd.ntmps63
  go_wp2_with fail
  go_loopw [7, 8, 9, 10] (fun fv hv dv iv wr => ∃ (k : Nat) (fb : Bool) (HS DS : List Int), k ≤ r.length ∧ iv = .int .i64 k ∧ fv = .bool fb ∧ Hid (alongL t r who = alongS t who ⟨fb, HS, DS⟩ (r.drop k) k) ∧ HS.length ≤ k ∧ DS.length ≤ k ∧ Own inE 3 wr w.heap.size hv HS ∧ Own inE 3 wr w.heap.size dv DS ∧ Apart hv dv ∧ Below w.heap.size w wr) (fun _ _ _ iv _ => r.length - (intOf iv).toNat)
  case atStart =>
    refine ⟨0, true, [], [], by omega, rfl, rfl, Lib.hid rfl, by simp, by simp, N1.out, N2.out, ?_, B0.out⟩
    right
    simp [Value.ownBlock]
  case round =>
    obtain ⟨k, fb, HS, DS, hk, rfl, rfl, L, hHS, hDS, hoh, hod, hap, hbel⟩ := hrel
    obtain ⟨Ah, ch, rfl, _, _, hrh⟩ := hoh.form
    obtain ⟨Ad, cd, rfl, _, _, hrd⟩ := hod.form
    by_cases hlt : k < r.length
    · obtain ⟨b, o, rfl, hb, c0, c1, c2', c3⟩ := (H2.out.below hbel (Nat.le_refl _)).stp hlt
      obtain ⟨j, hj, hj11⟩ := NS.out k hlt
      rw [hj] at c2'
      have R := Lib.hid (And.intro (And.intro hoh (And.intro hod hap)) (And.intro hbel (And.intro hrh hrd)))
      have J := Lib.hid hj
      clear hoh hod hap hbel hrh hrd hj
      by_cases hw : (r[k].who == who) = true
      · have hwn : (r[k].who != who) = false := by rw [bne, hw]; rfl
        by_cases hf : r[k].free = true
        · have F := Lib.hid (along_next (t := t) (who := who) (s := ⟨fb, HS, DS⟩) hlt (by rw [(as_free (s := ⟨fb, HS, DS⟩) hw hf).2]; rfl))
          have F2 := Lib.hid ((as_free (s := ⟨fb, HS, DS⟩) hw hf).1)
          have BB := Lib.hid (R.out.2.1.alloc R.out.2.1.size (.cells #[.int .i64 r[k].who, .bool true, .int .i64 j, .int .i64 r[k].mode] 78))
          have RR := Lib.hid (R.out.2.2.1.grow ((Below.refl _ _).alloc (Nat.le_refl _) (.cells #[.int .i64 r[k].who, .bool true, .int .i64 j, .int .i64 r[k].mode] 78)))
          have OD := Lib.hid (R.out.1.2.1.alloc (.cells #[.int .i64 r[k].who, .bool true, .int .i64 j, .int .i64 r[k].mode] 78))
          go_wp2_with fail
          refine (leave_c Ah ch HS j _ RR.out (by omega)).mono ?_
          rintro e w2 ⟨v, rfl, ho, hb2⟩
          have S := Lib.hid (And.intro (ho.base BB.out.size) (And.intro (OD.out.grow hb2) (And.intro (own_ne' (fun i hi => (ho.lt i hi).1) (fun i hi => (R.out.1.2.1.lt i hi).2) (by simp)) (BB.out.trans (hb2.mono BB.out.size)))))
          have hll : (leaveL HS j).length ≤ HS.length := List.length_filter_le _ _
          clear ho hb2
          go_wp2_with fail
          go_roundw
          case rel => exact ⟨k + 1, fb, leaveL HS j, DS, by omega, by go_num, rfl, Lib.hid (by rw [L.out, F.out, F2.out, J.out]), by omega, by omega, S.out.1, S.out.2.1, S.out.2.2.1, S.out.2.2.2⟩
          case measure => simp [intOf]; omega
        · rw [Bool.not_eq_true] at hf
          have TK := Lib.hid (as_take (s := ⟨fb, HS, DS⟩) hw hf)
          have BB := Lib.hid (R.out.2.1.alloc R.out.2.1.size (.cells #[.int .i64 r[k].who, .bool false, .int .i64 j, .int .i64 r[k].mode] 78))
          have BD := Lib.hid (show badS t ⟨fb, HS, DS⟩ r[k] = ((r[k].mode != 5) || (decide ((t.length : Int) ≤ (j : Int)) || (hasI DS (j : Int) || (!fb && !(hasI HS (parI t j)))))) by rw [badS, J.out, Int.toNat_natCast])
          cases hm : (r[k].mode != 5)
          · by_cases hjl : j < t.length
            · have hjn : decide ((t.length : Int) ≤ (j : Int)) = false := by simp; omega
              cases hd : hasI DS (j : Int)
              · obtain ⟨b2, o2, rfl, hb2, n0, n1, n2⟩ := (H.out.below BB.out (Nat.le_refl _)).nd hjl
                have PI := Lib.hid (parI_at hjl)
                clear n1 n2
                have HD := Lib.hid hd
                have key : fb = true ∨ (fb = false ∧ hasI HS t[j].par = true) ∨ (fb = false ∧ hasI HS t[j].par = false) := by
                  cases fb
                  · right; cases hasI HS t[j].par
                    · exact .inr ⟨rfl, rfl⟩
                    · exact .inl ⟨rfl, rfl⟩
                  · exact .inl rfl
                rcases key with hfb | ⟨hfb, hh⟩ | ⟨hfb, hh⟩
                · subst hfb
                  have F := Lib.hid (along_next (t := t) (who := who) (s := ⟨true, HS, DS⟩) hlt (by rw [BD.out, hm, hjn, hd]; simp))
                  clear hd
                  go_wp2_with fail
                  refine (isIn_c Ad cd DS j _ _ (R.out.2.2.2.grow ((Below.refl _ _).alloc (Nat.le_refl _) _)) (by omega)).mono ?_
                  rintro e w' ⟨rfl, rfl⟩
                  rw [HD.out]
                  obtain ⟨wq, hwq⟩ : ∃ wq, wr.alloc (.cells #[.int .i64 r[k].who, .bool false, .int .i64 j, .int .i64 r[k].mode] 78) = wq := ⟨_, rfl⟩
                  have BQ : Blk wq wr.heap.size 78 #[.int .i64 r[k].who, .bool false, .int .i64 j, .int .i64 r[k].mode] := by rw [← hwq]; exact Blk.new _ _ _
                  have Q := Lib.hid (And.intro (show Own inE 3 wq w.heap.size (.slice Ah HS.length ch) HS by rw [← hwq]; exact R.out.1.1.alloc _) (And.intro (show Own inE 3 wq w.heap.size (.slice Ad DS.length cd) DS by rw [← hwq]; exact R.out.1.2.1.alloc _) (show Below w.heap.size w wq by rw [← hwq]; exact BB.out)))
                  have q2 : wq.cell? ⟨wr.heap.size, 2, none⟩ = some (.int .i64 j) := by rw [cell_of_row _ _ 2 _ _ _ BQ]; rfl
                  have CB := Lib.hid (show ∀ w1, wq.grownBy w1 (Value.slice Ah HS.length ch).ownBlock → w1.cell? ⟨wr.heap.size, 2, none⟩ = some (.int .i64 j) by
                    intro w1 hg1
                    have BK := BQ.kept hg1 (fun e => by have := (R.out.1.1.lt _ e.symm).2; omega)
                    rw [cell_of_row _ _ 2 _ _ _ BK]; rfl)
                  have n0 : wq.cell? ⟨b2, o2 + j * 3, none⟩ = some (.int .i64 t[j].par) := by rw [← hwq]; exact n0
                  rw [hwq]
                  clear hwq BQ
                  go_wp2_with (first
                    | (at_builtin; refine wpList_ap1 slIn rfl (.tmp 66) (.tmp 69) rfl _ _ (j : Int) rfl w w.heap.size _ HS rfl Q.out.1 rfl (by omega) Q.out.2.2 (Nat.le_refl _) ?_; intro v1 w1 ho1 hb1 hg1 hat1; have q3 := CB.out _ hg1; have Z := Lib.hid (And.intro ho1 (And.intro hb1 (And.intro (Q.out.2.1.kept' hg1 R.out.1.2.2.symm) (Apart.grown R.out.1.2.2.symm Q.out.2.1 hat1)))); clear ho1 hb1 hg1 hat1)
                    | (at_builtin; refine wpList_ap1 slIn rfl (.tmp 71) (.tmp 74) rfl _ _ (j : Int) rfl w w.heap.size _ DS rfl Z.out.2.2.1 rfl (by omega) Z.out.2.1 (Nat.le_refl _) ?_; intro v2 w2 ho2 hb2 hg2 hat2; have Z2 := Lib.hid (And.intro (Z.out.1.kept' hg2 Z.out.2.2.2.symm) (And.intro ho2 (And.intro (Apart.grown Z.out.2.2.2.symm Z.out.1 hat2) hb2))); clear ho2 hb2 hg2 hat2))
                  go_roundw
                  case rel => exact ⟨k + 1, false, HS ++ [(j : Int)], DS ++ [(j : Int)], by omega, by go_num, rfl, Lib.hid (by rw [L.out, F.out, TK.out.1, J.out]), by simp; omega, by simp; omega, Z2.out.1, Z2.out.2.1, Z2.out.2.2.1, Z2.out.2.2.2⟩
                  case measure => simp [intOf]; omega
                · subst hfb
                  have F := Lib.hid (along_next (t := t) (who := who) (s := ⟨false, HS, DS⟩) hlt (by rw [BD.out, hm, hjn, hd, PI.out, hh]; simp))
                  have HH := Lib.hid hh
                  clear hd hh
                  go_wp2_with fail
                  refine (isIn_c Ad cd DS j _ _ (R.out.2.2.2.grow ((Below.refl _ _).alloc (Nat.le_refl _) _)) (by omega)).mono ?_
                  rintro e w' ⟨rfl, rfl⟩
                  rw [HD.out]
                  obtain ⟨wq, hwq⟩ : ∃ wq, wr.alloc (.cells #[.int .i64 r[k].who, .bool false, .int .i64 j, .int .i64 r[k].mode] 78) = wq := ⟨_, rfl⟩
                  have BQ : Blk wq wr.heap.size 78 #[.int .i64 r[k].who, .bool false, .int .i64 j, .int .i64 r[k].mode] := by rw [← hwq]; exact Blk.new _ _ _
                  have Q := Lib.hid (And.intro (show Own inE 3 wq w.heap.size (.slice Ah HS.length ch) HS by rw [← hwq]; exact R.out.1.1.alloc _) (And.intro (show Own inE 3 wq w.heap.size (.slice Ad DS.length cd) DS by rw [← hwq]; exact R.out.1.2.1.alloc _) (show Below w.heap.size w wq by rw [← hwq]; exact BB.out)))
                  have q2 : wq.cell? ⟨wr.heap.size, 2, none⟩ = some (.int .i64 j) := by rw [cell_of_row _ _ 2 _ _ _ BQ]; rfl
                  have CB := Lib.hid (show ∀ w1, wq.grownBy w1 (Value.slice Ah HS.length ch).ownBlock → w1.cell? ⟨wr.heap.size, 2, none⟩ = some (.int .i64 j) by
                    intro w1 hg1
                    have BK := BQ.kept hg1 (fun e => by have := (R.out.1.1.lt _ e.symm).2; omega)
                    rw [cell_of_row _ _ 2 _ _ _ BK]; rfl)
                  have n0 : wq.cell? ⟨b2, o2 + j * 3, none⟩ = some (.int .i64 t[j].par) := by rw [← hwq]; exact n0
                  rw [hwq]
                  clear hwq BQ
                  go_wp2_with fail
                  refine (isIn_c Ah ch HS t[j].par _ _ (Q.out.1.rd.1) (by omega)).mono ?_
                  rintro e w' ⟨rfl, rfl⟩
                  rw [HH.out]
                  go_wp2_with (first
                    | (at_builtin; refine wpList_ap1 slIn rfl (.tmp 66) (.tmp 69) rfl _ _ (j : Int) rfl w w.heap.size _ HS rfl Q.out.1 rfl (by omega) Q.out.2.2 (Nat.le_refl _) ?_; intro v1 w1 ho1 hb1 hg1 hat1; have q3 := CB.out _ hg1; have Z := Lib.hid (And.intro ho1 (And.intro hb1 (And.intro (Q.out.2.1.kept' hg1 R.out.1.2.2.symm) (Apart.grown R.out.1.2.2.symm Q.out.2.1 hat1)))); clear ho1 hb1 hg1 hat1)
                    | (at_builtin; refine wpList_ap1 slIn rfl (.tmp 71) (.tmp 74) rfl _ _ (j : Int) rfl w w.heap.size _ DS rfl Z.out.2.2.1 rfl (by omega) Z.out.2.1 (Nat.le_refl _) ?_; intro v2 w2 ho2 hb2 hg2 hat2; have Z2 := Lib.hid (And.intro (Z.out.1.kept' hg2 Z.out.2.2.2.symm) (And.intro ho2 (And.intro (Apart.grown Z.out.2.2.2.symm Z.out.1 hat2) hb2))); clear ho2 hb2 hg2 hat2))
                  go_roundw
                  case rel => exact ⟨k + 1, false, HS ++ [(j : Int)], DS ++ [(j : Int)], by omega, by go_num, rfl, Lib.hid (by rw [L.out, F.out, TK.out.1, J.out]), by simp; omega, by simp; omega, Z2.out.1, Z2.out.2.1, Z2.out.2.2.1, Z2.out.2.2.2⟩
                  case measure => simp [intOf]; omega
                · subst hfb
                  have F := Lib.hid (L.out.trans (along_bad hlt TK.out.2 (by rw [BD.out, hm, hjn, hd, PI.out, hh]; rfl)))
                  have HH := Lib.hid hh
                  clear hd hh
                  go_wp2_with fail
                  refine (isIn_c Ad cd DS j _ _ (R.out.2.2.2.grow ((Below.refl _ _).alloc (Nat.le_refl _) _)) (by omega)).mono ?_
                  rintro e w' ⟨rfl, rfl⟩
                  rw [HD.out]
                  go_wp2_with fail
                  refine (isIn_c Ah ch HS t[j].par _ _ (R.out.2.2.1.grow ((Below.refl _ _).alloc (Nat.le_refl _) _)) (by omega)).mono ?_
                  rintro e w' ⟨rfl, rfl⟩
                  rw [HH.out]
                  go_wp2_with fail
                  go_ret
                  exact ⟨ret_int F.out.symm, BB.out⟩
              · have F := Lib.hid (L.out.trans (along_bad hlt TK.out.2 (by rw [BD.out, hd]; simp)))
                have HD := Lib.hid hd
                clear hd
                go_wp2_with fail
                refine (isIn_c Ad cd DS j _ _ (R.out.2.2.2.grow ((Below.refl _ _).alloc (Nat.le_refl _) _)) (by omega)).mono ?_
                rintro e w' ⟨rfl, rfl⟩
                rw [HD.out]
                go_wp2_with fail
                go_ret
                exact ⟨ret_int F.out.symm, BB.out⟩
            · have F := Lib.hid (L.out.trans (along_bad hlt TK.out.2 (by rw [BD.out, show decide ((t.length : Int) ≤ (j : Int)) = true by simp; omega]; simp)))
              go_wp2_with fail
              go_ret
              exact ⟨ret_int F.out.symm, BB.out⟩
          · have F := Lib.hid (L.out.trans (along_bad hlt TK.out.2 (by rw [BD.out, hm]; rfl)))
            go_wp2_with fail
            go_ret
            exact ⟨ret_int F.out.symm, BB.out⟩
      · rw [Bool.not_eq_true] at hw
        have hwn : (r[k].who != who) = true := by rw [bne, hw]; rfl
        have F := Lib.hid (along_next (t := t) (who := who) (s := ⟨fb, HS, DS⟩) hlt (by rw [(as_skip (s := ⟨fb, HS, DS⟩) hw).2]; rfl))
        have F2 := Lib.hid ((as_skip (s := ⟨fb, HS, DS⟩) hw).1)
        go_wp2_with fail
        go_roundw
        case rel => exact ⟨k + 1, fb, HS, DS, by omega, by go_num, rfl, Lib.hid (by rw [L.out, F.out, F2.out]), by omega, by omega, R.out.1.1.alloc _, R.out.1.2.1.alloc _, R.out.1.2.2, R.out.2.1.alloc R.out.2.1.size _⟩
        case measure => simp [intOf]; omega
    · have F := Lib.hid (L.out.trans (along_end (by omega)))
      have B := Lib.hid hbel
      clear hoh hod hap hbel hrh hrd
      go_wp2_with fail
      go_ret
      exact ⟨ret_int F.out.symm, B.out⟩
set_option maxRecDepth 100000 in
set_option maxHeartbeats 2000000 in
theorem spec_AlongFault_c (A : Option Addr) (c : Nat) (t : List Nd) (A2 : Option Addr) (c2 : Nat) (r : List Stp) (who : Int) (w : World) (h : Rd ndE w w.heap.size A t) (h2 : Rd stpE w w.heap.size A2 r) (hl : t.length ≤ 1048576) (hl2 : r.length ≤ 1048576) (hc : t.length ≤ c) :
    Calls Tryd.prog 27 #[.slice A t.length c, .slice A2 r.length c2, .int .i64 who] w fun e w' => e = .returned (.int .i64 (alongF t r who)) ∧ Below w.heap.size w w' := by
  have H := Lib.hid h
  have H2 := Lib.hid h2
  clear h h2
  cases h1 : treeOk t
  · have F := Lib.hid (show alongF t r who = -1 by rw [alongF, h1]; rfl)
    have HT := Lib.hid h1
    clear h1
    go_enter Tryd.func27, Tryd.ntmps27
    go_wp2_with fail
    refine (validTree_c A c t _ _ H.out (by omega) hc).mono ?_
    rintro e w1 ⟨rfl, hd⟩
    have B := Lib.hid (hd.below w.heap.size)
    clear hd
    rw [HT.out]
    go_wp2_with fail
    go_ret
    exact ⟨ret_int F.out.symm, B.out⟩
  cases h3 : stpOk r
  · have F := Lib.hid (show alongF t r who = -1 by rw [alongF, h1, h3]; rfl)
    have HT := Lib.hid h1
    have HT2 := Lib.hid h3
    clear h1 h3
    go_enter Tryd.func27, Tryd.ntmps27
    go_wp2_with fail
    refine (validTree_c A c t _ _ H.out (by omega) hc).mono ?_
    rintro e w1 ⟨rfl, hd⟩
    have B := Lib.hid (hd.below w.heap.size)
    clear hd
    rw [HT.out]
    go_wp2_with fail
    refine (validSteps_c A2 c2 r _ (H2.out.grow B.out) hl2).mono ?_
    rintro e w2 ⟨rfl, hb⟩
    have B2 := Lib.hid (B.out.trans (hb.mono B.out.size))
    clear hb
    rw [HT2.out]
    go_wp2_with fail
    go_ret
    exact ⟨ret_int F.out.symm, B2.out⟩
  have F := Lib.hid (show alongF t r who = alongL t r who by rw [alongF, h1, h3]; rfl)
  have HT := Lib.hid h1
  have HT2 := Lib.hid h3
  have hr := (tabF_spec h3).2.1
  clear h1 h3
  go_enter Tryd.func27, Tryd.ntmps27
  go_wp2_with fail
  refine (validTree_c A c t _ _ H.out (by omega) hc).mono ?_
  rintro e w1 ⟨rfl, hd⟩
  have B := Lib.hid (hd.below w.heap.size)
  clear hd
  rw [HT.out]
  go_wp2_with fail
  refine (validSteps_c A2 c2 r _ (H2.out.grow B.out) hl2).mono ?_
  rintro e w2 ⟨rfl, hb⟩
  have B2 := Lib.hid (B.out.trans (hb.mono B.out.size))
  clear hb
  rw [HT2.out]
  go_wp2_with fail
  refine (alongFault_c A c t A2 c2 r who _ (H.out.grow B2.out) (H2.out.grow B2.out) (by omega) (by omega) (fun k hk => step_node (stp_at HT2.out hk))).mono ?_
  rintro e w3 ⟨rfl, hb⟩
  have B3 := Lib.hid (B2.out.trans (hb.mono B2.out.size))
  clear hb
  go_wp2_with fail
  go_ret
  exact ⟨ret_int F.out.symm, B3.out⟩
end Go.Proofs.YtfgcjdhcnalmmaaDoor
