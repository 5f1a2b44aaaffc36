/-
  The rule of the path: the contracts of the program's functions.
-/
import Derived.Test.YtfgcjdhcnalmmaaDoorPAlong
import Derived.Test.YtfgcjdhcnalmmaaDoorCtn
import Derived.Test.YtfgcjdhcnalmmaaDoorMem3
namespace Go.Proofs.YtfgcjdhcnalmmaaDoor
open Go.RowKit

theorem go_in {t : List Nd} {m : List Lk} {L : List Int} {who : Int} {j : Nat} (h : inR (j : Int) 0 ((t.length : Int) - 1) = false) : goB t m L who j = false := by
  unfold goB
  have : decide (j < t.length) = false := by
    simp [inR] at h
    simp; omega
  rw [this]; rfl
set_option maxRecDepth 100000 in
set_option maxHeartbeats 4000000 in
theorem goesOn_c (A : Option Addr) (c : Nat) (t : List Nd) (A2 : Option Addr) (c2 : Nat) (m : List Lk) (A3 : Option Addr) (c3 : Nat) (L : List Int) (who : Int) (j : Nat) (w : World) (h : Rd ndE w w.heap.size A t) (h2 : Rd lkE w w.heap.size A2 m) (h3 : Rd inE w w.heap.size A3 L) (hl : t.length ≤ 1048577) (hm : m.length ≤ 1048576) (hL : L.length ≤ 1048576) :
    Calls Tryd.prog 66 #[.slice A t.length c, .slice A2 m.length c2, .slice A3 L.length c3, .int .i64 who, .int .i64 j] w fun e w' => e = .returned (.bool (goB t m L who j)) ∧ Below w.heap.size w w' := by
  have H := Lib.hid (And.intro h (And.intro h2 h3))
  clear h h2 h3
  cases h1 : inR (j : Int) 0 ((t.length : Int) - 1)
  · have F := Lib.hid (go_in (m := m) (L := L) (who := who) h1)
    go_enter Tryd.func66, Tryd.ntmps66
    go_wp2_with (go_at_call 72; refine (within_c _ _ _ _).mono ?_; rintro e w' ⟨rfl, rfl⟩)
    go_ret
    exact ⟨ret_bool F.out.symm, Below.refl _ _⟩
  have hjt : j < t.length := by simp [inR] at h1; omega
  have GB : goB t m L who j = (!(hasI L (j : Int)) && (L.isEmpty || m.any (isL who (parI t j)))) := by rw [goB, decide_eq_true hjt]; rfl
  have G := Lib.hid GB
  clear GB
  cases hd : hasI L (j : Int)
  · have HD := Lib.hid hd
    by_cases h0 : ((L.length : Int) == 0) = true
    · have F := Lib.hid (show goB t m L who j = true by
        rw [G.out, hd]
        have : L = [] := by apply List.eq_nil_of_length_eq_zero; simp at h0; simp [h0]
        rw [this]; rfl)
      clear hd
      go_enter Tryd.func66, Tryd.ntmps66
      go_wp2_with (go_at_call 72; refine (within_c _ _ _ _).mono ?_; rintro e w' ⟨rfl, rfl⟩)
      refine (contains_c A3 c3 L j _ _ H.out.2.2 hL).mono ?_
      rintro e w' ⟨rfl, rfl⟩
      rw [HD.out]
      go_wp2_with fail
      go_ret
      exact ⟨ret_bool F.out.symm, Below.refl _ _⟩
    · rw [Bool.not_eq_true] at h0
      obtain ⟨b, o, rfl, hb, n0, n1, n2⟩ := H.out.1.nd hjt
      have LA := lockI_any m who t[j].par
      obtain ⟨z, hz⟩ : ∃ z, lockI m who t[j].par = z := ⟨_, rfl⟩
      rw [hz] at LA
      have Z := Lib.hid hz
      have F := Lib.hid (show goB t m L who j = decide (0 ≤ z) by
        rw [G.out, hd, LA, parI_at hjt]
        have : L.isEmpty = false := by
          cases L with
          | nil => simp at h0
          | cons => rfl
        rw [this]; simp)
      clear hd n1 n2 LA hz
      go_enter Tryd.func66, Tryd.ntmps66
      go_wp2_with (go_at_call 72; refine (within_c _ _ _ _).mono ?_; rintro e w' ⟨rfl, rfl⟩)
      refine (contains_c A3 c3 L j _ _ H.out.2.2 hL).mono ?_
      rintro e w' ⟨rfl, rfl⟩
      rw [HD.out]
      go_wp2_with fail
      refine (lockAt_c A2 c2 m who t[j].par _ H.out.2.1 hm).mono ?_
      rintro e w1 ⟨rfl, hb⟩
      have B := Lib.hid hb
      clear hb
      rw [Z.out]
      go_wp2_with fail
      go_ret
      exact ⟨ret_bool F.out.symm, B.out⟩
  · have HD := Lib.hid hd
    have F := Lib.hid (show goB t m L who j = false by rw [G.out, hd]; rfl)
    clear hd
    go_enter Tryd.func66, Tryd.ntmps66
    go_wp2_with (go_at_call 72; refine (within_c _ _ _ _).mono ?_; rintro e w' ⟨rfl, rfl⟩)
    refine (contains_c A3 c3 L j _ _ H.out.2.2 hL).mono ?_
    rintro e w' ⟨rfl, rfl⟩
    rw [HD.out]
    go_wp2_with fail
    go_ret
    exact ⟨ret_bool F.out.symm, Below.refl _ _⟩
theorem doStep_c2 (A : Option Addr) (c : Nat) (l : List Lk) (s : Stp) (n : Int) (hn : s.node = n) (fv : Bool) (hf : s.free = fv) (w : World) (h : Rd lkE w w.heap.size A l) (hl : l.length ≤ 1048576) (hc : l.length ≤ c) (ht : TTab w) (hj : JTab w) :
    Calls Tryd.prog 67 #[.slice A l.length c, .agg #[.int .i64 s.who, .bool fv, .int .i64 n, .int .i64 s.mode]] w fun e w' => ∃ v, e = .returned (.tuple #[v, .bool (doI l s).isSome]) ∧ Own lkE 57 w' w.heap.size v (oR (doI l s)) ∧ Below w.heap.size w w' := by
  subst hn hf
  exact doStep_c A c l s w h hl hc ht hj
set_option maxRecDepth 100000 in
set_option maxHeartbeats 8000000 in
theorem impl_AlongFault_c (A : Option Addr) (c : Nat) (t : List Nd) (A2 : Option Addr) (c2 : Nat) (r : List Stp) (who : Int) (w : World) (h : Rd ndE w w.heap.size A t) (h2 : Rd stpE w w.heap.size A2 r) (hl : t.length ≤ 1048576) (hl2 : r.length ≤ 1048576) (hc : t.length ≤ c) (ht : TTab w) (hj : JTab w) :
    Calls Tryd.prog 29 #[.slice A t.length c, .slice A2 r.length c2, .int .i64 who] w fun e w' => e = .returned (.int .i64 (alongF t r who)) ∧ Below w.heap.size w w' := by
  have H := Lib.hid h
  have H2 := Lib.hid h2
  have T := Lib.hid (And.intro ht hj)
  clear h h2 ht hj
  cases h1 : treeOk t
  · have F := Lib.hid (show alongF t r who = -1 by rw [alongF, h1]; rfl)
    have HT := Lib.hid h1
    clear h1
    go_enter Tryd.func29, Tryd.ntmps29
    go_wp2_with fail
    refine (impl_ValidTree_c A c t _ H.out (by omega) hc).mono ?_
    rintro e w1 ⟨rfl, hb⟩
    have B := Lib.hid hb
    clear hb
    rw [HT.out]
    go_wp2_with fail
    go_ret
    exact ⟨ret_int F.out.symm, B.out⟩
  cases h3 : stpOk r
  · have F := Lib.hid (show alongF t r who = -1 by rw [alongF, h1, h3]; rfl)
    have HT := Lib.hid h1
    have HT2 := Lib.hid h3
    clear h1 h3
    go_enter Tryd.func29, Tryd.ntmps29
    go_wp2_with fail
    refine (impl_ValidTree_c A c t _ H.out (by omega) hc).mono ?_
    rintro e w1 ⟨rfl, hb⟩
    have B := Lib.hid hb
    clear hb
    rw [HT.out]
    go_wp2_with fail
    refine (impl_ValidSteps_c A2 c2 r _ (H2.out.grow B.out) hl2 (T.out.1.below B.out) (T.out.2.below B.out)).mono ?_
    rintro e w2 ⟨rfl, hb⟩
    have B2 := Lib.hid (B.out.trans (hb.mono B.out.size))
    clear hb
    rw [HT2.out]
    go_wp2_with fail
    go_ret
    exact ⟨ret_int F.out.symm, B2.out⟩
  have FF := Lib.hid (show alongF t r who = alongL t r who by rw [alongF, h1, h3]; rfl)
  have HT := Lib.hid h1
  have HT2 := Lib.hid h3
  have hr := (tabF_spec h3).2.1
  clear h1 h3
  go_enter Tryd.func29, Tryd.ntmps29
  go_wp2_with fail
  refine (impl_ValidTree_c A c t _ H.out (by omega) hc).mono ?_
  rintro e w1 ⟨rfl, hb⟩
  have B := Lib.hid hb
  clear hb
  rw [HT.out]
  go_wp2_with fail
  refine (impl_ValidSteps_c A2 c2 r _ (H2.out.grow B.out) hl2 (T.out.1.below B.out) (T.out.2.below B.out)).mono ?_
  rintro e w2 ⟨rfl, hb⟩
  have B2 := Lib.hid (B.out.trans (hb.mono B.out.size))
  clear hb
  rw [HT2.out]
  go_wp2_with fail
  go_loopw [7, 8, 21] (fun tv dv iv wr => ∃ (k : Nat) (s : AS) (DS : List Int) (m : List Lk), k ≤ r.length ∧ iv = .int .i64 k ∧ Hid (alongF t r who = alongS t who s (r.drop k) k ∧ s.had = DS ∧ runN doI [] (r.take k) = some m ∧ ASInv who s m) ∧ DS.length ≤ k ∧ Own lkE 57 wr w.heap.size tv m ∧ Own inE 3 wr w.heap.size dv DS ∧ Apart tv dv ∧ Below w.heap.size w wr) (fun _ _ iv _ => r.length - (intOf iv).toNat)
  case atStart => exact ⟨0, AS0, [], [], by omega, rfl, Lib.hid ⟨FF.out, rfl, rfl, ASInv.start who⟩, by simp, Own.nil, Own.nil, .inl rfl, B2.out⟩
  case round =>
    obtain ⟨k, s, DS, m, hk, rfl, L, hDS, hom, hod, hap, hbel⟩ := hrel
    have hml : m.length ≤ 16 := by
      have := runI_len Tab0.nil L.out.2.2.1
      rw [List.length_take] at this
      simp at this
      omega
    obtain ⟨Am, cm, rfl, hcm, _, hrm⟩ := hom.form
    obtain ⟨Ad, cd, rfl, _, _, hrd⟩ := hod.form
    by_cases hlt : k < r.length
    · obtain ⟨b, o, rfl, hb, c0, c1, c2', c3⟩ := (H2.out.below hbel (Nat.le_refl _)).stp hlt
      obtain ⟨j, hj, hj11⟩ := step_node (stp_at HT2.out hlt)
      rw [hj] at c2'
      have R := Lib.hid (And.intro (And.intro hom (And.intro hod hap)) (And.intro hbel (And.intro hrm hrd)))
      have J := Lib.hid hj
      have CM := Lib.hid hcm
      clear hom hod hap hbel hrm hrd hj hcm
      obtain ⟨m2, hm2⟩ := run_take_some HT2.out (k + 1)
      have D := runN_take hlt L.out.2.2.1
      rw [hm2] at D
      have T0 := (run_keeps Tab0.nil L.out.2.2.1).1
      have D2 := Lib.hid (show doI m r[k] = some m2 ∧ runN doI [] (r.take (k + 1)) = some m2 ∧ ASInv who (asNext who s r[k]) m2 from ⟨D.symm, hm2, L.out.2.2.2.next ((step_same T0 (stp_at HT2.out hlt)).trans D.symm)⟩)
      clear D T0 hm2
      by_cases hw : (r[k].who == who) = true
      · by_cases hf : r[k].free = true
        · have F := Lib.hid (along_next (t := t) (who := who) (s := s) hlt (by rw [(as_free (s := s) hw hf).2]; rfl))
          have F2 := Lib.hid ((as_free (s := s) hw hf).1)
          have HF := Lib.hid hf
          have BB := Lib.hid (R.out.2.1.alloc R.out.2.1.size (.cells #[.int .i64 r[k].who, .bool true, .int .i64 j, .int .i64 r[k].mode] 78))
          have O2 := Lib.hid (And.intro (R.out.2.2.1.grow ((Below.refl _ _).alloc (Nat.le_refl _) (.cells #[.int .i64 r[k].who, .bool true, .int .i64 j, .int .i64 r[k].mode] 78))) (R.out.1.2.1.alloc (.cells #[.int .i64 r[k].who, .bool true, .int .i64 j, .int .i64 r[k].mode] 78)))
          go_wp2_with fail
          refine (doStep_c2 Am cm m r[k] j J.out true HF.out _ O2.out.1 (by omega) CM.out (T.out.1.below BB.out) (T.out.2.below BB.out)).mono ?_
          rintro e w5 ⟨v, rfl, ho, hb5⟩
          rw [D2.out.1] at ho
          rw [D2.out.1]
          have S := Lib.hid (And.intro (show Own lkE 57 w5 w.heap.size v m2 from ho.base BB.out.size) (And.intro (O2.out.2.grow hb5) (And.intro (show Apart v (.slice Ad DS.length cd) from own_ne' (fun i hi => (ho.lt i hi).1) (fun i hi => (R.out.1.2.1.lt i hi).2) (by simp)) (BB.out.trans (hb5.mono BB.out.size)))))
          clear ho hb5
          go_wp2_with fail
          go_roundw
          case rel => exact ⟨k + 1, asNext who s r[k], DS, m2, by omega, by go_num, Lib.hid ⟨by rw [L.out.1, F.out], by rw [F2.out]; exact L.out.2.1, D2.out.2.1, D2.out.2.2⟩, by omega, S.out.1, S.out.2.1, S.out.2.2.1, S.out.2.2.2⟩
          case measure => simp [intOf]; omega
        · rw [Bool.not_eq_true] at hf
          have HF := Lib.hid hf
          have TK := Lib.hid (as_take (s := s) hw hf)
          have BG := Lib.hid (show badS t s r[k] = ((r[k].mode != 5) || !(goB t m DS who j)) by rw [bad_go L.out.2.2.2 t J.out, L.out.2.1])
          have BB := Lib.hid (R.out.2.1.alloc R.out.2.1.size (.cells #[.int .i64 r[k].who, .bool false, .int .i64 j, .int .i64 r[k].mode] 78))
          cases hm : (r[k].mode != 5)
          · obtain ⟨gv, hgv⟩ : ∃ gv, goB t m DS who j = gv := ⟨_, rfl⟩
            have GV := Lib.hid hgv
            have BN := Lib.hid (Blk.new wr 78 #[.int .i64 r[k].who, .bool false, .int .i64 j, .int .i64 r[k].mode])
            have O2 := Lib.hid (And.intro (R.out.1.1.alloc (.cells #[.int .i64 r[k].who, .bool false, .int .i64 j, .int .i64 r[k].mode] 78)) (R.out.1.2.1.alloc (.cells #[.int .i64 r[k].who, .bool false, .int .i64 j, .int .i64 r[k].mode] 78)))
            clear hgv
            go_wp2_with fail
            refine (goesOn_c A c t Am cm m Ad cd DS who j _ (H.out.grow BB.out) (R.out.2.2.1.grow ((Below.refl _ _).alloc (Nat.le_refl _) _)) (R.out.2.2.2.grow ((Below.refl _ _).alloc (Nat.le_refl _) _)) (by omega) (by omega) (by omega)).mono ?_
            rintro e w3 ⟨rfl, hb3⟩
            rw [GV.out]
            have B3 := Lib.hid (BB.out.trans (hb3.mono BB.out.size))
            have BQ := BN.out.grow hb3
            have Q := Lib.hid (And.intro (O2.out.1.grow hb3) (O2.out.2.grow hb3))
            clear hb3
            cases gv
            · have F := Lib.hid (L.out.1.trans (along_bad hlt TK.out.2 (by rw [BG.out, hm, GV.out]; rfl)))
              clear BQ
              go_wp2_with fail
              go_ret
              exact ⟨ret_int F.out.symm, B3.out⟩
            · have F := Lib.hid (along_next (t := t) (who := who) (s := s) hlt (by rw [BG.out, hm, GV.out]; simp))
              have q2 : w3.cell? ⟨wr.heap.size, 2, none⟩ = some (.int .i64 j) := by rw [cell_of_row _ _ 2 _ _ _ BQ]; rfl
              have CB := Lib.hid (show ∀ w4, w3.grownBy w4 (Value.slice Ad DS.length cd).ownBlock → w4.cell? ⟨wr.heap.size, 0, none⟩ = some (.int .i64 r[k].who) ∧ w4.cell? ⟨wr.heap.size, 1, none⟩ = some (.bool false) ∧ w4.cell? ⟨wr.heap.size, 2, none⟩ = some (.int .i64 j) ∧ w4.cell? ⟨wr.heap.size, 3, none⟩ = some (.int .i64 r[k].mode) by
                intro w4 hg1
                have BK := BQ.kept hg1 (fun e => by have := (R.out.1.2.1.lt _ e.symm).2; omega)
                refine ⟨?_, ?_, ?_, ?_⟩ <;> (rw [cell_of_row _ _ _ _ _ _ BK]; rfl))
              clear BQ
              go_wp2_with (at_builtin; refine wpList_ap1 slIn rfl (.tmp 49) (.tmp 52) rfl _ _ (j : Int) rfl w w.heap.size _ DS rfl Q.out.2 rfl (by omega) B3.out (Nat.le_refl _) ?_; intro v1 w4 ho1 hb1 hg1 hat1; obtain ⟨e0, e1, e2, e3⟩ := CB.out _ hg1; have Z := Lib.hid (And.intro ho1 (And.intro hb1 (And.intro (Q.out.1.kept' hg1 R.out.1.2.2) (Apart.grown R.out.1.2.2 Q.out.1 hat1)))); clear ho1 hb1 hg1 hat1)
              refine (doStep_c2 Am cm m r[k] j J.out false HF.out _ Z.out.2.2.1.rd.1 (by omega) CM.out (T.out.1.below Z.out.2.1) (T.out.2.below Z.out.2.1)).mono ?_
              rintro e w5 ⟨v, rfl, ho, hb5⟩
              rw [D2.out.1] at ho
              rw [D2.out.1]
              have S := Lib.hid (And.intro (show Own lkE 57 w5 w.heap.size v m2 from ho.base Z.out.2.1.size) (And.intro (Z.out.1.grow hb5) (And.intro (show Apart v v1 from own_ne' (fun i hi => (ho.lt i hi).1) (fun i hi => (Z.out.1.lt i hi).2) (Nat.le_refl _)) (Z.out.2.1.trans (hb5.mono Z.out.2.1.size)))))
              clear ho hb5 e0 e1 e2 e3
              go_wp2_with fail
              go_roundw
              case rel => exact ⟨k + 1, asNext who s r[k], DS ++ [(j : Int)], m2, by omega, by go_num, Lib.hid ⟨by rw [L.out.1, F.out], by rw [TK.out.1, J.out, ← L.out.2.1], D2.out.2.1, D2.out.2.2⟩, by simp; omega, S.out.1, S.out.2.1, S.out.2.2.1, S.out.2.2.2⟩
              case measure => simp [intOf]; omega
          · have F := Lib.hid (L.out.1.trans (along_bad hlt TK.out.2 (by rw [BG.out, hm]; rfl)))
            go_wp2_with fail
            go_ret
            exact ⟨ret_int F.out.symm, BB.out⟩
      · rw [Bool.not_eq_true] at hw
        have F := Lib.hid (along_next (t := t) (who := who) (s := s) hlt (by rw [(as_skip (s := s) hw).2]; rfl))
        have F2 := Lib.hid ((as_skip (s := s) hw).1)
        have BB := Lib.hid (R.out.2.1.alloc R.out.2.1.size (.cells #[.int .i64 r[k].who, .bool r[k].free, .int .i64 j, .int .i64 r[k].mode] 78))
        have O2 := Lib.hid (And.intro (R.out.2.2.1.grow ((Below.refl _ _).alloc (Nat.le_refl _) (.cells #[.int .i64 r[k].who, .bool r[k].free, .int .i64 j, .int .i64 r[k].mode] 78))) (R.out.1.2.1.alloc (.cells #[.int .i64 r[k].who, .bool r[k].free, .int .i64 j, .int .i64 r[k].mode] 78)))
        go_wp2_with fail
        refine (doStep_c2 Am cm m r[k] j J.out r[k].free rfl _ O2.out.1 (by omega) CM.out (T.out.1.below BB.out) (T.out.2.below BB.out)).mono ?_
        rintro e w5 ⟨v, rfl, ho, hb5⟩
        rw [D2.out.1] at ho
        rw [D2.out.1]
        have S := Lib.hid (And.intro (show Own lkE 57 w5 w.heap.size v m2 from ho.base BB.out.size) (And.intro (O2.out.2.grow hb5) (And.intro (show Apart v (.slice Ad DS.length cd) from own_ne' (fun i hi => (ho.lt i hi).1) (fun i hi => (R.out.1.2.1.lt i hi).2) (by simp)) (BB.out.trans (hb5.mono BB.out.size)))))
        clear ho hb5
        go_wp2_with fail
        go_roundw
        case rel => exact ⟨k + 1, asNext who s r[k], DS, m2, by omega, by go_num, Lib.hid ⟨by rw [L.out.1, F.out], by rw [F2.out]; exact L.out.2.1, D2.out.2.1, D2.out.2.2⟩, by omega, S.out.1, S.out.2.1, S.out.2.2.1, S.out.2.2.2⟩
        case measure => simp [intOf]; omega
    · have F := Lib.hid (L.out.1.trans (along_end (by omega)))
      have B := Lib.hid hbel
      clear hom hod hap hbel hrm hrd
      go_wp2_with fail
      go_ret
      exact ⟨ret_int F.out.symm, B.out⟩
end Go.Proofs.YtfgcjdhcnalmmaaDoor
