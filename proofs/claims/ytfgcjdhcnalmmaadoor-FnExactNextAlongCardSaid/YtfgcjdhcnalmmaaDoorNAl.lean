/-
  What may be taken next: the contracts and the law, in one text (a claim's number of files is bounded).
-/
import Derived.Test.YtfgcjdhcnalmmaaDoorAl3
import Derived.Test.YtfgcjdhcnalmmaaDoorTNd2
import Derived.Test.YtfgcjdhcnalmmaaDoorTNd3
namespace Go.Proofs.YtfgcjdhcnalmmaaDoor
open Go.RowKit

set_option maxRecDepth 100000 in
set_option maxHeartbeats 8000000 in
theorem spec_NextAlong_c (A : Option Addr) (c : Nat) (t : List Nd) (A2 : Option Addr) (c2 : Nat) (r : List Stp) (who : Int) (w : World) (h : Rd ndE w w.heap.size A t) (h2 : Rd stpE w w.heap.size A2 r) (hl : t.length ≤ 1048576) (hl2 : r.length ≤ 1048576) (hc : t.length ≤ c) :
    Calls Tryd.prog 33 #[.slice A t.length c, .slice A2 r.length c2, .int .i64 who] w fun e w' => ∃ v, e = .returned v ∧ Own inE 3 w' w.heap.size v (nextF t r who) ∧ Below w.heap.size w w' := by
  have H := Lib.hid h
  have H2 := Lib.hid h2
  clear h h2
  have N := Lib.hid (own_new (E := inE) (e := 3) w #[] [] w.heap.size (Nat.le_refl _) (by simp) rfl)
  have B0 := Lib.hid ((Below.refl w.heap.size w).alloc (Nat.le_refl _) (.cells #[] 3))
  have H0 := Lib.hid (H.out.grow B0.out)
  have H20 := Lib.hid (H2.out.grow B0.out)
  cases h1 : treeOk t
  · have F := Lib.hid (show nextF t r who = [] by rw [nextF, h1]; rfl)
    have HT := Lib.hid h1
    clear h1
    go_enter Tryd.func33, Tryd.ntmps33
    go_wp2_with fail
    refine (validTree_c A c t _ _ H0.out (by omega) hc).mono ?_
    rintro e w1 ⟨rfl, hd⟩
    have C1 := Lib.hid (hd.below (w.alloc (.cells #[] 3)).heap.size)
    clear hd
    rw [HT.out]
    go_wp2_with fail
    go_ret
    exact ⟨_, rfl, by rw [F.out]; exact Own.nil, B0.out.trans (C1.out.mono B0.out.size)⟩
  cases h3 : stpOk r
  · have F := Lib.hid (show nextF t r who = [] by rw [nextF, h1, h3]; rfl)
    have HT := Lib.hid h1
    have HT2 := Lib.hid h3
    clear h1 h3
    go_enter Tryd.func33, Tryd.ntmps33
    go_wp2_with fail
    refine (validTree_c A c t _ _ H0.out (by omega) hc).mono ?_
    rintro e w1 ⟨rfl, hd⟩
    have C1 := Lib.hid (hd.below (w.alloc (.cells #[] 3)).heap.size)
    clear hd
    rw [HT.out]
    go_wp2_with fail
    refine (validSteps_c A2 c2 r _ (H20.out.grow C1.out) hl2).mono ?_
    rintro e w2 ⟨rfl, hb⟩
    have C2 := Lib.hid (C1.out.trans (hb.mono C1.out.size))
    clear hb
    rw [HT2.out]
    go_wp2_with fail
    go_ret
    exact ⟨_, rfl, by rw [F.out]; exact Own.nil, B0.out.trans (C2.out.mono B0.out.size)⟩
  cases h4 : inR who 0 3
  · have F := Lib.hid (show nextF t r who = [] by rw [nextF, h1, h3, h4]; rfl)
    have HT := Lib.hid h1
    have HT2 := Lib.hid h3
    clear h1 h3
    go_enter Tryd.func33, Tryd.ntmps33
    go_wp2_with fail
    refine (validTree_c A c t _ _ H0.out (by omega) hc).mono ?_
    rintro e w1 ⟨rfl, hd⟩
    have C1 := Lib.hid (hd.below (w.alloc (.cells #[] 3)).heap.size)
    clear hd
    rw [HT.out]
    go_wp2_with fail
    refine (validSteps_c A2 c2 r _ (H20.out.grow C1.out) hl2).mono ?_
    rintro e w2 ⟨rfl, hb⟩
    have C2 := Lib.hid (C1.out.trans (hb.mono C1.out.size))
    clear hb
    rw [HT2.out]
    go_wp2_with (go_at_call 49; refine (inRange_c _ _ _ _).mono ?_; rintro e w' ⟨rfl, rfl⟩)
    go_ret
    exact ⟨_, rfl, by rw [F.out]; exact Own.nil, B0.out.trans (C2.out.mono B0.out.size)⟩
  have hr := (tabF_spec h3).2.1
  have h12 := tree12 h1
  obtain ⟨z0, hz0⟩ : ∃ z, alongL t r who = z := ⟨_, rfl⟩
  by_cases h5 : 0 ≤ z0
  · have F := Lib.hid (show nextF t r who = [] by
      rw [nextF, h1, h3, h4, hz0, show decide (z0 < 0) = false by simp; omega]; rfl)
    have HT := Lib.hid h1
    have HT2 := Lib.hid h3
    have ZZ0 := Lib.hid hz0
    clear h1 h3 hz0
    go_enter Tryd.func33, Tryd.ntmps33
    go_wp2_with fail
    refine (validTree_c A c t _ _ H0.out (by omega) hc).mono ?_
    rintro e w1 ⟨rfl, hd⟩
    have C1 := Lib.hid (hd.below (w.alloc (.cells #[] 3)).heap.size)
    clear hd
    rw [HT.out]
    go_wp2_with fail
    refine (validSteps_c A2 c2 r _ (H20.out.grow C1.out) hl2).mono ?_
    rintro e w2 ⟨rfl, hb⟩
    have C2 := Lib.hid (C1.out.trans (hb.mono C1.out.size))
    clear hb
    rw [HT2.out]
    go_wp2_with (go_at_call 49; refine (inRange_c _ _ _ _).mono ?_; rintro e w' ⟨rfl, rfl⟩)
    refine (alongFault_c A c t A2 c2 r who _ (H0.out.grow C2.out) (H20.out.grow C2.out) (by omega) (by omega) (fun k hk => step_node (stp_at HT2.out hk))).mono ?_
    rintro e w4 ⟨rfl, hb⟩
    have C4 := Lib.hid (C2.out.trans (hb.mono C2.out.size))
    clear hb
    rw [ZZ0.out]
    go_wp2_with fail
    go_ret
    exact ⟨_, rfl, by rw [F.out]; exact Own.nil, B0.out.trans (C4.out.mono B0.out.size)⟩
  obtain ⟨m, hm1, hm2, hm3, hT0, hml⟩ := tab_some h3
  have F := Lib.hid (show nextF t r who = markU (nextP t r m who) t.length by
    rw [nextF, h1, h3, h4, hz0, show decide (z0 < 0) = true by simp; omega, hm1]; rfl)
  have HT := Lib.hid h1
  have HT2 := Lib.hid h3
  have ZZ0 := Lib.hid hz0
  have M := Lib.hid (And.intro hm2 hT0)
  clear h1 h3 hz0 hm1 hm2 hm3 hT0
  go_enter Tryd.func33, Tryd.ntmps33
  go_wp2_with fail
  refine (validTree_c A c t _ _ H0.out (by omega) hc).mono ?_
  rintro e w1 ⟨rfl, hd⟩
  have C1 := Lib.hid (hd.below (w.alloc (.cells #[] 3)).heap.size)
  clear hd
  rw [HT.out]
  go_wp2_with fail
  refine (validSteps_c A2 c2 r _ (H20.out.grow C1.out) hl2).mono ?_
  rintro e w2 ⟨rfl, hb⟩
  have C2 := Lib.hid (C1.out.trans (hb.mono C1.out.size))
  clear hb
  rw [HT2.out]
  go_wp2_with (go_at_call 49; refine (inRange_c _ _ _ _).mono ?_; rintro e w' ⟨rfl, rfl⟩)
  refine (alongFault_c A c t A2 c2 r who _ (H0.out.grow C2.out) (H20.out.grow C2.out) (by omega) (by omega) (fun k hk => step_node (stp_at HT2.out hk))).mono ?_
  rintro e w4 ⟨rfl, hb⟩
  have C4 := Lib.hid (C2.out.trans (hb.mono C2.out.size))
  clear hb
  rw [ZZ0.out]
  go_wp2_with fail
  refine (tableAfter_c A2 c2 r _ (H20.out.grow C4.out) hr).mono ?_
  rintro e w5 ⟨v, rfl, ho, hb⟩
  rw [M.out.1, oR_some] at ho
  rw [M.out.1]
  obtain ⟨At, ct, rfl, _, _, _⟩ := ho.form
  have S := Lib.hid (And.intro ((N.out.grow C4.out).grow hb) (And.intro (RdA.own (vo := .slice (some ⟨w.heap.size, 0, none⟩) 0 0) ho (fun k hk => by
    have h6 := C4.out.size
    simp [Value.ownBlock] at hk h6
    omega)) (B0.out.trans ((C4.out.trans (hb.mono C4.out.size)).mono B0.out.size))))
  clear ho hb
  go_wp2_with fail
  go_loopw [7, 10] (fun vo iv wr => ∃ n : Nat, iv = .int .i64 n ∧ n ≤ t.length ∧ Own inE 3 wr w.heap.size vo (markU (nextP t r m who) n) ∧ RdA lkE wr At m vo ∧ Below w.heap.size w wr) (fun _ iv _ => t.length - (intOf iv).toNat)
  case atStart => exact ⟨0, rfl, by omega, S.out.1, S.out.2.1, S.out.2.2⟩
  case round =>
    obtain ⟨n, rfl, hn, ho, hra, hbel⟩ := hrel
    obtain ⟨Ao, co, rfl, _, _, _⟩ := ho.form
    have R := Lib.hid (And.intro ho (And.intro hra hbel))
    clear ho hra hbel
    by_cases hlt : n < t.length
    · have N1 := Lib.hid (own_new (E := stpE) (e := 78) wr #[] [] wr.heap.size (Nat.le_refl _) (by simp) rfl)
      have B1 := Lib.hid ((Below.refl wr.heap.size wr).alloc (Nat.le_refl _) (.cells #[] 78))
      have HR1 := Lib.hid ((H2.out.below R.out.2.2 (Nat.le_refl _)).below B1.out R.out.2.2.size)
      obtain ⟨R2, hR2⟩ : ∃ R2, r ++ [nextS who n] = R2 := ⟨_, rfl⟩
      have R2L : R2.length ≤ 17 := by rw [← hR2]; simp; omega
      have R2N := Lib.hid (show ∀ k (hk : k < R2.length), ∃ j : Nat, R2[k].node = (j : Int) ∧ j ≤ 11 by
        intro k hk
        have hmm : R2[k] ∈ r ++ [nextS who n] := by rw [hR2]; exact List.getElem_mem hk
        rw [List.mem_append] at hmm
        rcases hmm with hmm | hmm
        · exact step_node (List.all_eq_true.1 (tabF_spec HT2.out).2.2 _ hmm)
        · rw [List.mem_singleton] at hmm
          rw [hmm]
          exact ⟨n, rfl, by omega⟩)
      obtain ⟨z, hz⟩ : ∃ z, alongL t R2 who = z := ⟨_, rfl⟩
      have PZ := Lib.hid (show nextP t r m who n = (decide (z < 0) && (((blkL m who n 5).length : Int) == 0)) by rw [nextP, hR2, hz])
      have HRR := Lib.hid hR2
      have ZZ := Lib.hid hz
      clear hR2 hz
      go_wp2_with (first
        | (at_builtin; refine wpList_ap slStp rfl (.tmp 44) (.tmp 45) rfl wr.heap.size _ [] rfl N1.out _ A2 c2 r rfl HR1.out (by simp; omega) (by simp) ?_; intro v1 w6 ho1 hg1 hat1; rw [List.nil_append] at ho1; have Z := Lib.hid (And.intro ho1 (below_own B1.out N1.out hg1 (by simp))); clear ho1 hg1 hat1)
        | (at_builtin; refine wpList_ap1 slStp rfl (.tmp 46) (.tmp 50) rfl _ _ (nextS who n) rfl wr wr.heap.size _ r rfl Z.out.1 rfl (by omega) Z.out.2 (Nat.le_refl _) ?_; intro v2 w7 ho2 hb2 hg2 hat2; rw [HRR.out] at ho2; have Y := Lib.hid (And.intro ho2 hb2); clear ho2 hb2 hg2 hat2; obtain ⟨As, cs, rfl, _, _, _⟩ := Y.out.1.form))
      have B7 := Lib.hid (R.out.2.2.trans (Y.out.2.mono R.out.2.2.size))
      refine (alongFault_c A c t As cs R2 who _ (H.out.grow B7.out) Y.out.1.rd.1 (by omega) (by omega) R2N.out).mono ?_
      rintro e w8 ⟨rfl, hb⟩
      rw [ZZ.out]
      have Q := Lib.hid (And.intro (Y.out.2.trans (hb.mono Y.out.2.size)) (B7.out.trans (hb.mono B7.out.size)))
      clear hb
      by_cases h0 : z < 0
      · cases h6 : (((blkL m who n 5).length : Int) == 0)
        · have P := Lib.hid (show nextP t r m who n = false by rw [PZ.out, h6, Bool.and_false])
          go_wp2_with fail
          refine (blockers_c At ct m who n 5 _ ((R.out.2.1.grow Q.out.1).rd) (by omega) M.out.2.ok rfl).mono ?_
          rintro e w9 ⟨v9, rfl, ho9, hb⟩
          obtain ⟨Ab, cb, rfl, _, _, _⟩ := ho9.form
          have K := Lib.hid (And.intro (Q.out.1.trans (hb.mono Q.out.1.size)) (Q.out.2.trans (hb.mono Q.out.2.size)))
          clear ho9 hb
          go_wp2_with fail
          go_roundw
          case rel => exact ⟨n + 1, by go_num, by omega, by rw [markU, P.out]; simpa using R.out.1.grow K.out.1, R.out.2.1.grow K.out.1, K.out.2⟩
          case measure => simp [intOf]; omega
        · have P := Lib.hid (show nextP t r m who n = true by rw [PZ.out, h6]; simpa using h0)
          have hml2 := markU_len (nextP t r m who) n
          go_wp2_with fail
          refine (blockers_c At ct m who n 5 _ ((R.out.2.1.grow Q.out.1).rd) (by omega) M.out.2.ok rfl).mono ?_
          rintro e w9 ⟨v9, rfl, ho9, hb⟩
          obtain ⟨Ab, cb, rfl, _, _, _⟩ := ho9.form
          have K := Lib.hid (And.intro (Q.out.1.trans (hb.mono Q.out.1.size)) (Q.out.2.trans (hb.mono Q.out.2.size)))
          have K2 := Lib.hid (And.intro (R.out.1.grow K.out.1) (R.out.2.1.grow K.out.1))
          clear ho9 hb
          go_wp2_with (at_builtin; refine wpList_ap1 slIn rfl (.tmp 65) (.tmp 67) rfl _ _ (n : Int) rfl w w.heap.size _ (markU (nextP t r m who) n) rfl K2.out.1 rfl (by omega) K.out.2 (Nat.le_refl _) ?_; intro v3 w10 ho3 hb3 hg3 hat3; have X := Lib.hid (And.intro ho3 (And.intro (K2.out.2.push hg3 hat3) hb3)); clear ho3 hb3 hg3 hat3)
          go_roundw
          case rel => exact ⟨n + 1, by go_num, by omega, by rw [markU, if_pos P.out]; exact X.out.1, X.out.2.1, X.out.2.2⟩
          case measure => simp [intOf]; omega
      · have P := Lib.hid (show nextP t r m who n = false by rw [PZ.out, show decide (z < 0) = false by simpa using h0]; rfl)
        go_wp2_with fail
        go_roundw
        case rel => exact ⟨n + 1, by go_num, by omega, by rw [markU, P.out]; simpa using R.out.1.grow Q.out.1, R.out.2.1.grow Q.out.1, Q.out.2⟩
        case measure => simp [intOf]; omega
    · obtain rfl : n = t.length := by omega
      go_wp2_with fail
      go_ret
      exact ⟨_, rfl, by rw [F.out]; exact R.out.1, R.out.2.2⟩

set_option maxRecDepth 100000 in
set_option maxHeartbeats 8000000 in
theorem impl_NextAlong_c (A : Option Addr) (c : Nat) (t : List Nd) (A2 : Option Addr) (c2 : Nat) (r : List Stp) (who : Int) (w : World) (h : Rd ndE w w.heap.size A t) (h2 : Rd stpE w w.heap.size A2 r) (hl : t.length ≤ 1048576) (hl2 : r.length ≤ 1048576) (hc : t.length ≤ c) (ht : TTab w) (hj : JTab w) :
    Calls Tryd.prog 34 #[.slice A t.length c, .slice A2 r.length c2, .int .i64 who] w fun e w' => ∃ v, e = .returned v ∧ Own inE 3 w' w.heap.size v (nextF t r who) ∧ Below w.heap.size w w' := by
  have C := Lib.hid (impl_TableAfter_c A2 c2 r w h2 hl2 ht hj)
  have H := Lib.hid h
  have H2 := Lib.hid h2
  have T := Lib.hid (And.intro ht hj)
  clear h h2 ht hj
  cases h3 : stpOk r
  · have F := Lib.hid (show nextF t r who = [] by rw [nextF, h3]; simp)
    have HS := Lib.hid (show (tabF r).isSome = false from h3)
    clear h3
    go_enter Tryd.func34, Tryd.ntmps34
    go_wp2_with fail
    refine C.out.mono ?_
    rintro e w1 ⟨v, rfl, ho, hb⟩
    rw [HS.out]
    have B1 := Lib.hid hb
    clear ho hb
    go_wp2_with fail
    go_ret
    exact ⟨_, rfl, by rw [F.out]; exact Own.nil, B1.out⟩
  have hr := (tabF_spec h3).2.1
  obtain ⟨m, hm1, hm2, hm3, hT0, hml⟩ := tab_some h3
  have M := Lib.hid (And.intro hm1 (And.intro hT0 hm3))
  cases h1 : treeOk t
  · have F := Lib.hid (show nextF t r who = [] by rw [nextF, h1]; rfl)
    have HT := Lib.hid h1
    clear h1 h3 hm1 hm2 hm3 hT0
    go_enter Tryd.func34, Tryd.ntmps34
    go_wp2_with fail
    refine C.out.mono ?_
    rintro e w1 ⟨v, rfl, ho, hb⟩
    rw [M.out.1, oR_some] at ho
    rw [M.out.1]
    obtain ⟨At, ct, rfl, hct, _, _⟩ := ho.form
    have B1 := Lib.hid hb
    have O1 := Lib.hid ho
    have CT := Lib.hid hct
    clear ho hb hct
    go_wp2_with fail
    refine (impl_ValidTree_c A c t _ (H.out.grow B1.out) (by omega) hc).mono ?_
    rintro e w2 ⟨rfl, hb⟩
    have B2 := Lib.hid (B1.out.trans (hb.mono B1.out.size))
    have O2 := Lib.hid (O1.out.grow hb)
    clear hb
    rw [HT.out]
    go_wp2_with fail
    go_ret
    exact ⟨_, rfl, by rw [F.out]; exact Own.nil, B2.out⟩
  cases h4 : inR who 0 3
  · have F := Lib.hid (show nextF t r who = [] by rw [nextF, h1, h3, h4]; rfl)
    have HT := Lib.hid h1
    clear h1 h3 hm1 hm2 hm3 hT0
    go_enter Tryd.func34, Tryd.ntmps34
    go_wp2_with fail
    refine C.out.mono ?_
    rintro e w1 ⟨v, rfl, ho, hb⟩
    rw [M.out.1, oR_some] at ho
    rw [M.out.1]
    obtain ⟨At, ct, rfl, hct, _, _⟩ := ho.form
    have B1 := Lib.hid hb
    have O1 := Lib.hid ho
    have CT := Lib.hid hct
    clear ho hb hct
    go_wp2_with fail
    refine (impl_ValidTree_c A c t _ (H.out.grow B1.out) (by omega) hc).mono ?_
    rintro e w2 ⟨rfl, hb⟩
    have B2 := Lib.hid (B1.out.trans (hb.mono B1.out.size))
    have O2 := Lib.hid (O1.out.grow hb)
    clear hb
    rw [HT.out]
    go_wp2_with (go_at_call 72; refine (within_c _ _ _ _).mono ?_; rintro e w' ⟨rfl, rfl⟩)
    go_ret
    exact ⟨_, rfl, by rw [F.out]; exact Own.nil, B2.out⟩
  have h12 := tree12 h1
  obtain ⟨z0, hz0⟩ : ∃ z, alongL t r who = z := ⟨_, rfl⟩
  have ZZ0 := Lib.hid (show alongF t r who = z0 by rw [alongF, h1, h3, ← hz0]; rfl)
  by_cases h5 : 0 ≤ z0
  · have F := Lib.hid (show nextF t r who = [] by
      rw [nextF, h1, h3, h4, hz0, show decide (z0 < 0) = false by simp; omega]; rfl)
    have HT := Lib.hid h1
    clear h1 h3 hz0 hm1 hm2 hm3 hT0
    go_enter Tryd.func34, Tryd.ntmps34
    go_wp2_with fail
    refine C.out.mono ?_
    rintro e w1 ⟨v, rfl, ho, hb⟩
    rw [M.out.1, oR_some] at ho
    rw [M.out.1]
    obtain ⟨At, ct, rfl, hct, _, _⟩ := ho.form
    have B1 := Lib.hid hb
    have O1 := Lib.hid ho
    have CT := Lib.hid hct
    clear ho hb hct
    go_wp2_with fail
    refine (impl_ValidTree_c A c t _ (H.out.grow B1.out) (by omega) hc).mono ?_
    rintro e w2 ⟨rfl, hb⟩
    have B2 := Lib.hid (B1.out.trans (hb.mono B1.out.size))
    have O2 := Lib.hid (O1.out.grow hb)
    clear hb
    rw [HT.out]
    go_wp2_with (go_at_call 72; refine (within_c _ _ _ _).mono ?_; rintro e w' ⟨rfl, rfl⟩)
    refine (impl_AlongFault_c A c t A2 c2 r who _ (H.out.grow B2.out) (H2.out.grow B2.out) hl hl2 hc (T.out.1.below B2.out) (T.out.2.below B2.out)).mono ?_
    rintro e w4 ⟨rfl, hb⟩
    have B4 := Lib.hid (B2.out.trans (hb.mono B2.out.size))
    have O4 := Lib.hid (O2.out.grow hb)
    clear hb
    rw [ZZ0.out]
    go_wp2_with fail
    go_ret
    exact ⟨_, rfl, by rw [F.out]; exact Own.nil, B4.out⟩
  have F := Lib.hid (show nextF t r who = markU (nextP t r m who) t.length by
    rw [nextF, h1, h3, h4, hz0, show decide (z0 < 0) = true by simp; omega, hm1]; rfl)
  have HT := Lib.hid h1
  have GO := Lib.hid (fun n => next_go (t := t) (r := r) (who := who) h3 (by rw [hz0]; omega) hm3 n)
  have BF := Lib.hid (fun (n : Nat) (hn : n ≤ 11) => blkF_five hT0 hml h4 hn)
  clear h1 h3 hz0 hm1 hm2 hm3 hT0
  go_enter Tryd.func34, Tryd.ntmps34
  go_wp2_with fail
  refine C.out.mono ?_
  rintro e w1 ⟨v, rfl, ho, hb⟩
  rw [M.out.1, oR_some] at ho
  rw [M.out.1]
  obtain ⟨At, ct, rfl, hct, _, _⟩ := ho.form
  have B1 := Lib.hid hb
  have O1 := Lib.hid ho
  have CT := Lib.hid hct
  clear ho hb hct
  go_wp2_with fail
  refine (impl_ValidTree_c A c t _ (H.out.grow B1.out) (by omega) hc).mono ?_
  rintro e w2 ⟨rfl, hb⟩
  have B2 := Lib.hid (B1.out.trans (hb.mono B1.out.size))
  have O2 := Lib.hid (O1.out.grow hb)
  clear hb
  rw [HT.out]
  go_wp2_with (go_at_call 72; refine (within_c _ _ _ _).mono ?_; rintro e w' ⟨rfl, rfl⟩)
  refine (impl_AlongFault_c A c t A2 c2 r who _ (H.out.grow B2.out) (H2.out.grow B2.out) hl hl2 hc (T.out.1.below B2.out) (T.out.2.below B2.out)).mono ?_
  rintro e w4 ⟨rfl, hb⟩
  have B4 := Lib.hid (B2.out.trans (hb.mono B2.out.size))
  have O4 := Lib.hid (O2.out.grow hb)
  clear hb
  rw [ZZ0.out]
  go_wp2_with fail
  go_loopw [9, 40] (fun dv iv wr => ∃ (k : Nat) (DS : List Int), iv = .int .i64 k ∧ k ≤ r.length ∧ Hid (DS = (asE r who k).had) ∧ DS.length ≤ k ∧ Own lkE 57 wr w.heap.size (.slice At m.length ct) m ∧ Own inE 3 wr w.heap.size dv DS ∧ Apart (.slice At m.length ct) dv ∧ Below w.heap.size w wr) (fun _ iv _ => r.length - (intOf iv).toNat)
  case atStart => exact ⟨0, [], rfl, by omega, Lib.hid rfl, by simp, O4.out, Own.nil, Apart.symm (.inl rfl), B4.out⟩
  case round =>
    obtain ⟨k, DS, rfl, hk, hD, hDS, hom, hod, hap, hbel⟩ := hrel
    obtain ⟨Ad, cd, rfl, _, _, hrd⟩ := hod.form
    have R := Lib.hid (And.intro (And.intro hom (And.intro hod hap)) (And.intro hbel hrd))
    by_cases hlt : k < r.length
    · obtain ⟨b, o, rfl, hb, c0, c1, c2', c3⟩ := (H2.out.below hbel (Nat.le_refl _)).stp hlt
      have AE := Lib.hid (asE_step (who := who) hlt)
      clear hom hod hap hbel hrd
      by_cases hw : (r[k].who == who) = true
      · by_cases hf : r[k].free = true
        · have F2 := Lib.hid ((as_free (s := asE r who k) hw hf).1)
          go_wp2_with fail
          go_roundw
          case rel => exact ⟨k + 1, DS, by go_num, by omega, Lib.hid (by rw [AE.out, F2.out]; exact hD.out), by omega, R.out.1.1.alloc _, R.out.1.2.1.alloc _, R.out.1.2.2, R.out.2.1.alloc R.out.2.1.size _⟩
          case measure => simp [intOf]; omega
        · rw [Bool.not_eq_true] at hf
          have F2 := Lib.hid ((as_take (s := asE r who k) hw hf).1)
          go_wp2_with (at_builtin; go_loud (refine wpList_ap1g slIn rfl (.tmp 53) (.tmp 56) rfl _ _ r[k].node rfl w w.heap.size _ DS rfl (R.out.1.2.1.alloc _) _ (by simp) rfl (by omega) (R.out.2.1.alloc R.out.2.1.size _) (Nat.le_refl _) ?_); intro v1 w6 ho1 hb1 hg1 hat1; have Z := Lib.hid (And.intro ho1 (And.intro hb1 (And.intro ((R.out.1.1.alloc _).kept' hg1 R.out.1.2.2) (Apart.grown R.out.1.2.2 (R.out.1.1.alloc _) hat1)))); clear ho1 hb1 hg1 hat1)
          go_roundw
          case rel => exact ⟨k + 1, DS ++ [r[k].node], by go_num, by omega, Lib.hid (by rw [AE.out, F2.out, hD.out]), by simp; omega, Z.out.2.2.1, Z.out.1, Z.out.2.2.2, Z.out.2.1⟩
          case measure => simp [intOf]; omega
      · rw [Bool.not_eq_true] at hw
        have F2 := Lib.hid ((as_skip (s := asE r who k) hw).1)
        go_wp2_with fail
        go_roundw
        case rel => exact ⟨k + 1, DS, by go_num, by omega, Lib.hid (by rw [AE.out, F2.out]; exact hD.out), by omega, R.out.1.1.alloc _, R.out.1.2.1.alloc _, R.out.1.2.2, R.out.2.1.alloc R.out.2.1.size _⟩
        case measure => simp [intOf]; omega
    · obtain rfl : k = r.length := by omega
      have nil : ∀ j, (Value.slice none 0 0).ownBlock = some j → wr.heap.size ≤ j := by intro j hj; simp [Value.ownBlock] at hj
      have S := Lib.hid (And.intro (RdA.old (vo := .slice none 0 0) hom.rd.1 (Nat.le_refl _) nil) (And.intro (RdA.old (vo := .slice none 0 0) hrd (Nat.le_refl _) nil) hbel))
      clear hom hod hap hbel hrd nil R
      go_wp2_with fail
      go_loopw [12, 61] (fun vo iv wr => ∃ n : Nat, iv = .int .i64 n ∧ n ≤ t.length ∧ Own inE 3 wr w.heap.size vo (markU (nextP t r m who) n) ∧ RdA lkE wr At m vo ∧ RdA inE wr Ad DS vo ∧ Below w.heap.size w wr) (fun _ iv _ => t.length - (intOf iv).toNat)
      case atStart => exact ⟨0, rfl, by omega, Own.nil, S.out.1, S.out.2.1, S.out.2.2⟩
      case round =>
        obtain ⟨n, rfl, hn, ho, hra, hrb, hbel⟩ := hrel
        obtain ⟨Ao, co, rfl, _, _, _⟩ := ho.form
        have R := Lib.hid (And.intro ho (And.intro hra (And.intro hrb hbel)))
        clear ho hra hrb hbel
        by_cases hlt : n < t.length
        · obtain ⟨gv, hgv⟩ : ∃ gv, goB t m DS who n = gv := ⟨_, rfl⟩
          have PZ := Lib.hid (show nextP t r m who n = (gv && (((blkL m who n 5).length : Int) == 0)) by rw [nextP, GO.out n, ← hD.out, hgv])
          have GV := Lib.hid hgv
          have BL := Lib.hid (BF.out n (by omega))
          clear hgv
          go_wp2_with fail
          refine (goesOn_c A c t At ct m Ad cd DS who n _ (H.out.grow R.out.2.2.2) R.out.2.1.rd R.out.2.2.1.rd (by omega) (by omega) (by omega)).mono ?_
          rintro e w8 ⟨rfl, hb⟩
          rw [GV.out]
          have Q := Lib.hid (And.intro hb (R.out.2.2.2.trans (hb.mono R.out.2.2.2.size)))
          clear hb
          cases gv
          · have P := Lib.hid (show nextP t r m who n = false by rw [PZ.out]; rfl)
            go_wp2_with fail
            go_roundw
            case rel => exact ⟨n + 1, by go_num, by omega, by rw [markU, P.out]; simpa using R.out.1.grow Q.out.1, R.out.2.1.grow Q.out.1, R.out.2.2.1.grow Q.out.1, Q.out.2⟩
            case measure => simp [intOf]; omega
          · go_wp2_with fail
            refine (impl_LockBlockers_c At ct m who n 5 _ ((R.out.2.1.grow Q.out.1).rd) (by omega) CT.out (T.out.1.below Q.out.2) (T.out.2.below Q.out.2)).mono ?_
            rintro e w9 ⟨v9, rfl, ho9, hb⟩
            rw [BL.out] at ho9
            obtain ⟨Ab, cb, rfl, _, _, _⟩ := ho9.form
            have K := Lib.hid (And.intro (Q.out.1.trans (hb.mono Q.out.1.size)) (Q.out.2.trans (hb.mono Q.out.2.size)))
            have K2 := Lib.hid (And.intro (R.out.1.grow K.out.1) (And.intro (R.out.2.1.grow K.out.1) (R.out.2.2.1.grow K.out.1)))
            clear ho9 hb
            cases h6 : (((blkL m who n 5).length : Int) == 0)
            · have P := Lib.hid (show nextP t r m who n = false by rw [PZ.out, h6]; rfl)
              go_wp2_with fail
              go_roundw
              case rel => exact ⟨n + 1, by go_num, by omega, by rw [markU, P.out]; simpa using K2.out.1, K2.out.2.1, K2.out.2.2, K.out.2⟩
              case measure => simp [intOf]; omega
            · have P := Lib.hid (show nextP t r m who n = true by rw [PZ.out, h6]; rfl)
              have hml2 := markU_len (nextP t r m who) n
              go_wp2_with (at_builtin; refine wpList_ap1 slIn rfl (.tmp 78) (.tmp 80) rfl _ _ (n : Int) rfl w w.heap.size _ (markU (nextP t r m who) n) rfl K2.out.1 rfl (by omega) K.out.2 (Nat.le_refl _) ?_; intro v3 w10 ho3 hb3 hg3 hat3; have X := Lib.hid (And.intro ho3 (And.intro (K2.out.2.1.push hg3 hat3) (And.intro (K2.out.2.2.push hg3 hat3) hb3))); clear ho3 hb3 hg3 hat3)
              go_roundw
              case rel => exact ⟨n + 1, by go_num, by omega, by rw [markU, if_pos P.out]; exact X.out.1, X.out.2.1, X.out.2.2.1, X.out.2.2.2⟩
              case measure => simp [intOf]; omega
        · obtain rfl : n = t.length := by omega
          go_wp2_with fail
          go_ret
          exact ⟨_, rfl, by rw [F.out]; exact R.out.1, R.out.2.2.2⟩

set_option maxHeartbeats 4000000 in
theorem FnExactNextAlong_c (A0 : Option Addr) (c0 : Nat) (l0 : List Nd) (A1 : Option Addr) (c1 : Nat) (l1 : List Stp) (a2 : Int) (_hw2 : (Lit.int .i64 a2).wf = true) (w : World) (h0 : Rd ndE w w.heap.size A0 l0) (hl0 : l0.length ≤ c0 ∧ c0 ≤ maxLen) (h1 : Rd stpE w w.heap.size A1 l1) (hl1 : l1.length ≤ c1 ∧ c1 ≤ maxLen) (hj : JTab w) (ht : TTab w) :
    Calls Tryd.prog 9 #[.slice A0 l0.length c0, .slice A1 l1.length c1, .int .i64 a2] w fun e w' => e = .returned (.bool true) ∧ Below w.heap.size w w' := by
  have HT := Lib.hid ht
  have HJ := Lib.hid hj
  clear ht hj
  have resB0 := nextF_len l0 l1 a2
  have resB : (nextF l0 l1 a2).length ≤ 1048576 := by omega
  clear resB0
  have hm0 : l0.length ≤ maxLen := by omega
  have hm1 : l1.length ≤ maxLen := by omega
  have H0 := Lib.hid h0
  have M0 := Lib.hid hm0
  have H1 := Lib.hid h1
  have M1 := Lib.hid hm1
  clear h0 hl0 hm0 h1 hl1 hm1
  have B0 : Below w.heap.size w w := Below.refl _ _
  by_cases hq0 : 1048576 < (szNd l0 : Int)
  · go_enter Tryd.func9, Tryd.ntmps9
    go_wp2_with fail
    refine (szNodeS_c A0 c0 l0 (1048576) (by omega) (by omega) M0.out _ H0.out).mono ?_
    rintro e w1 ⟨rfl, hb⟩
    have BS0 := Lib.hid hb
    clear hb
    rw [if_pos (by omega)]
    go_wp2_with fail
    go_ret
    exact ⟨rfl, BS0.out⟩
  by_cases hq1 : 1048576 - (szNd l0 : Int) < (l1.length : Int)
  · go_enter Tryd.func9, Tryd.ntmps9
    go_wp2_with fail
    refine (szNodeS_c A0 c0 l0 (1048576) (by omega) (by omega) M0.out _ H0.out).mono ?_
    rintro e w1 ⟨rfl, hb⟩
    have BS0 := Lib.hid hb
    clear hb
    rw [if_neg (by omega)]
    go_wp2_with fail
    refine (szStepS_c A1 c1 l1.length (1048576 - (szNd l0 : Int)) (by omega) (by omega) M1.out _).mono ?_
    rintro e w1 ⟨rfl, rfl⟩
    rw [if_pos (by omega)]
    go_wp2_with fail
    go_ret
    exact ⟨rfl, BS0.out⟩
  have hs0 : l0.length ≤ 1048576 := by have := szNd_le l0; omega
  have hs1 : l1.length ≤ 1048576 := by omega
  go_enter Tryd.func9, Tryd.ntmps9
  go_wp2_with fail
  refine (szNodeS_c A0 c0 l0 (1048576) (by omega) (by omega) M0.out _ H0.out).mono ?_
  rintro e w1 ⟨rfl, hb⟩
  have BS0 := Lib.hid hb
  clear hb
  rw [if_neg (by omega)]
  go_wp2_with fail
  refine (szStepS_c A1 c1 l1.length (1048576 - (szNd l0 : Int)) (by omega) (by omega) M1.out _).mono ?_
  rintro e w1 ⟨rfl, rfl⟩
  rw [if_neg (by omega)]
  have BH0 := Lib.hid (B0.trans BS0.out)
  clear B0
  go_wp2_with fail
  refine (toNodeS_c A0 c0 l0 _ (H0.out.grow BH0.out) hs0).mono ?_
  rintro e W1 ⟨v_s0, rfl, ho, hb⟩
  obtain ⟨A_s0, c_s0, rfl, _, _, _⟩ := ho.form
  have L_s0 := Lib.hid ho.lt
  have hsz1 := hb.size
  have Z1 := Lib.hid hsz1
  clear hsz1
  have BH1 := Lib.hid (BH0.out.trans (hb.mono BH0.out.size))
  have Os0_1 := Lib.hid ho
  clear ho hb
  go_wp2_with fail
  refine (toStepS_c A1 c1 l1 _ (H1.out.grow BH1.out) hs1).mono ?_
  rintro e W2 ⟨v_s1, rfl, ho, hb⟩
  obtain ⟨A_s1, c_s1, rfl, _, _, _⟩ := ho.form
  have L_s1 := Lib.hid ho.lt
  have hsz2 := hb.size
  have Z2 := Lib.hid hsz2
  clear hsz2
  have BH2 := Lib.hid (BH1.out.trans (hb.mono BH1.out.size))
  have Os0_2 := Lib.hid (Os0_1.out.grow hb)
  clear Os0_1
  have Os1_2 := Lib.hid ho
  clear ho hb
  go_wp2_with fail
  refine (spec_NextAlong_c A_s0 c_s0 l0 A_s1 c_s1 l1 a2 _ Os0_2.out.rd.1 Os1_2.out.rd.1 hs0 hs1 Os0_2.out.rd.2.2.1).mono ?_
  rintro e W3 ⟨v_w0, rfl, ho, hb⟩
  obtain ⟨A_w0, c_w0, rfl, _, _, _⟩ := ho.form
  have L_w0 := Lib.hid ho.lt
  have hsz3 := hb.size
  have Z3 := Lib.hid hsz3
  clear hsz3
  have BH3 := Lib.hid (BH2.out.trans (hb.mono BH2.out.size))
  have Os0_3 := Lib.hid (Os0_2.out.grow hb)
  clear Os0_2
  have Os1_3 := Lib.hid (Os1_2.out.grow hb)
  clear Os1_2
  have Ow0_3 := Lib.hid ho
  clear ho hb
  clear Os0_3 L_s0
  clear Os1_3 L_s1
  go_wp2_with fail
  refine (toNodeS_c A0 c0 l0 _ (H0.out.grow BH3.out) hs0).mono ?_
  rintro e W4 ⟨v_x0, rfl, ho, hb⟩
  obtain ⟨A_x0, c_x0, rfl, _, _, _⟩ := ho.form
  have L_x0 := Lib.hid ho.lt
  have hsz4 := hb.size
  have Z4 := Lib.hid hsz4
  clear hsz4
  have BH4 := Lib.hid (BH3.out.trans (hb.mono BH3.out.size))
  have Ow0_4 := Lib.hid (Ow0_3.out.grow hb)
  clear Ow0_3
  have Ox0_4 := Lib.hid ho
  clear ho hb
  go_wp2_with fail
  refine (toStepS_c A1 c1 l1 _ (H1.out.grow BH4.out) hs1).mono ?_
  rintro e W5 ⟨v_x1, rfl, ho, hb⟩
  obtain ⟨A_x1, c_x1, rfl, _, _, _⟩ := ho.form
  have L_x1 := Lib.hid ho.lt
  have hsz5 := hb.size
  have Z5 := Lib.hid hsz5
  clear hsz5
  have BH5 := Lib.hid (BH4.out.trans (hb.mono BH4.out.size))
  have Ow0_5 := Lib.hid (Ow0_4.out.grow hb)
  clear Ow0_4
  have Ox0_5 := Lib.hid (Ox0_4.out.grow hb)
  clear Ox0_4
  have Ox1_5 := Lib.hid ho
  clear ho hb
  go_wp2_with fail
  refine (impl_NextAlong_c A_x0 c_x0 l0 A_x1 c_x1 l1 a2 _ Ox0_5.out.rd.1 Ox1_5.out.rd.1 hs0 hs1 Ox0_5.out.rd.2.2.1 (HT.out.below BH5.out) (HJ.out.below BH5.out)).mono ?_
  rintro e W6 ⟨v_g0, rfl, ho, hb⟩
  obtain ⟨A_g0, c_g0, rfl, _, _, _⟩ := ho.form
  have L_g0 := Lib.hid ho.lt
  have hsz6 := hb.size
  have Z6 := Lib.hid hsz6
  clear hsz6
  have BH6 := Lib.hid (BH5.out.trans (hb.mono BH5.out.size))
  have Ow0_6 := Lib.hid (Ow0_5.out.grow hb)
  clear Ow0_5
  have Ox0_6 := Lib.hid (Ox0_5.out.grow hb)
  clear Ox0_5
  have Ox1_6 := Lib.hid (Ox1_5.out.grow hb)
  clear Ox1_5
  have Og0_6 := Lib.hid ho
  clear ho hb
  go_wp2_with fail
  refine (eqIntS_c A_g0 A_w0 c_g0 c_w0 _ _ Og0_6.out.rd.1 Ow0_6.out.rd.1 (by exact resB)).mono ?_
  rintro e W7 ⟨rfl, hb⟩
  have hsz7 := hb.size
  have Z7 := Lib.hid hsz7
  clear hsz7
  have BH7 := Lib.hid (BH6.out.trans (hb.mono BH6.out.size))
  have Ow0_7 := Lib.hid (Ow0_6.out.grow hb)
  clear Ow0_6
  have Ox0_7 := Lib.hid (Ox0_6.out.grow hb)
  clear Ox0_6
  have Ox1_7 := Lib.hid (Ox1_6.out.grow hb)
  clear Ox1_6
  have Og0_7 := Lib.hid (Og0_6.out.grow hb)
  clear Og0_6
  clear hb
  go_wp2_with fail
  refine (toNodeS_c A0 c0 l0 _ (H0.out.grow BH7.out) hs0).mono ?_
  rintro e W8 ⟨v_y0, rfl, ho, hb⟩
  obtain ⟨A_y0, c_y0, rfl, _, _, _⟩ := ho.form
  have L_y0 := Lib.hid ho.lt
  have hsz8 := hb.size
  have Z8 := Lib.hid hsz8
  clear hsz8
  have BH8 := Lib.hid (BH7.out.trans (hb.mono BH7.out.size))
  have Ow0_8 := Lib.hid (Ow0_7.out.grow hb)
  clear Ow0_7
  have Ox0_8 := Lib.hid (Ox0_7.out.grow hb)
  clear Ox0_7
  have Ox1_8 := Lib.hid (Ox1_7.out.grow hb)
  clear Ox1_7
  have Og0_8 := Lib.hid (Og0_7.out.grow hb)
  clear Og0_7
  have Oy0_8 := Lib.hid ho
  clear ho hb
  go_wp2_with fail
  refine (eqNodeS_c A_x0 A_y0 c_x0 c_y0 l0 _ Ox0_8.out.rd.1 Oy0_8.out.rd.1 hs0).mono ?_
  rintro e W9 ⟨rfl, hb⟩
  have hsz9 := hb.size
  have Z9 := Lib.hid hsz9
  clear hsz9
  have BH9 := Lib.hid (BH8.out.trans (hb.mono BH8.out.size))
  have Ow0_9 := Lib.hid (Ow0_8.out.grow hb)
  clear Ow0_8
  have Ox0_9 := Lib.hid (Ox0_8.out.grow hb)
  clear Ox0_8
  have Ox1_9 := Lib.hid (Ox1_8.out.grow hb)
  clear Ox1_8
  have Og0_9 := Lib.hid (Og0_8.out.grow hb)
  clear Og0_8
  have Oy0_9 := Lib.hid (Oy0_8.out.grow hb)
  clear Oy0_8
  clear hb
  clear Oy0_9 L_y0
  go_wp2_with fail
  refine (toStepS_c A1 c1 l1 _ (H1.out.grow BH9.out) hs1).mono ?_
  rintro e W10 ⟨v_y1, rfl, ho, hb⟩
  obtain ⟨A_y1, c_y1, rfl, _, _, _⟩ := ho.form
  have L_y1 := Lib.hid ho.lt
  have hsz10 := hb.size
  have Z10 := Lib.hid hsz10
  clear hsz10
  have BH10 := Lib.hid (BH9.out.trans (hb.mono BH9.out.size))
  have Ow0_10 := Lib.hid (Ow0_9.out.grow hb)
  clear Ow0_9
  have Ox0_10 := Lib.hid (Ox0_9.out.grow hb)
  clear Ox0_9
  have Ox1_10 := Lib.hid (Ox1_9.out.grow hb)
  clear Ox1_9
  have Og0_10 := Lib.hid (Og0_9.out.grow hb)
  clear Og0_9
  have Oy1_10 := Lib.hid ho
  clear ho hb
  go_wp2_with fail
  refine (eqStepS_c A_x1 A_y1 c_x1 c_y1 l1 _ Ox1_10.out.rd.1 Oy1_10.out.rd.1 hs1).mono ?_
  rintro e W11 ⟨rfl, hb⟩
  have hsz11 := hb.size
  have Z11 := Lib.hid hsz11
  clear hsz11
  have BH11 := Lib.hid (BH10.out.trans (hb.mono BH10.out.size))
  have Ow0_11 := Lib.hid (Ow0_10.out.grow hb)
  clear Ow0_10
  have Ox0_11 := Lib.hid (Ox0_10.out.grow hb)
  clear Ox0_10
  have Ox1_11 := Lib.hid (Ox1_10.out.grow hb)
  clear Ox1_10
  have Og0_11 := Lib.hid (Og0_10.out.grow hb)
  clear Og0_10
  have Oy1_11 := Lib.hid (Oy1_10.out.grow hb)
  clear Oy1_10
  clear hb
  clear Oy1_11 L_y1
  go_wp2_with fail
  have hbase : w.heap.size ≤ W3.heap.size := by have := BH0.out.size; have := Z1.out; have := Z2.out; have := Z3.out; omega
  refine (markNodeS_c _ _ _ (1) (by omega) (by omega) _ (Ox0_11.out.base hbase) (by have := hs0; omega)).mono ?_
  rintro e W12 ⟨rfl, ho, hg⟩
  have hz := hg.size
  have BH12 := Lib.hid (below_own BH11.out (Ox0_11.out.base hbase) hg BH11.out.size)
  have Z12 := Lib.hid hz
  have Ow0_12 := Lib.hid (Ow0_11.out.kept hg (own_ne (fun k hk => (L_w0.out k hk).2) (fun k hk => (L_x0.out k hk).1) (by skip; omega)))
  clear Ow0_11
  have Ox1_12 := Lib.hid (Ox1_11.out.kept hg (own_ne' (fun k hk => (L_x1.out k hk).1) (fun k hk => (L_x0.out k hk).2) (by skip; omega)))
  clear Ox1_11
  have Og0_12 := Lib.hid (Og0_11.out.kept hg (own_ne' (fun k hk => (L_g0.out k hk).1) (fun k hk => (L_x0.out k hk).2) (by have := Z5.out; omega)))
  clear Og0_11
  have Ox0_12 := Lib.hid ho
  clear ho hg hz Ox0_11 hbase
  go_wp2_with fail
  have hbase : w.heap.size ≤ W4.heap.size := by have := BH0.out.size; have := Z1.out; have := Z2.out; have := Z3.out; have := Z4.out; omega
  refine (markStepS_c _ _ _ (1 + 3 * (l0.length : Int)) (by omega) (by omega) _ (Ox1_12.out.base hbase) (by have := hs1; omega)).mono ?_
  rintro e W13 ⟨rfl, ho, hg, hz⟩
  have BH13 := Lib.hid (below_own BH12.out (Ox1_12.out.base hbase) hg BH12.out.size)
  have Z13 := Lib.hid (Nat.le_of_eq hz.symm)
  have Ow0_13 := Lib.hid (Ow0_12.out.kept hg (own_ne (fun k hk => (L_w0.out k hk).2) (fun k hk => (L_x1.out k hk).1) (by have := Z4.out; omega)))
  clear Ow0_12
  have Ox0_13 := Lib.hid (Ox0_12.out.kept hg (own_ne (fun k hk => (L_x0.out k hk).2) (fun k hk => (L_x1.out k hk).1) (by skip; omega)))
  clear Ox0_12
  have Og0_13 := Lib.hid (Og0_12.out.kept hg (own_ne' (fun k hk => (L_g0.out k hk).1) (fun k hk => (L_x1.out k hk).2) (by skip; omega)))
  clear Og0_12
  have Ox1_13 := Lib.hid ho
  clear ho hg hz Ox1_12 hbase
  go_wp2_with fail
  refine (eqIntS_c A_g0 A_w0 c_g0 c_w0 _ _ Og0_13.out.rd.1 Ow0_13.out.rd.1 (by exact resB)).mono ?_
  rintro e W14 ⟨rfl, hb⟩
  have hsz14 := hb.size
  have Z14 := Lib.hid hsz14
  clear hsz14
  have BH14 := Lib.hid (BH13.out.trans (hb.mono BH13.out.size))
  have Ow0_14 := Lib.hid (Ow0_13.out.grow hb)
  clear Ow0_13
  have Ox0_14 := Lib.hid (Ox0_13.out.grow hb)
  clear Ox0_13
  have Ox1_14 := Lib.hid (Ox1_13.out.grow hb)
  clear Ox1_13
  have Og0_14 := Lib.hid (Og0_13.out.grow hb)
  clear Og0_13
  clear hb
  go_wp2_with fail
  have hbase : w.heap.size ≤ W5.heap.size := by have := BH0.out.size; have := Z1.out; have := Z2.out; have := Z3.out; have := Z4.out; have := Z5.out; omega
  refine (markIntS_c _ _ _ (1) (by omega) (by omega) _ (Og0_14.out.base hbase) (by have := resB; omega)).mono ?_
  rintro e W15 ⟨rfl, ho, hg, hz⟩
  have BH15 := Lib.hid (below_own BH14.out (Og0_14.out.base hbase) hg BH14.out.size)
  have Z15 := Lib.hid (Nat.le_of_eq hz.symm)
  have Ow0_15 := Lib.hid (Ow0_14.out.kept hg (own_ne (fun k hk => (L_w0.out k hk).2) (fun k hk => (L_g0.out k hk).1) (by have := Z4.out; have := Z5.out; omega)))
  clear Ow0_14
  have Ox0_15 := Lib.hid (Ox0_14.out.kept hg (own_ne (fun k hk => (L_x0.out k hk).2) (fun k hk => (L_g0.out k hk).1) (by have := Z5.out; omega)))
  clear Ox0_14
  have Ox1_15 := Lib.hid (Ox1_14.out.kept hg (own_ne (fun k hk => (L_x1.out k hk).2) (fun k hk => (L_g0.out k hk).1) (by skip; omega)))
  clear Ox1_14
  have Og0_15 := Lib.hid ho
  clear ho hg hz Og0_14 hbase
  go_wp2_with fail
  refine (heldIntS_c _ _ _ (1) (by omega) (by omega) _ Og0_15.out.rd.1 (by have := resB; omega)).mono ?_
  rintro e w' ⟨rfl, rfl⟩
  go_wp2_with fail
  refine (toNodeS_c A0 c0 l0 _ (H0.out.grow BH15.out) hs0).mono ?_
  rintro e W16 ⟨v_z0, rfl, ho, hb⟩
  obtain ⟨A_z0, c_z0, rfl, _, _, _⟩ := ho.form
  have L_z0 := Lib.hid ho.lt
  have hsz16 := hb.size
  have Z16 := Lib.hid hsz16
  clear hsz16
  have BH16 := Lib.hid (BH15.out.trans (hb.mono BH15.out.size))
  have Ow0_16 := Lib.hid (Ow0_15.out.grow hb)
  clear Ow0_15
  have Ox0_16 := Lib.hid (Ox0_15.out.grow hb)
  clear Ox0_15
  have Ox1_16 := Lib.hid (Ox1_15.out.grow hb)
  clear Ox1_15
  have Og0_16 := Lib.hid (Og0_15.out.grow hb)
  clear Og0_15
  have Oz0_16 := Lib.hid ho
  clear ho hb
  go_wp2_with fail
  refine (toStepS_c A1 c1 l1 _ (H1.out.grow BH16.out) hs1).mono ?_
  rintro e W17 ⟨v_z1, rfl, ho, hb⟩
  obtain ⟨A_z1, c_z1, rfl, _, _, _⟩ := ho.form
  have L_z1 := Lib.hid ho.lt
  have hsz17 := hb.size
  have Z17 := Lib.hid hsz17
  clear hsz17
  have BH17 := Lib.hid (BH16.out.trans (hb.mono BH16.out.size))
  have Ow0_17 := Lib.hid (Ow0_16.out.grow hb)
  clear Ow0_16
  have Ox0_17 := Lib.hid (Ox0_16.out.grow hb)
  clear Ox0_16
  have Ox1_17 := Lib.hid (Ox1_16.out.grow hb)
  clear Ox1_16
  have Og0_17 := Lib.hid (Og0_16.out.grow hb)
  clear Og0_16
  have Oz0_17 := Lib.hid (Oz0_16.out.grow hb)
  clear Oz0_16
  have Oz1_17 := Lib.hid ho
  clear ho hb
  go_wp2_with fail
  refine (impl_NextAlong_c A_z0 c_z0 l0 A_z1 c_z1 l1 a2 _ Oz0_17.out.rd.1 Oz1_17.out.rd.1 hs0 hs1 Oz0_17.out.rd.2.2.1 (HT.out.below BH17.out) (HJ.out.below BH17.out)).mono ?_
  rintro e W18 ⟨v_h0, rfl, ho, hb⟩
  obtain ⟨A_h0, c_h0, rfl, _, _, _⟩ := ho.form
  have L_h0 := Lib.hid ho.lt
  have hsz18 := hb.size
  have Z18 := Lib.hid hsz18
  clear hsz18
  have BH18 := Lib.hid (BH17.out.trans (hb.mono BH17.out.size))
  have Ow0_18 := Lib.hid (Ow0_17.out.grow hb)
  clear Ow0_17
  have Ox0_18 := Lib.hid (Ox0_17.out.grow hb)
  clear Ox0_17
  have Ox1_18 := Lib.hid (Ox1_17.out.grow hb)
  clear Ox1_17
  have Og0_18 := Lib.hid (Og0_17.out.grow hb)
  clear Og0_17
  have Oz0_18 := Lib.hid (Oz0_17.out.grow hb)
  clear Oz0_17
  have Oz1_18 := Lib.hid (Oz1_17.out.grow hb)
  clear Oz1_17
  have Oh0_18 := Lib.hid ho
  clear ho hb
  go_wp2_with fail
  refine (eqIntS_c A_h0 A_w0 c_h0 c_w0 _ _ Oh0_18.out.rd.1 Ow0_18.out.rd.1 (by exact resB)).mono ?_
  rintro e W19 ⟨rfl, hb⟩
  have hsz19 := hb.size
  have Z19 := Lib.hid hsz19
  clear hsz19
  have BH19 := Lib.hid (BH18.out.trans (hb.mono BH18.out.size))
  have Ow0_19 := Lib.hid (Ow0_18.out.grow hb)
  clear Ow0_18
  have Ox0_19 := Lib.hid (Ox0_18.out.grow hb)
  clear Ox0_18
  have Ox1_19 := Lib.hid (Ox1_18.out.grow hb)
  clear Ox1_18
  have Og0_19 := Lib.hid (Og0_18.out.grow hb)
  clear Og0_18
  have Oz0_19 := Lib.hid (Oz0_18.out.grow hb)
  clear Oz0_18
  have Oz1_19 := Lib.hid (Oz1_18.out.grow hb)
  clear Oz1_18
  have Oh0_19 := Lib.hid (Oh0_18.out.grow hb)
  clear Oh0_18
  clear hb
  go_wp2_with fail
  refine (heldIntS_c _ _ _ (1) (by omega) (by omega) _ Og0_19.out.rd.1 (by have := resB; omega)).mono ?_
  rintro e w' ⟨rfl, rfl⟩
  go_wp2_with fail
  go_ret
  exact ⟨rfl, BH19.out⟩
end Go.Proofs.YtfgcjdhcnalmmaaDoor
