/-
  What the asks wait for: the contract of the reference's function.
-/
import Derived.Test.YteoeojbeaehdpaaDoorPAsk
import Derived.Test.YteoeojbeaehdpaaDoorTab4
import Derived.Test.YteoeojbeaehdpaaDoorMem6
import Derived.StillTailTactics
namespace Go.Proofs.YteoeojbeaehdpaaDoor
open Go.RowKit

theorem validAsk_q (A : Option Addr) (c : Nat) (l : List Lk) (who node mode : Int) (B : Nat) (w : World) (h : Rd lkE w B A l) (hl : l.length ≤ 1048576) (v : Bool) (hv : (tabOk l && askOk who node mode) = v) (n : Nat) :
    Calls Tryd.prog 64 #[.slice A l.length c, .int .i64 who, .int .i64 node, .int .i64 mode] (w.drewN n) fun e w' => e = .returned (.bool v) ∧ ∃ m, w' = w.drewN m := by
  subst hv
  exact (validAsk_c A c l who node mode B (w.drewN n) h hl).mono fun e w' hh => ⟨hh.1, Dr.trans ⟨n, rfl⟩ hh.2⟩
theorem asks_bad {l asks : List Lk} {k : Nat} (hk : k < asks.length) (h : lkOk asks[k] = false) : asksOk l asks = false := by
  rw [Bool.eq_false_iff]
  intro e
  have := List.all_eq_true.1 (asksOk_iff.1 e).2.1 _ (List.getElem_mem hk)
  rw [h] at this; cases this
theorem asks_same {l asks : List Lk} (h : ¬ Diff asks) : asksOk l asks = false := by
  rw [Bool.eq_false_iff]
  intro e
  exact h (asksOk_iff.1 e).2.2.1
theorem asks_long {l asks : List Lk} (h : 12 < (asks.flatMap (askW l)).length) : asksOk l asks = false := by
  rw [Bool.eq_false_iff]
  intro e
  have := (asksOk_iff.1 e).2.2.2
  omega
theorem asks_tab {l asks : List Lk} (h : tabOk l = false) : asksOk l asks = false := by
  rw [Bool.eq_false_iff]
  intro e
  have := (asksOk_iff.1 e).1
  rw [h] at this; cases this
theorem asksF_no {l asks : List Lk} (h : asksOk l asks = false) : asksF l asks = [] := by rw [asksF, h]; rfl
theorem asksF_yes {l asks : List Lk} (h : asksOk l asks = true) : asksF l asks = asks.flatMap (askW l) := by rw [asksF, h]; rfl
/-- the asks below k are good -/
structure AskInv (l asks : List Lk) (k : Nat) (L : List Wt) : Prop where
  list : L = (asks.take k).flatMap (askW l)
  ok : (asks.take k).all lkOk = true
  diff : Diff (asks.take k)
theorem AskInv.start (l asks : List Lk) : AskInv l asks 0 [] := ⟨by simp, by simp, by simp [Diff]⟩
theorem AskInv.four {l asks : List Lk} {k : Nat} {L : List Wt} (h : AskInv l asks k L) (hk : k ≤ asks.length) : k ≤ 4 := by
  have := diff_four h.ok h.diff
  rw [List.length_take] at this
  omega
theorem AskInv.len {l asks : List Lk} {k : Nat} {L : List Wt} (h : AskInv l asks k L) (hk : k ≤ asks.length) : L.length ≤ 16 := by
  have h4 := h.four hk
  have key : ∀ (m : List Lk), (m.flatMap (askW l)).length ≤ 4 * m.length := by
    intro m
    induction m with
    | nil => simp
    | cons x m ih =>
      have := askW_len l x
      simp only [List.flatMap_cons, List.length_append, List.length_cons]
      omega
  have := key (asks.take k)
  rw [← h.list, List.length_take] at this
  omega
theorem AskInv.next {l asks : List Lk} {k : Nat} {L : List Wt} (h : AskInv l asks k L) (hk : k < asks.length) (h1 : lkOk asks[k] = true) (h2 : ∀ i (hi : i < k), ¬ (asks[i]'(by omega)).who = asks[k].who) {BL : List Int} (hB : blkF l asks[k].who asks[k].node asks[k].mode = BL) {L2 : List Wt} (hL2 : L2 = L ++ BL.map fun t => (⟨asks[k].who, t⟩ : Wt)) : AskInv l asks (k + 1) L2 :=
  ⟨by rw [hL2, asks_snoc hk, ← h.list, askW, hB], by rw [List.take_succ_eq_append_getElem hk, List.all_append, h.ok]; simpa using h1, diff_snoc hk h.diff h2⟩
theorem AskInv.done {l asks : List Lk} {L : List Wt} (h : AskInv l asks asks.length L) (ht : tabOk l = true) (h12 : L.length ≤ 12) : asksOk l asks = true ∧ asksF l asks = L := by
  have h1 := h.list
  have h2 := h.ok
  have h3 := h.diff
  rw [List.take_length] at h1 h2 h3
  have e : asksOk l asks = true := asksOk_iff.2 ⟨ht, h2, h3, by rw [← h1]; exact h12⟩
  exact ⟨e, by rw [asksF_yes e, h1]⟩
theorem AskInv.long {l asks : List Lk} {L : List Wt} (h : AskInv l asks asks.length L) (h12 : 12 < L.length) : asksOk l asks = false := by
  have h1 := h.list
  rw [List.take_length] at h1
  exact asks_long (by rw [← h1]; exact h12)

set_option maxRecDepth 100000 in
set_option maxHeartbeats 8000000 in
theorem spec_AsksOf_c (A : Option Addr) (c : Nat) (l : List Lk) (A2 : Option Addr) (c2 : Nat) (asks : List Lk) (w : World) (h : Rd lkE w w.heap.size A l) (h2 : Rd lkE w w.heap.size A2 asks) (hl : l.length ≤ 1048576) (hl2 : asks.length ≤ 1048576) :
    Calls Tryd.prog 33 #[.slice A l.length c, .slice A2 asks.length c2] w fun e w' => ∃ v, e = .returned (.tuple #[v, .bool (asksOk l asks)]) ∧ Own wtE 75 w' w.heap.size v (asksF l asks) ∧ Below w.heap.size w w' := by
  have H := Lib.hid h
  have H2 := Lib.hid h2
  clear h h2
  have N := Lib.hid (own_new (E := wtE) (e := 75) w #[] [] w.heap.size (Nat.le_refl _) (by simp) rfl)
  have B0 := Lib.hid ((Below.refl w.heap.size w).alloc (Nat.le_refl _) (.cells #[] 75))
  cases ht : tabOk l
  · have F := Lib.hid (asks_tab (asks := asks) ht)
    have HT := Lib.hid ht
    clear ht
    go_enter Tryd.func33, Tryd.ntmps33
    go_wp2_with fail
    refine (spec_validTable_c A c l _ _ (H.out.grow B0.out) hl).mono ?_
    rintro e w1 ⟨rfl, hd⟩
    have B1 := Lib.hid (B0.out.trans (hd.below _))
    clear hd
    rw [HT.out]
    go_wp2_with fail
    go_ret2
    rw [F.out, asksF_no F.out]
    exact ⟨_, rfl, Own.nil, B1.out⟩
  have HT := Lib.hid ht
  clear ht
  go_enter Tryd.func33, Tryd.ntmps33
  go_wp2_with fail
  refine (spec_validTable_c A c l _ _ (H.out.grow B0.out) hl).mono ?_
  rintro e w1 ⟨rfl, hd⟩
  have B1 := Lib.hid (And.intro (N.out.grow (hd.below _)) (B0.out.trans (hd.below _)))
  clear hd
  rw [HT.out]
  go_wp2_with fail
  go_loopw [6, 7] (fun vo iv wr => ∃ (k : Nat) (L : List Wt), iv = .int .i64 k ∧ k ≤ asks.length ∧ Hid (AskInv l asks k L) ∧ Own wtE 75 wr w.heap.size vo L ∧ Below w.heap.size w wr) (fun _ iv _ => asks.length - (intOf iv).toNat)
  case atStart => exact ⟨0, [], rfl, by omega, Lib.hid (AskInv.start l asks), B1.out.1, B1.out.2⟩
  case round =>
    obtain ⟨k, L, rfl, hk, INV, ho, hbel⟩ := hrel
    obtain ⟨Ao, co, rfl, _, _, _⟩ := ho.form
    have hLl := INV.out.len hk
    by_cases hlt : k < asks.length
    · obtain ⟨b, o, rfl, hb, c0, c1, c2'⟩ := (H2.out.below hbel (Nat.le_refl _)).lk hlt
      have R := Lib.hid (And.intro ho hbel)
      have RL := Lib.hid (H.out.below hbel (Nat.le_refl _))
      clear ho hbel
      cases hq : lkOk asks[k]
      · have F := Lib.hid (asks_bad (l := l) hlt hq)
        have Q := Lib.hid (fun n => validAsk_q A c l asks[k].who asks[k].node asks[k].mode _ wr RL.out hl false (by rw [HT.out]; exact hq) n)
        clear hq
        go_wp2_with fail
        go_quiet ((go_at_call 64; exact Q.out _))
        go_wp2_with fail
        go_ret2
        rw [F.out, asksF_no F.out]
        exact ⟨_, rfl, Own.nil, below_drewN R.out.2 _⟩
      · have Q := Lib.hid (fun n => validAsk_q A c l asks[k].who asks[k].node asks[k].mode _ wr RL.out hl true (by rw [HT.out]; exact hq) n)
        have OK := Lib.hid hq
        clear hq c0 c1 c2'
        obtain ⟨b', o', e', hb', c0, c1, c2'⟩ := (H2.out.below R.out.2 (Nat.le_refl _)).lk hlt
        cases e'
        go_wp2_with fail
        go_quiet ((go_at_call 64; exact Q.out _))
        go_wp2_with fail
        go_loopw [8] (fun iv wr' => ∃ i : Nat, iv = .int .i64 i ∧ i ≤ k ∧ Hid (∀ i' (hi : i' < i) (hi2 : i' < asks.length), ¬ asks[i'].who = asks[k].who) ∧ Own wtE 75 wr' w.heap.size (.slice Ao L.length co) L ∧ Below w.heap.size w wr') (fun iv _ => k - (intOf iv).toNat)
        case atStart => exact ⟨0, rfl, by omega, Lib.hid (fun i' hi => absurd hi (by omega)), R.out.1.grow (below_drewN (Below.refl _ _) _), below_drewN R.out.2 _⟩
        case round =>
          obtain ⟨i, rfl, hik, hno, ho, hbel⟩ := hrel
          have R2 := Lib.hid (And.intro ho hbel)
          clear ho hbel c0 c1 c2'
          obtain ⟨b', o', e', hb', c0, c1, c2'⟩ := (H2.out.below R2.out.2 (Nat.le_refl _)).lk hlt
          cases e'
          by_cases hi2 : i < k
          · have hia : i < asks.length := by omega
            obtain ⟨b', o', e', hb'', d0, d1, d2⟩ := (H2.out.below R2.out.2 (Nat.le_refl _)).lk hia
            cases e'
            cases hs : (asks[i].who == asks[k].who)
            · have hs' : ¬ asks[i].who = asks[k].who := by simpa using hs
              have NX := Lib.hid (show ∀ i' (hi : i' < i + 1) (hi2 : i' < asks.length), ¬ asks[i'].who = asks[k].who by
                intro i' hi hi2
                by_cases e : i' = i
                · subst e; exact hs'
                · exact hno.out i' (by omega) hi2)
              clear hs'
              go_wp2_with fail
              go_quiet (fail)
              go_wp2_with fail
              go_roundw
              case rel => exact ⟨i + 1, by go_num, by omega, NX, R2.out.1.grow (below_drewN (Below.refl _ _) _), below_drewN R2.out.2 _⟩
              case measure => simp [intOf]; omega
            · have F := Lib.hid (asks_same (l := l) (diff_bad hlt hi2 (by simpa using hs)))
              go_wp2_with fail
              go_quiet (fail)
              go_wp2_with fail
              go_ret2
              rw [F.out, asksF_no F.out]
              exact ⟨_, rfl, Own.nil, below_drewN R2.out.2 _⟩
          · obtain rfl : i = k := by omega
            obtain ⟨BL, hBL⟩ : ∃ BL, blkF l asks[i].who asks[i].node asks[i].mode = BL := ⟨_, rfl⟩
            have BL4 : BL.length ≤ 4 := by rw [← hBL]; exact blkF_len _ _ _ _
            have HB := Lib.hid hBL
            clear hBL
            go_wp2_with fail
            go_still_tail 16, (by kernel_rfl)
            go_wp2_with fail
            refine (spec_LockBlockers_c A c l asks[i].who asks[i].node asks[i].mode _ (H.out.grow R2.out.2.drew) hl).mono ?_
            rintro e w5 ⟨vb, rfl, hob, hb5⟩
            rw [HB.out] at hob
            obtain ⟨Ab, cb, rfl, _, _, _⟩ := hob.form
            have S := Lib.hid (And.intro ((show Own wtE 75 wr.drew w.heap.size (.slice Ao L.length co) L from R2.out.1.grow (Below.refl _ _).drew).grow hb5) (And.intro (RdA.own (vo := .slice Ao L.length co) hob (fun j hj => (R2.out.1.lt j hj).2)) (R2.out.2.drew.trans (hb5.mono R2.out.2.drew.size))))
            clear hob hb5 c0 c1 c2'
            go_wp2_with fail
            go_loopw [6, 10] (fun vo jv wr' => ∃ (j : Nat) (L2 : List Wt), jv = .int .i64 j ∧ j ≤ BL.length ∧ Hid (L2 = L ++ (BL.take j).map fun t => (⟨asks[i].who, t⟩ : Wt)) ∧ L2.length ≤ 100 ∧ Own wtE 75 wr' w.heap.size vo L2 ∧ RdA inE wr' Ab BL vo ∧ Below w.heap.size w wr') (fun _ jv _ => BL.length - (intOf jv).toNat)
            case atStart => exact ⟨0, L, rfl, by omega, Lib.hid (by simp), by omega, S.out.1, S.out.2.1, S.out.2.2⟩
            case round =>
              obtain ⟨j, L2, rfl, hj, hL2, hLl2, ho, hra, hbel⟩ := hrel
              obtain ⟨A3, c3, rfl, _, _, _⟩ := ho.form
              have R3 := Lib.hid (And.intro ho (And.intro hra hbel))
              clear ho hra hbel
              by_cases hjl : j < BL.length
              · obtain ⟨b', o', e', hb', c0, c1, c2'⟩ := (H2.out.below R3.out.2.2 (Nat.le_refl _)).lk hlt
                cases e'
                obtain ⟨b3, o3, rfl, hb3, d0⟩ := R3.out.2.1.rd.int hjl
                clear c1 c2'
                have L3 := Lib.hid (show L2 ++ [(⟨asks[i].who, BL[j]⟩ : Wt)] = L ++ (BL.take (j + 1)).map fun t => (⟨asks[i].who, t⟩ : Wt) by
                  rw [hL2.out, List.take_succ_eq_append_getElem hjl, List.map_append, List.append_assoc]; rfl)
                have L3l : (L2 ++ [(⟨asks[i].who, BL[j]⟩ : Wt)]).length ≤ 100 := by
                  rw [L3.out, List.length_append, List.length_map, List.length_take]; omega
                go_wp2_with fail
                go_region_law (go_loud (refine step_ap1 slWt rfl (.tmp 78) (.tmp 89) rfl _ _ (⟨asks[i].who, BL[j]⟩ : Wt) rfl w w.heap.size _ _ rfl (R3.out.1.grow (below_drewN (Below.refl _ _) _)) _ (by simp) rfl (by omega) (below_drewN R3.out.2.2 _) (Nat.le_refl _) ?_); intro v1 w6 ho1 hb1 hg1 hat1; have Z := Lib.hid (And.intro ho1 (And.intro ((R3.out.2.1.grow (below_drewN (Below.refl _ _) _)).push hg1 hat1) hb1)); clear ho1 hb1 hg1 hat1)
                go_wp2_with fail
                all_goals first
                  | (go_roundw; (case rel => exact ⟨j + 1, _, by go_num, by omega, L3, L3l, Z.out.1, Z.out.2.1, Z.out.2.2⟩); (case measure => simp [intOf]; omega))
                  | (refine ⟨⟨j + 1, _, by go_num, by omega, L3, L3l, Z.out.1, Z.out.2.1, Z.out.2.2⟩, ?_⟩; simp [intOf]; omega)
              · obtain rfl : j = BL.length := by omega
                have IN := Lib.hid (INV.out.next hlt OK.out (fun i' hi => hno.out i' hi (by omega)) HB.out (L2 := L2) (by rw [hL2.out, List.take_length]))
                go_wp2_with fail
                go_roundw
                case rel => exact ⟨i + 1, L2, by go_num, by omega, IN, R3.out.1, R3.out.2.2⟩
                case measure => simp [intOf]; omega
    · obtain rfl : k = asks.length := by omega
      have R := Lib.hid (And.intro ho hbel)
      clear ho hbel
      by_cases h12 : 12 < L.length
      · have F := Lib.hid (INV.out.long h12)
        go_wp2_with fail
        go_ret2
        rw [F.out, asksF_no F.out]
        exact ⟨_, rfl, Own.nil, R.out.2⟩
      · have F := Lib.hid (INV.out.done HT.out (by omega))
        go_wp2_with fail
        go_ret2
        rw [F.out.1, F.out.2]
        exact ⟨_, rfl, R.out.1, R.out.2⟩
end Go.Proofs.YteoeojbeaehdpaaDoor
