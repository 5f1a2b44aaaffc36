/-
  What the asks wait for: the contract of the program's function.
-/
import Derived.Test.YteoeojbeaehdpaaDoorAsk1
namespace Go.Proofs.YteoeojbeaehdpaaDoor
open Go.RowKit

def seenC (S : Nat → Bool) : Array Value := #[.bool (S 0), .bool (S 1), .bool (S 2), .bool (S 3)]
theorem seenC_at (S : Nat → Bool) {j : Nat} (h : j < 4) : (seenC S)[j]? = some (.bool (S j)) := by
  rcases (by omega : j = 0 ∨ j = 1 ∨ j = 2 ∨ j = 3) with rfl | rfl | rfl | rfl <;> rfl
theorem seenC_set (S : Nat → Bool) {j : Nat} (h : j < 4) : (seenC S).setIfInBounds j (.bool true) = seenC fun i => S i || i == j := by
  rcases (by omega : j = 0 ∨ j = 1 ∨ j = 2 ∨ j = 3) with rfl | rfl | rfl | rfl <;> simp [seenC]
def seenS (asks : List Lk) (k : Nat) (i : Nat) : Bool := (asks.take k).any fun x => x.who == (i : Int)
theorem seenS_next {asks : List Lk} {k j : Nat} (hk : k < asks.length) (hj : asks[k].who = (j : Int)) : (fun i => seenS asks k i || i == j) = seenS asks (k + 1) := by
  funext i
  unfold seenS
  rw [List.take_succ_eq_append_getElem hk, List.any_append]
  simp only [List.any_cons, List.any_nil, Bool.or_false, hj]
  congr 1
  by_cases e : i = j
  · subst e; simp
  · have e2 : ¬ (j : Int) = (i : Int) := by omega
    rw [beq_eq_false_iff_ne.2 e, beq_eq_false_iff_ne.2 e2]
theorem seen_yes {asks : List Lk} {k j : Nat} (hk : k < asks.length) (hj : asks[k].who = (j : Int)) (h : seenS asks k j = true) : ¬ Diff asks := by
  unfold seenS at h
  rw [List.any_eq_true] at h
  obtain ⟨x, hx, he⟩ := h
  obtain ⟨i, hi, rfl⟩ := List.mem_iff_getElem.1 hx
  rw [List.length_take] at hi
  rw [List.getElem_take] at he
  exact diff_bad hk (show i < k by omega) (by rw [hj]; simpa using he)
theorem seen_no {asks : List Lk} {k j : Nat} (hk : k < asks.length) (hj : asks[k].who = (j : Int)) (h : seenS asks k j = false) : ∀ i (hi : i < k), ¬ (asks[i]'(by omega)).who = asks[k].who := by
  intro i hi e
  unfold seenS at h
  rw [List.any_eq_false] at h
  have := h (asks[i]'(by omega)) (by rw [List.mem_iff_getElem]; exact ⟨i, by simp; omega, by simp⟩)
  rw [e, hj] at this
  simp at this

set_option maxRecDepth 100000 in
set_option maxHeartbeats 8000000 in
theorem impl_AsksOf_c (A : Option Addr) (c : Nat) (l : List Lk) (A2 : Option Addr) (c2 : Nat) (asks : List Lk) (w : World) (h : Rd lkE w w.heap.size A l) (h2 : Rd lkE w w.heap.size A2 asks) (hl : l.length ≤ 1048576) (hl2 : asks.length ≤ 1048576) (hc : l.length ≤ c) (ht : TTab w) (hj : JTab w) :
    Calls Tryd.prog 34 #[.slice A l.length c, .slice A2 asks.length c2] w fun e w' => ∃ v, e = .returned (.tuple #[v, .bool (asksOk l asks)]) ∧ Own wtE 75 w' w.heap.size v (asksF l asks) ∧ Below w.heap.size w w' := by
  have C := Lib.hid (impl_ValidTable_c A c l w h hl hc ht)
  have H := Lib.hid h
  have H2 := Lib.hid h2
  have T := Lib.hid (And.intro ht hj)
  clear h h2 ht hj
  cases ht : tabOk l
  · have F := Lib.hid (asks_tab (asks := asks) ht)
    have HT := Lib.hid ht
    clear ht
    go_enter Tryd.func34, Tryd.ntmps34
    go_wp2_with fail
    refine C.out.mono ?_
    rintro e w1 ⟨rfl, hb⟩
    have B1 := Lib.hid hb
    clear hb
    rw [HT.out]
    go_wp2_with fail
    go_ret2
    rw [F.out, asksF_no F.out]
    exact ⟨_, rfl, Own.nil, B1.out⟩
  have HT := Lib.hid ht
  clear ht
  go_enter Tryd.func34, Tryd.ntmps34
  go_wp2_with fail
  refine C.out.mono ?_
  rintro e w1 ⟨rfl, hb⟩
  have B1 := Lib.hid hb
  clear hb
  rw [HT.out]
  go_wp2_with fail
  go_loopw [7, 17] (fun vo iv wr => ∃ (k : Nat) (L : List Wt), iv = .int .i64 k ∧ k ≤ asks.length ∧ Hid (AskInv l asks k L) ∧ Blk wr w1.heap.size 76 (seenC (seenS asks k)) ∧ Own wtE 75 wr (w1.heap.size + 1) vo L ∧ Below w.heap.size w wr) (fun _ iv _ => asks.length - (intOf iv).toNat)
  case atStart => exact ⟨0, [], rfl, by omega, Lib.hid (AskInv.start l asks), Blk.new w1 _ _, Own.nil, B1.out.alloc B1.out.size _⟩
  case round =>
    obtain ⟨k, L, rfl, hk, INV, hblk, ho, hbel⟩ := hrel
    obtain ⟨Ao, co, rfl, _, _, _⟩ := ho.form
    have hLl := INV.out.len hk
    have B1s := B1.out.size
    by_cases hlt : k < asks.length
    · obtain ⟨b, o, rfl, hb, c0, c1, c2'⟩ := (H2.out.below hbel (Nat.le_refl _)).lk hlt
      cases hq : lkOk asks[k]
      · have hq2 : askOk asks[k].who asks[k].node asks[k].mode = false := hq
        have F := Lib.hid (asks_bad (l := l) hlt hq)
        have R := Lib.hid hbel
        clear hq hbel ho hblk
        go_wp2_with (go_at_call 59; refine (isAsk_c _ _ _ _).mono ?_; rintro e w' ⟨rfl, rfl⟩)
        go_ret2
        rw [F.out, asksF_no F.out]
        exact ⟨_, rfl, Own.nil, R.out.alloc R.out.size _⟩
      · have hq2 : askOk asks[k].who asks[k].node asks[k].mode = true := hq
        obtain ⟨j, hj, hj4⟩ : ∃ j : Nat, asks[k].who = (j : Int) ∧ j < 4 := by
          have := (askOk_iff.1 hq2).1
          exact ⟨asks[k].who.toNat, by omega, by omega⟩
        have OK := Lib.hid hq
        have J := Lib.hid hj
        rw [hj] at c0 hq2
        have hgl := hblk.lt
        have f0 := hblk.free j
        cases hs : seenS asks k j
        · have d0 : wr.cell? ⟨w1.heap.size, j, none⟩ = some (.bool false) := by rw [cell_of_row _ _ j _ _ _ hblk, seenC_at _ hj4, hs]
          obtain ⟨BL, hBL⟩ : ∃ BL, blkF l (j : Int) asks[k].node asks[k].mode = BL := ⟨_, rfl⟩
          have BL4 : BL.length ≤ 4 := by rw [← hBL]; exact blkF_len _ _ _ _
          have HB := Lib.hid hBL
          have NO := Lib.hid (seen_no hlt hj hs)
          have SN := Lib.hid (seenS_next hlt hj)
          have WQ := Lib.hid (show ∀ wq, wq = (wr.setCell ⟨w1.heap.size, j, none⟩ (.bool true)).alloc (.cells #[.int .i64 j, .int .i64 asks[k].node, .int .i64 asks[k].mode] 64) → Below w.heap.size w wq ∧ Own wtE 75 wq (w1.heap.size + 1) (.slice Ao L.length co) L ∧ Blk wq w1.heap.size 76 (seenC (seenS asks (k + 1))) ∧ Blk wq wr.heap.size 64 #[.int .i64 j, .int .i64 asks[k].node, .int .i64 asks[k].mode] from by
            rintro wq rfl
            refine ⟨(hbel.setCell B1s _).alloc (hbel.setCell B1s _).size _, (ho.setOther (fun e => by have := (ho.lt _ e).1; omega)).alloc _, ?_, ?_⟩
            · have := (hblk.set j (.bool true)).alloc (.cells #[.int .i64 j, .int .i64 asks[k].node, .int .i64 asks[k].mode] 64)
              rw [seenC_set _ hj4, SN.out] at this
              exact this
            · have := Blk.new (wr.setCell ⟨w1.heap.size, j, none⟩ (.bool true)) 64 #[.int .i64 j, .int .i64 asks[k].node, .int .i64 asks[k].mode]
              simpa using this)
          have LT := Lib.hid ho.lt
          clear hq hBL hbel ho hblk hs hj
          go_wp2_with (go_at_call 59; refine (isAsk_c _ _ _ _).mono ?_; rintro e w' ⟨rfl, rfl⟩)
          obtain ⟨wq, hwq⟩ : ∃ wq, wq = (wr.setCell ⟨w1.heap.size, j, none⟩ (.bool true)).alloc (.cells #[.int .i64 j, .int .i64 asks[k].node, .int .i64 asks[k].mode] 64) := ⟨_, rfl⟩
          have Q := Lib.hid (WQ.out wq hwq)
          rw [← hwq]
          clear hwq d0 f0
          refine (impl_LockBlockers_c A c l (j : Int) asks[k].node asks[k].mode _ (H.out.grow Q.out.1) hl hc (T.out.1.below Q.out.1) (T.out.2.below Q.out.1)).mono ?_
          rintro e w5 ⟨vb, rfl, hob, hb5⟩
          rw [HB.out] at hob
          obtain ⟨Ab, cb, rfl, _, _, _⟩ := hob.form
          have BX := Q.out.2.2.2.grow hb5
          have S := Lib.hid (And.intro (Q.out.2.1.grow hb5) (And.intro (RdA.own (vo := .slice Ao L.length co) hob (fun i hi => (Q.out.2.1.lt i hi).2)) (And.intro (Q.out.1.trans (hb5.mono Q.out.1.size)) (And.intro (Q.out.2.2.1.grow hb5) (show RdA inE w5 (some ⟨wr.heap.size, 0, none⟩) [(j : Int)] (.slice Ao L.length co) from .inr ⟨wr.heap.size, 0, rfl, BX.lt, fun e => by have := (LT.out _ e).2; omega, fun i x hx q v hv => by
            match i, hx with
            | 0, hx =>
              obtain rfl := Option.some.inj hx
              match q, hv with
              | 0, hv =>
                obtain rfl := Option.some.inj hv
                rw [cell_of_row _ _ _ _ _ _ BX]; rfl⟩)))))
          clear hob hb5 BX c0 c1 c2'
          go_wp2_with fail
          go_loopw [7, 47] (fun vo jv wr' => ∃ (q : Nat) (L2 : List Wt), jv = .int .i64 q ∧ q ≤ BL.length ∧ Hid (L2 = L ++ (BL.take q).map fun t => (⟨(j : Int), t⟩ : Wt)) ∧ L2.length ≤ 100 ∧ Blk wr' w1.heap.size 76 (seenC (seenS asks (k + 1))) ∧ Own wtE 75 wr' (w1.heap.size + 1) vo L2 ∧ RdA inE wr' Ab BL vo ∧ RdA inE wr' (some ⟨wr.heap.size, 0, none⟩) [(j : Int)] vo ∧ Below w.heap.size w wr') (fun _ jv _ => BL.length - (intOf jv).toNat)
          case atStart => exact ⟨0, L, rfl, by omega, Lib.hid (by simp), by omega, S.out.2.2.2.1, S.out.1, S.out.2.1, S.out.2.2.2.2, S.out.2.2.1⟩
          case round =>
            obtain ⟨q, L2, rfl, hq, hL2, hLl2, hblk, ho, hra, hrx, hbel⟩ := hrel
            obtain ⟨A3, c3, rfl, _, _, _⟩ := ho.form
            have R3 := Lib.hid (And.intro ho (And.intro hra (And.intro hrx (And.intro hbel hblk))))
            have hgs := hblk.lt
            clear ho hra hbel hblk
            by_cases hql : q < BL.length
            · obtain ⟨b3, o3, rfl, hb3, d0⟩ := R3.out.2.1.rd.int hql
              obtain ⟨b4, o4, e4, hb4, x0⟩ := hrx.rd.int (k := 0) (by simp)
              cases e4
              rw [Nat.add_zero] at x0
              have L3 := Lib.hid (show L2 ++ [(⟨(j : Int), BL[q]⟩ : Wt)] = L ++ (BL.take (q + 1)).map fun t => (⟨(j : Int), t⟩ : Wt) by
                rw [hL2.out, List.take_succ_eq_append_getElem hql, List.map_append, List.append_assoc]; rfl)
              have L3l : (L2 ++ [(⟨(j : Int), BL[q]⟩ : Wt)]).length ≤ 100 := by
                rw [L3.out, List.length_append, List.length_map, List.length_take]; omega
              clear hrx
              go_wp2_with (at_builtin; refine wpList_ap1 slWt rfl (.tmp 51) (.tmp 56) rfl _ _ (⟨(j : Int), BL[q]⟩ : Wt) rfl wr (w1.heap.size + 1) _ L2 rfl R3.out.1 rfl (by omega) (Below.refl _ _) hgs ?_; intro v1 w6 ho1 hb1 hg1 hat1; have Z := Lib.hid (And.intro ho1 (And.intro (R3.out.2.1.push hg1 hat1) (And.intro (R3.out.2.2.1.push hg1 hat1) (And.intro (R3.out.2.2.2.1.trans (hb1.mono (by omega))) (R3.out.2.2.2.2.kept hg1 (fun e => by have := (R3.out.1.lt _ e.symm).1; omega)))))); clear ho1 hb1 hg1 hat1)
              go_roundw
              case rel => exact ⟨q + 1, _, by go_num, by omega, L3, L3l, Z.out.2.2.2.2, Z.out.1, Z.out.2.1, Z.out.2.2.1, Z.out.2.2.2.1⟩
              case measure => simp [intOf]; omega
            · obtain rfl : q = BL.length := by omega
              have IN := Lib.hid (INV.out.next hlt OK.out NO.out (BL := BL) (by rw [J.out]; exact HB.out) (L2 := L2) (by rw [hL2.out, List.take_length, J.out]))
              clear hrx
              go_wp2_with fail
              go_roundw
              case rel => exact ⟨k + 1, L2, by go_num, by omega, IN, R3.out.2.2.2.2, R3.out.1, R3.out.2.2.2.1⟩
              case measure => simp [intOf]; omega
        · have d0 : wr.cell? ⟨w1.heap.size, j, none⟩ = some (.bool true) := by rw [cell_of_row _ _ j _ _ _ hblk, seenC_at _ hj4, hs]
          have F := Lib.hid (asks_same (l := l) (seen_yes hlt hj hs))
          have R := Lib.hid hbel
          clear hq hbel ho hblk hs hj
          go_wp2_with (go_at_call 59; refine (isAsk_c _ _ _ _).mono ?_; rintro e w' ⟨rfl, rfl⟩)
          go_ret2
          rw [F.out, asksF_no F.out]
          exact ⟨_, rfl, Own.nil, R.out.alloc R.out.size _⟩
    · obtain rfl : k = asks.length := by omega
      have R := Lib.hid (And.intro (ho.base (show w.heap.size ≤ w1.heap.size + 1 by omega)) hbel)
      clear ho hbel hblk
      by_cases h12 : 12 < L.length
      · have F := Lib.hid (INV.out.long h12)
        go_wp2_with fail
        go_ret2
        rw [F.out, asksF_no F.out]
        exact ⟨_, rfl, Own.nil, R.out.2⟩
      · have F := Lib.hid (INV.out.done HT.out (by omega))
        go_wp2_with fail
        go_ret2
        rw [F.out.1, F.out.2]
        exact ⟨_, rfl, R.out.1, R.out.2⟩
end Go.Proofs.YteoeojbeaehdpaaDoor
