/-
  Serial orders: the contract of the program's function, whole.
-/
import Derived.Test.YtbbnibjnjmmmnaaSer2
namespace Go.Proofs.Ytbbnibjnjmmmnaa
open Go.RowKit

theorem or_pw (q : Nat → Bool) {k : Nat} (hk : k < 4) : Go.bits .or .i64 (bit4 q) (wrap64 (2 ^ k)) = bit4 fun j => q j || (j == k) := by rw [wrap_pw hk]; exact bit4_or q k hk
theorem andNot_pw (q : Nat → Bool) {k : Nat} (hk : k < 4) : Go.bits .andNot .i64 (bit4 q) (wrap64 (2 ^ k)) = bit4 fun j => q j && !(j == k) := by rw [wrap_pw hk]; exact bit4_andNot q k hk
def tkT (h : List Acc) (n t : Nat) : Bool := (h.take n).any fun x => x.who == (t : Int)
theorem tkT_next {h : List Acc} {n f : Nat} (hn : n < h.length) (hf : h[n].who = (f : Int)) : bit4 (fun j => tkT h n j || (j == f)) = bit4 (tkT h (n + 1)) := by
  refine bit4_congr fun k _ => ?_
  unfold tkT
  rw [List.take_succ_eq_append_getElem hn, List.any_append]
  simp only [List.any_cons, List.any_nil, Bool.or_false, hf]
  congr 1
  rw [Bool.eq_iff_iff]
  simp only [beq_iff_eq]
  omega
theorem lf_next {h : List Acc} {out : List Int} {n : Int} {t : Nat} (hn : n = (t : Int)) : bit4 (fun j => lf h out j && !(j == t)) = bit4 (lf h (out ++ [n])) := by
  refine bit4_congr fun k _ => ?_
  unfold lf
  rw [hn, Bool.and_assoc]
  congr 1
  simp only [hasI, List.any_append, List.any_cons, List.any_nil, Bool.or_false, Bool.not_or]
  congr 1
  rw [Bool.eq_iff_iff]
  simp only [Bool.not_eq_true', beq_eq_false_iff_ne, ne_eq]
  omega

set_option maxRecDepth 100000 in
set_option maxHeartbeats 8000000 in
theorem impl_SerialOrder_c (A : Option Addr) (c : Nat) (h : List Acc) (w : World) (hr : Rd accE w w.heap.size A h) (hl : h.length ≤ 1048576) (hc : h.length ≤ c) :
    Calls Try.prog 32 #[.slice A h.length c] w fun e w' => ∃ v, e = .returned (.tuple #[v, .bool (serB h)]) ∧ Own inE 3 w' w.heap.size v (serR h) ∧ Below w.heap.size w w' := by
  have H := Lib.hid hr
  have C := Lib.hid (impl_ValidAccesses_c A c h w hr hl)
  clear hr
  by_cases hv : validAcc h = true
  · have V := Lib.hid (show h.all accOk = true by rw [validAcc, Bool.and_eq_true] at hv; exact hv.1)
    go_enter Try.func32, Try.ntmps32
    go_wp2_with fail
    refine C.out.mono ?_
    rintro e w1 ⟨rfl, hb⟩
    have B1 := Lib.hid hb
    have HV := Lib.hid hv
    clear hb
    go_wp2_with fail
    refine (behindOf_l A c h _ (H.out.grow B1.out) hl hc V.out).mono ?_
    rintro e w2 ⟨rfl, hb⟩
    have B2 := Lib.hid (B1.out.trans (hb.mono B1.out.size))
    clear hb
    go_wp2_with fail
    generalize hw3 : World.alloc w2 _ = w3
    have hb3 : Blk w3 w2.heap.size 72 (behC (folS h)) ∧ w3.heap.size = w2.heap.size + 1 ∧ Below w.heap.size w w3 := by
      subst hw3; exact ⟨Blk.new _ _ _, by simp, B2.out.alloc B2.out.size _⟩
    have B3 := Lib.hid hb3
    clear hw3 hb3
    go_loopw [5, 18] (fun lv i wr => ∃ n : Nat, n ≤ h.length ∧ i = .int .i64 n ∧ lv = .int .i64 (bit4 (tkT h n)) ∧ Below w3.heap.size w3 wr) (fun _ i _ => h.length - (intOf i).toNat)
    case atStart => exact ⟨0, by omega, rfl, rfl, Below.refl _ _⟩
    case round =>
      obtain ⟨n, hn, rfl, rfl, hbel⟩ := hrel
      have R := Lib.hid hbel
      by_cases hlt : n < h.length
      · obtain ⟨b, o, rfl, hb, c0, c1, c2⟩ := ((H.out.below B3.out.2.2 (Nat.le_refl _)).below hbel B3.out.2.2.size).acc hlt
        obtain ⟨f, hf, hf4⟩ : ∃ f : Nat, h[n].who = (f : Int) ∧ f < 4 := by
          have := accOk_range V.out (List.getElem_mem hlt)
          exact ⟨h[n].who.toNat, by omega, by omega⟩
        have F := Lib.hid ((or_pw (tkT h n) hf4).trans (tkT_next hlt hf))
        rw [hf] at c0
        clear hbel hf
        go_wp2_with fail
        go_roundw
        case rel => exact ⟨n + 1, by omega, by go_num, by rw [F.out], R.out.alloc R.out.size _⟩
        case measure => simp [intOf]; omega
      · have e : n = h.length := by omega
        subst e
        have e2 : bit4 (tkT h h.length) = bit4 (lf h []) := bit4_congr fun k _ => by simp [tkT, lf, tk, tkI, hasI]
        rw [e2]
        clear hbel e2
        go_wp2_with fail
        go_loopw [5, 8] (fun lv vo wr' => ∃ out : List Int, lv = .int .i64 (bit4 (lf h out)) ∧ Hid (SInv h out) ∧ Own inE 3 wr' w3.heap.size vo out ∧ Blk wr' w2.heap.size 72 (behC (folS h)) ∧ Below w3.heap.size w3 wr') (fun _ vo _ => 5 - lenS vo)
        case atStart => exact ⟨[], rfl, Lib.hid (SInv.start h), Own.nil, B3.out.1.below R.out (by rw [B3.out.2.1]; omega), R.out⟩
        case round =>
          obtain ⟨out, rfl, hinv, ho, hblk, hbel⟩ := hrel
          obtain ⟨Ao, co, rfl, _, _, _⟩ := ho.form
          have hol := hinv.out.len
          have Q := Lib.hid (And.intro ho (And.intro hblk hbel))
          clear ho hblk hbel
          by_cases hz : (bit4 (lf h out) == 0) = true
          · have hz' : (bit4 (lf h out) != 0) = false := by rw [bne, hz]; rfl
            have F := Lib.hid (left_none hinv.out hz)
            go_wp2_with fail
            go_ret2
            have hB : serB h = true := by rw [serB, F.out.2, HV.out]; rfl
            have hR : serR h = out := by rw [serR, F.out.2, HV.out]; exact F.out.1
            rw [hB, hR]
            exact ⟨_, rfl, Q.out.1.base B3.out.2.2.size, B3.out.2.2.trans (Q.out.2.2.mono B3.out.2.2.size)⟩
          · rw [Bool.not_eq_true] at hz
            have hz' : (bit4 (lf h out) != 0) = true := by rw [bne, hz]; rfl
            go_wp2_with fail
            go_loopw [9, 10] (fun nv tv wr'' => ∃ (j : Nat) (n : Int), j ≤ 4 ∧ tv = .int .i64 (3 - (j : Int)) ∧ nv = .int .i64 n ∧ Hid (n = ndN (imP h out) j) ∧ Own inE 3 wr'' w3.heap.size (.slice Ao out.length co) out ∧ Blk wr'' w2.heap.size 72 (behC (folS h)) ∧ Below w3.heap.size w3 wr'') (fun _ tv _ => (intOf tv + 1).toNat)
            case atStart => exact ⟨0, -1, by omega, rfl, rfl, Lib.hid rfl, Q.out.1, Q.out.2.1, Q.out.2.2⟩
            case round =>
              obtain ⟨j, n, hj, rfl, rfl, hn2, ho, hblk, hbel⟩ := hrel
              by_cases hlt : j < 4
              · obtain ⟨t, ht, ht4⟩ : ∃ t : Nat, 3 - (j : Int) = (t : Int) ∧ t = 3 - j := ⟨3 - j, by omega, rfl⟩
                have htl : t < 4 := by omega
                rw [ht]
                have z0 := (cell_of_row _ _ 0 _ _ _ hblk).trans (behC_at (folS h) 0 (by omega))
                have z1 := (cell_of_row _ _ 1 _ _ _ hblk).trans (behC_at (folS h) 1 (by omega))
                have z2 := (cell_of_row _ _ 2 _ _ _ hblk).trans (behC_at (folS h) 2 (by omega))
                have z3 := (cell_of_row _ _ 3 _ _ _ hblk).trans (behC_at (folS h) 3 (by omega))
                have S := Lib.hid (And.intro ho (And.intro hblk hbel))
                have HT := Lib.hid (And.intro ht ht4)
                clear ho hblk hbel ht ht4
                obtain ⟨t1, t2⟩ := test_pw (lf h out) htl
                by_cases e1 : lf h out t = true
                · rw [e1] at t1 t2
                  obtain ⟨bb, hbb⟩ : ∃ bb, bh h out t 4 = bb := ⟨_, rfl⟩
                  have F := Lib.hid (show ndN (imP h out) (j + 1) = if !bb then (t : Int) else ndN (imP h out) j by
                    rw [ndN, ← HT.out.2]; unfold imP; rw [e1, hbb]; simp)
                  have HB := Lib.hid hbb
                  clear e1 hbb
                  go_wp2_with fail
                  refine (isBehind_c h out t htl _).mono ?_
                  rintro e w5 ⟨rfl, hb⟩
                  have Y := Lib.hid (And.intro (S.out.1.grow hb) (And.intro (S.out.2.1.grow hb) (S.out.2.2.trans (hb.mono S.out.2.2.size))))
                  clear hb
                  rw [HB.out]
                  cases bb
                  · go_wp2_with fail
                    go_roundw
                    case rel => exact ⟨j + 1, t, by omega, by have e9 := HT.out.1; congr 1; omega, rfl, Lib.hid F.out.symm, Y.out.1, Y.out.2.1, Y.out.2.2⟩
                    case measure => have e9 := HT.out.1; (simp [intOf] <;> omega)
                  · go_wp2_with fail
                    go_roundw
                    case rel => exact ⟨j + 1, n, by omega, by have e9 := HT.out.1; congr 1; omega, rfl, Lib.hid (hn2.out.trans F.out.symm), Y.out.1, Y.out.2.1, Y.out.2.2⟩
                    case measure => have e9 := HT.out.1; (simp [intOf] <;> omega)
                · rw [Bool.not_eq_true] at e1
                  rw [e1] at t1 t2
                  have F := Lib.hid (show ndN (imP h out) (j + 1) = ndN (imP h out) j by
                    rw [ndN, ← HT.out.2]; unfold imP; rw [e1]; simp)
                  clear e1
                  go_wp2_with fail
                  go_roundw
                  case rel => exact ⟨j + 1, n, by omega, by have e9 := HT.out.1; congr 1; omega, rfl, Lib.hid (hn2.out.trans F.out.symm), S.out.1, S.out.2.1, S.out.2.2⟩
                  case measure => have e9 := HT.out.1; (simp [intOf] <;> omega)
              · have ej : j = 4 := by omega
                subst ej
                have hnn : n = nxU (frP h out) 4 := by rw [hn2.out, nd_nx]; exact nxU_congr fun t _ => im_fr h out t
                have S := Lib.hid (And.intro ho (And.intro hblk hbel))
                clear ho hblk hbel
                by_cases hneg : n < 0
                · have F := Lib.hid (left_some hinv.out hz (by rw [← hnn]; exact hneg))
                  have hbn : decide (n < 0) = true := by rw [decide_eq_true_eq]; exact hneg
                  clear hnn
                  go_wp2_with fail
                  go_ret2
                  have hB : serB h = false := by rw [serB, F.out, Bool.and_false]
                  have hR : serR h = [] := by rw [serR, F.out, Bool.and_false]; rfl
                  rw [hB, hR]
                  exact ⟨_, rfl, Own.nil, B3.out.2.2.trans (S.out.2.2.mono B3.out.2.2.size)⟩
                · obtain ⟨hi2, t, ht4, hnt, _⟩ := hinv.out.next (by rw [← hnn]; exact hneg)
                  have hnt' : n = (t : Int) := hnn.trans hnt
                  rw [← hnn, hnt'] at hi2
                  subst hnt'
                  have F := Lib.hid (And.intro hi2 ((andNot_pw (lf h out) ht4).trans (lf_next (out := out) (n := (t : Int)) rfl)))
                  clear hnn hi2 hnt
                  go_wp2_with (at_builtin; refine wpList_ap1 slIn rfl (.tmp 49) (.tmp 51) rfl _ _ (t : Int) rfl w3 w3.heap.size _ out rfl S.out.1 rfl (by omega) S.out.2.2 (Nat.le_refl _) ?_; intro v1 w6 ho1 hb1 hg1 hat1; have Y := Lib.hid (And.intro ho1 (And.intro (S.out.2.1.kept hg1 (fun e => by have := (S.out.1.lt _ e.symm).1; have := B3.out.2.1; omega)) hb1)); have hfm := ho1.form; rw [show (out ++ [(t : Int)]).length = out.length + 1 by simp] at hfm; obtain ⟨A1, c1, rfl, _, _, _⟩ := hfm; clear ho1 hb1 hg1 hat1)
                  go_roundw
                  case rel => exact ⟨out ++ [(t : Int)], by rw [F.out.2], Lib.hid F.out.1, Y.out.1, Y.out.2.1, Y.out.2.2⟩
                  case measure => simp [lenS]; omega
  · rw [Bool.not_eq_true] at hv
    have F := Lib.hid (show serR h = [] ∧ serB h = false by rw [serR, serB, hv]; exact ⟨rfl, rfl⟩)
    go_enter Try.func32, Try.ntmps32
    go_wp2_with fail
    refine C.out.mono ?_
    rintro e w1 ⟨rfl, hb⟩
    have B1 := Lib.hid hb
    clear hb
    go_wp2_with fail
    go_ret2
    rw [F.out.1, F.out.2]
    exact ⟨_, rfl, Own.nil, B1.out⟩
end Go.Proofs.Ytbbnibjnjmmmnaa
