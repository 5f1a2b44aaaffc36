/-
  Conflicts: the contract of the program's list of pairs.
-/
import Derived.Test.YtbbnibjnjmmmnaaBeh
namespace Go.Proofs.Ytbbnibjnjmmmnaa
open Go.RowKit

theorem test_pw (q : Nat → Bool) {k : Nat} (hk : k < 4) : (Go.bits .and .i64 (bit4 q) (wrap64 (2 ^ k)) == 0) = !(q k) ∧ (Go.bits .and .i64 (bit4 q) (wrap64 (2 ^ k)) != 0) = q k := by
  rw [wrap_pw hk]
  have h := bit4_test q k hk
  refine ⟨h, ?_⟩
  rw [bne, h, Bool.not_not]

theorem behindOf_l (A : Option Addr) (c : Nat) (h : List Acc) (w : World) (hr : Rd accE w w.heap.size A h) (hl : h.length ≤ 1048576) (hc : h.length ≤ c) (hv : h.all accOk = true) :
    Calls Try.prog 65 #[.slice A h.length c] w fun e w' => e = .returned (.agg #[.int .i64 (bit4 (folS h 0)), .int .i64 (bit4 (folS h 1)), .int .i64 (bit4 (folS h 2)), .int .i64 (bit4 (folS h 3))]) ∧ Below w.heap.size w w' :=
  behindOf_c A c h w hr hl hc hv
set_option maxRecDepth 100000 in
set_option maxHeartbeats 4000000 in
theorem impl_ConflictsOf_c (A : Option Addr) (c : Nat) (h : List Acc) (w : World) (hr : Rd accE w w.heap.size A h) (hl : h.length ≤ 1048576) (hc : h.length ≤ c) :
    Calls Try.prog 34 #[.slice A h.length c] w fun e w' => ∃ v L, e = .returned v ∧ Prs w' w.heap.size v L ∧ prs L = confF h ∧ Below w.heap.size w w' := by
  have H := Lib.hid hr
  have C := Lib.hid (impl_ValidAccesses_c A c h w hr hl)
  clear hr
  by_cases hv : validAcc h = true
  · have F := Lib.hid (show confF h = confP (folS h) 4 by rw [confF, if_pos hv])
    have V := Lib.hid (show h.all accOk = true by rw [validAcc, Bool.and_eq_true] at hv; exact hv.1)
    go_enter Try.func34, Try.ntmps34
    go_wp2_with fail
    refine C.out.mono ?_
    rintro e w1 ⟨rfl, hb⟩
    have B1 := Lib.hid hb
    clear hb
    go_wp2_with fail
    refine (behindOf_l A c h _ (H.out.grow B1.out) hl hc V.out).mono ?_
    rintro e w2 ⟨rfl, hb⟩
    have B2 := Lib.hid (B1.out.trans (hb.mono B1.out.size))
    clear hb
    go_wp2_with fail
    generalize hw3 : World.alloc w2 _ = w3
    have hb3 : Blk w3 w2.heap.size 72 (behC (folS h)) ∧ w3.heap.size = w2.heap.size + 1 ∧ Below w.heap.size w w3 := by
      subst hw3; exact ⟨Blk.new _ _ _, by simp, B2.out.alloc B2.out.size _⟩
    have B3 := Lib.hid hb3
    clear hw3 hb3
    go_loopw [4, 12] (fun v i wr => ∃ (n : Nat) (L : List P2), n ≤ 4 ∧ i = .int .i64 n ∧ Prs wr w3.heap.size v L ∧ Hid (prs L = confP (folS h) n) ∧ Blk wr w2.heap.size 72 (behC (folS h)) ∧ Below w3.heap.size w3 wr) (fun _ i _ => 4 - (intOf i).toNat)
    case atStart => exact ⟨0, [], by omega, rfl, Prs.nil, Lib.hid rfl, B3.out.1, Below.refl _ _⟩
    case round =>
      obtain ⟨n, L, hn, rfl, hpr, hL, hblk, hbel⟩ := hrel
      obtain ⟨Ao, co, rfl, _, _, _⟩ := hpr.own.form
      have R := Lib.hid (And.intro hpr (And.intro hblk hbel))
      clear hpr hblk hbel
      by_cases hlt : n < 4
      · have hb4 : decide ((n : Int) < 4) = true := by rw [decide_eq_true_eq]; omega
        go_wp2_with fail
        go_loopw [4, 15] (fun v k wr' => ∃ (m : Nat) (L' : List P2), m ≤ 4 ∧ k = .int .i64 m ∧ Prs wr' w3.heap.size v L' ∧ Hid (prs L' = confP (folS h) n ++ rowP (folS h) n m) ∧ Blk wr' w2.heap.size 72 (behC (folS h)) ∧ Below w3.heap.size w3 wr') (fun _ k _ => 4 - (intOf k).toNat)
        case atStart => exact ⟨0, L, by omega, rfl, R.out.1, Lib.hid (by rw [hL.out]; simp [rowP]), R.out.2.1, R.out.2.2⟩
        case round =>
          obtain ⟨m, L', hm, rfl, hpr, hL', hblk, hbel⟩ := hrel
          obtain ⟨Ao', co', rfl, _, _, _⟩ := hpr.own.form
          have hlen : L'.length ≤ 20 := by
            have e1 := congrArg List.length hL'.out
            rw [prs_len, List.length_append] at e1
            have e2 := confP_len (folS h) n
            have e3 := rowP_len (folS h) n m
            omega
          have z0 := (cell_of_row _ _ n _ _ _ hblk).trans (behC_at (folS h) n hlt)
          have R' := Lib.hid (And.intro hpr (And.intro hblk hbel))
          clear hpr hblk hbel
          by_cases hlt2 : m < 4
          · obtain ⟨t1, t2⟩ := test_pw (folS h n) hlt2
            by_cases hf : folS h n m = true
            · rw [hf] at t1 t2
              have HF := Lib.hid (show rowP (folS h) n (m + 1) = rowP (folS h) n m ++ [((n : Int), (m : Int))] by rw [rowP, if_pos hf])
              clear hf
              go_wp2_with fail
              go_quiet (fail)
              generalize hq : World.drewN wr _ = wq
              have hd : Dr wr wq := ⟨_, hq.symm⟩
              have S := Lib.hid (And.intro (R'.out.1.grow (hd.below _)) (And.intro (R'.out.2.1.grow (hd.below _)) (R'.out.2.2.trans (hd.below _))))
              clear hq hd z0
              go_wp2_with (at_builtin; go_loud (refine wpList_ap1g slP2 rfl (.tmp 25) (.tmp 29) rfl (wq.alloc (.cells #[.int .i64 (n : Int), .int .i64 (m : Int)] 3)) _ ⟨wq.heap.size, n, m⟩ rfl w3 w3.heap.size _ L' rfl (S.out.1.own.alloc _) _ (by simp) rfl (by omega) (S.out.2.2.alloc S.out.2.2.size _) (Nat.le_refl _) ?_); intro v1 w4 ho1 hb1 hg1 hat1; go_loud (have Y := Lib.hid (And.intro (S.out.1.push S.out.2.2.size ho1 hg1 hat1) (And.intro ((S.out.2.1.alloc _).kept hg1 (fun e => by have := (S.out.1.own.lt _ e.symm).1; have := B3.out.2.1; omega)) hb1))); clear ho1 hb1 hg1 hat1)
              go_roundw
              case rel => exact ⟨m + 1, _, by omega, by go_num, Y.out.1, Lib.hid (by rw [prs_snoc, hL'.out, HF.out, List.append_assoc]), Y.out.2.1, Y.out.2.2⟩
              case measure => simp [intOf]; omega
            · rw [Bool.not_eq_true] at hf
              rw [hf] at t1 t2
              have HF := Lib.hid (show rowP (folS h) n (m + 1) = rowP (folS h) n m by rw [rowP, hf]; simp)
              clear hf
              go_wp2_with fail
              go_quiet (fail)
              generalize hq : World.drewN wr _ = wq
              have hd : Dr wr wq := ⟨_, hq.symm⟩
              have S := Lib.hid (And.intro (R'.out.1.grow (hd.below _)) (And.intro (R'.out.2.1.grow (hd.below _)) (R'.out.2.2.trans (hd.below _))))
              clear hq hd z0
              go_wp2_with fail
              go_roundw
              case rel => exact ⟨m + 1, L', by omega, by go_num, S.out.1, Lib.hid (by rw [hL'.out, HF.out]), S.out.2.1, S.out.2.2⟩
              case measure => simp [intOf]; omega
          · obtain rfl : m = 4 := by omega
            go_wp2_with fail
            go_roundw
            case rel => exact ⟨n + 1, L', by omega, by go_num, R'.out.1, Lib.hid (by rw [hL'.out, confP]), R'.out.2.1, R'.out.2.2⟩
            case measure => simp [intOf]; omega
      · obtain rfl : n = 4 := by omega
        go_wp2_with fail
        go_ret
        exact ⟨_, L, rfl, R.out.1.base B3.out.2.2.size, by rw [F.out]; exact hL.out, B3.out.2.2.trans (R.out.2.2.mono B3.out.2.2.size)⟩
  · rw [Bool.not_eq_true] at hv
    have F := Lib.hid (show confF h = [] by rw [confF, hv]; rfl)
    go_enter Try.func34, Try.ntmps34
    go_wp2_with fail
    refine C.out.mono ?_
    rintro e w1 ⟨rfl, hb⟩
    have B1 := Lib.hid hb
    clear hb
    go_wp2_with fail
    go_ret
    exact ⟨_, [], rfl, Prs.nil, by rw [F.out]; rfl, B1.out⟩
end Go.Proofs.Ytbbnibjnjmmmnaa
