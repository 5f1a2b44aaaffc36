/-
  Conflicts: the contract of the reference's list of pairs.
-/
import Derived.Test.YtbbnibjnjmmmnaaConf
import Derived.Test.YtbbnibjnjmmmnaaPairs
namespace Go.Proofs.Ytbbnibjnjmmmnaa
open Go.RowKit

/-- those b below a bound that must come behind a, each with a -/
def rowP (f : Nat → Nat → Bool) (a : Nat) : Nat → List (Int × Int)
  | 0 => []
  | b + 1 => rowP f a b ++ (if f a b then [((a : Int), (b : Int))] else [])
def confP (f : Nat → Nat → Bool) : Nat → List (Int × Int)
  | 0 => []
  | a + 1 => confP f a ++ rowP f a 4
theorem rowP_len (f : Nat → Nat → Bool) (a : Nat) : ∀ b, (rowP f a b).length ≤ b
  | 0 => Nat.le_refl _
  | b + 1 => by have := rowP_len f a b; simp only [rowP, List.length_append]; split <;> simp <;> omega
theorem confP_len (f : Nat → Nat → Bool) : ∀ a, (confP f a).length ≤ 4 * a
  | 0 => Nat.le_refl _
  | a + 1 => by have := confP_len f a; have := rowP_len f a 4; simp only [confP, List.length_append]; omega
theorem rowP_congr {f g : Nat → Nat → Bool} {a : Nat} : ∀ {b : Nat}, (∀ k, k < b → f a k = g a k) → rowP f a b = rowP g a b
  | 0, _ => rfl
  | b + 1, h => by rw [rowP, rowP, rowP_congr (fun k hk => h k (by omega)), h b (by omega)]
theorem confP_congr {f g : Nat → Nat → Bool} : ∀ {a : Nat}, (∀ i k, i < a → k < 4 → f i k = g i k) → confP f a = confP g a
  | 0, _ => rfl
  | a + 1, h => by rw [confP, confP, confP_congr (fun i k hi hk => h i k (by omega) hk), rowP_congr (fun k hk => h a k (by omega) hk)]
noncomputable def folS (h : List Acc) (a b : Nat) : Bool := folB h (a : Int) (b : Int)
noncomputable def confF (h : List Acc) : List (Int × Int) := if validAcc h then confP (folS h) 4 else []
theorem confF_len (h : List Acc) : (confF h).length ≤ 16 := by
  unfold confF; split
  · exact confP_len _ 4
  · simp
theorem prs_len (L : List P2) : (prs L).length = L.length := by simp [prs]
theorem prs_snoc (L : List P2) (x : P2) : prs (L ++ [x]) = prs L ++ [(x.a, x.b)] := by simp [prs]

set_option maxRecDepth 100000 in
set_option maxHeartbeats 4000000 in
theorem spec_ConflictsOf_c (A : Option Addr) (c : Nat) (h : List Acc) (w : World) (hr : Rd accE w w.heap.size A h) (hl : h.length ≤ 1048576) :
    Calls Try.prog 36 #[.slice A h.length c] w fun e w' => ∃ v L, e = .returned v ∧ Prs w' w.heap.size v L ∧ prs L = confF h ∧ Below w.heap.size w w' := by
  have H := Lib.hid hr
  clear hr
  have N : Hid (Prs (w.alloc (.cells #[] 47)) w.heap.size (.slice (some ⟨w.heap.size, 0, none⟩) 0 0) []) := Lib.hid ⟨own_new (E := p2E) (e := 47) w #[] [] w.heap.size (Nat.le_refl _) (by simp) rfl, ⟨by simp, by simp⟩, by simp⟩
  have B0 := Lib.hid ((Below.refl w.heap.size w).alloc (Nat.le_refl _) (.cells #[] 47))
  by_cases hv : validAcc h = true
  · have F := Lib.hid (show confF h = confP (folS h) 4 by rw [confF, if_pos hv])
    go_enter Try.func36, Try.ntmps36
    go_wp2_with fail
    refine (spec_validAccesses_c A c h _ (H.out.grow B0.out) hl).mono ?_
    rintro e w1 ⟨rfl, rfl⟩
    go_wp2_with fail
    go_loopw [3, 4, 5] (fun v i _ wr => ∃ (n : Nat) (L : List P2), n ≤ 4 ∧ i = .int .i64 n ∧ Prs wr w.heap.size v L ∧ Hid (prs L = confP (folS h) n) ∧ Below w.heap.size w wr) (fun _ i _ _ => 4 - (intOf i).toNat)
    case atStart => exact ⟨0, [], by omega, rfl, N.out, Lib.hid rfl, B0.out⟩
    case round =>
      obtain ⟨n, L, hn, rfl, hpr, hL, hbel⟩ := hrel
      obtain ⟨Ao, co, rfl, _, _, _⟩ := hpr.own.form
      have R := Lib.hid (And.intro hpr hbel)
      clear hpr hbel
      by_cases hlt : n < 4
      · have hb4 : decide ((n : Int) < 4) = true := by rw [decide_eq_true_eq]; omega
        go_wp2_with fail
        go_loopw [3, 5] (fun v k wr' => ∃ (m : Nat) (L' : List P2), m ≤ 4 ∧ k = .int .i64 m ∧ Prs wr' w.heap.size v L' ∧ Hid (prs L' = confP (folS h) n ++ rowP (folS h) n m) ∧ Below w.heap.size w wr') (fun _ k _ => 4 - (intOf k).toNat)
        case atStart => exact ⟨0, L, by omega, rfl, R.out.1, Lib.hid (by rw [hL.out]; simp [rowP]), R.out.2⟩
        case round =>
          obtain ⟨m, L', hm, rfl, hpr, hL', hbel⟩ := hrel
          obtain ⟨Ao', co', rfl, _, _, _⟩ := hpr.own.form
          have hlen : L'.length ≤ 20 := by
            have e1 := congrArg List.length hL'.out
            rw [prs_len, List.length_append] at e1
            have e2 := confP_len (folS h) n
            have e3 := rowP_len (folS h) n m
            omega
          have R' := Lib.hid (And.intro hpr hbel)
          clear hpr hbel
          by_cases hlt2 : m < 4
          · by_cases hf : folB h (n : Int) (m : Int) = true
            · have HF := Lib.hid (show rowP (folS h) n (m + 1) = rowP (folS h) n m ++ [((n : Int), (m : Int))] by rw [rowP, if_pos (show folS h n m = true from hf)])
              go_wp2_with fail
              refine (mustFollow_c A c h (n : Int) (m : Int) _ _ (H.out.grow R'.out.2) hl).mono ?_
              rintro e w3 ⟨rfl, hd⟩
              have Z := Lib.hid (And.intro (R'.out.1.grow (hd.below _)) (R'.out.2.trans (hd.below _)))
              clear hd
              go_wp2_with (at_builtin; go_loud (refine wpList_ap1g slP2 rfl (.tmp 22) (.tmp 26) rfl (w3.alloc (.cells #[.int .i64 (n : Int), .int .i64 (m : Int)] 3)) _ ⟨w3.heap.size, n, m⟩ rfl w w.heap.size _ L' rfl (Z.out.1.own.alloc _) _ (by simp) rfl (by omega) (Z.out.2.alloc Z.out.2.size _) (Nat.le_refl _) ?_); intro v1 w4 ho1 hb1 hg1 hat1; go_loud (have Y := Lib.hid (And.intro (Z.out.1.push Z.out.2.size ho1 hg1 hat1) hb1)); clear ho1 hb1 hg1 hat1)
              go_roundw
              case rel =>
                have YL := Lib.hid (show prs (L' ++ [⟨w3.heap.size, (n : Int), (m : Int)⟩]) = confP (folS h) n ++ rowP (folS h) n (m + 1) by rw [prs_snoc, hL'.out, HF.out, List.append_assoc])
                first
                  | exact ⟨m + 1, _, by omega, by go_num, Y.out.1, YL, Y.out.2⟩
                  | ((repeat apply Exists.intro); exact ⟨⟨m + 1, _, by omega, by go_num, Y.out.1, YL, Y.out.2⟩, rfl⟩)
              case measure => simp [intOf]; omega
            · rw [Bool.not_eq_true] at hf
              have HF := Lib.hid (show rowP (folS h) n (m + 1) = rowP (folS h) n m by rw [rowP, show folS h n m = false from hf]; simp)
              go_wp2_with fail
              refine (mustFollow_c A c h (n : Int) (m : Int) _ _ (H.out.grow R'.out.2) hl).mono ?_
              rintro e w3 ⟨rfl, hd⟩
              have Z := Lib.hid (And.intro (R'.out.1.grow (hd.below _)) (R'.out.2.trans (hd.below _)))
              clear hd
              go_wp2_with fail
              go_roundw
              case rel => exact ⟨m + 1, L', by omega, by go_num, Z.out.1, Lib.hid (by rw [hL'.out, HF.out]), Z.out.2⟩
              case measure => simp [intOf]; omega
          · obtain rfl : m = 4 := by omega
            go_wp2_with fail
            go_roundw
            case rel => exact ⟨n + 1, L', by omega, by go_num, R'.out.1, Lib.hid (by rw [hL'.out, confP]), R'.out.2⟩
            case measure => simp [intOf]; omega
      · obtain rfl : n = 4 := by omega
        go_wp2_with fail
        go_ret
        exact ⟨_, L, rfl, R.out.1, by rw [F.out]; exact hL.out, R.out.2⟩
  · rw [Bool.not_eq_true] at hv
    have F := Lib.hid (show confF h = [] by rw [confF, hv]; rfl)
    go_enter Try.func36, Try.ntmps36
    go_wp2_with fail
    refine (spec_validAccesses_c A c h _ (H.out.grow B0.out) hl).mono ?_
    rintro e w1 ⟨rfl, rfl⟩
    go_wp2_with fail
    go_ret
    exact ⟨_, [], rfl, Prs.nil, by rw [F.out]; rfl, B0.out⟩
end Go.Proofs.Ytbbnibjnjmmmnaa
