/-
  Conflicts: the contract of the program's four sets.
-/
import Derived.Test.YtbbnibjnjmmmnaaConf2
import Derived.RegionTactic
import Derived.ChangeAlike
namespace Go.Proofs.Ytbbnibjnjmmmnaa
open Go.RowKit

theorem behC_step {h : List Acc} {i j f g : Nat} (hi : i < j) (hj : j < h.length) (ha : h[i].who = (f : Int)) (hb : h[j].who = (g : Int)) (hf : f < 4) (hg : g < 4) (hne : (h[i].who == h[j].who) = false) (hc : ((h[i].node == h[j].node) && (h[i].write || h[j].write)) = true) :
    (behC (folN h j i)).setIfInBounds f (.int .i64 (Go.bits .or .i64 (bit4 (folN h j i f)) (pw g))) = behC (folN h j (i + 1)) := by
  refine behC_set _ _ f hf _ ?_ fun a' ha' hne' => ?_
  · rw [bit4_or _ _ hg]
    refine bit4_congr fun k hk => ?_
    rw [folN_hit h hi hj ha hb hne hc f k]; simp
  · refine bit4_congr fun k hk => ?_
    rw [folN_hit h hi hj ha hb hne hc a' k]; simp [hne']
theorem behC_miss {h : List Acc} {i j : Nat} (hi : i < j) (hj : j < h.length) (hc : (!(h[i].who == h[j].who) && ((h[i].node == h[j].node) && (h[i].write || h[j].write))) = false) : behC (folN h j (i + 1)) = behC (folN h j i) :=
  behC_congr fun a b _ _ => folN_miss h hi hj hc a b
theorem behC_next (h : List Acc) (j : Nat) : behC (folN h j j) = behC (folN h (j + 1) 0) := behC_congr fun a b _ _ => folT_next h j a b
theorem behC_all (h : List Acc) : behC (folN h h.length 0) = behC (folS h) := behC_congr fun a b _ _ => folT_all h a b
theorem behC_zero (h : List Acc) : behC (folN h 0 0) = #[.int .i64 0, .int .i64 0, .int .i64 0, .int .i64 0] := by
  have : ∀ a, bit4 (folN h 0 0 a) = 0 := fun a => by
    exact (bit4_congr (q := fun _ => false) fun k _ => folT_zero h a k).trans rfl
  simp [behC, this]

theorem wrap_pw {g : Nat} (hg : g < 4) : wrap64 (2 ^ g) = pw g := by
  rcases (by omega : g = 0 ∨ g = 1 ∨ g = 2 ∨ g = 3) with rfl | rfl | rfl | rfl <;> kernel_rfl

set_option maxRecDepth 100000 in
set_option maxHeartbeats 8000000 in
theorem behindOf_c (A : Option Addr) (c : Nat) (h : List Acc) (w : World) (hr : Rd accE w w.heap.size A h) (hl : h.length ≤ 1048576) (hc : h.length ≤ c) (hv : h.all accOk = true) :
    Calls Try.prog 65 #[.slice A h.length c] w fun e w' => e = .returned (.agg (behC (folS h))) ∧ Below w.heap.size w w' := by
  have H := Lib.hid (And.intro hr hv)
  have Z0 := Lib.hid (behC_zero h)
  clear hr hv
  go_enter Try.func65, Try.ntmps65
  go_wp2_with fail
  go_loopw [10] (fun j wr => ∃ n : Nat, n ≤ h.length ∧ j = .int .i64 n ∧ Blk wr (w.heap.size + 1) 72 (behC (folN h n 0)) ∧ Blk wr w.heap.size 72 #[.int .i64 0, .int .i64 0, .int .i64 0, .int .i64 0] ∧ Below w.heap.size w wr) (fun j _ => h.length - (intOf j).toNat)
  case atStart =>
    refine ⟨0, by omega, rfl, ?_, ((Blk.new w _ _).alloc _), ((Below.refl _ _).alloc (Nat.le_refl _) _).alloc (by simp) _⟩
    rw [Z0.out]
    have := Blk.new (w.alloc (.cells #[.int .i64 0, .int .i64 0, .int .i64 0, .int .i64 0] 72)) 72 #[.int .i64 0, .int .i64 0, .int .i64 0, .int .i64 0]
    simpa using this
  case round =>
    obtain ⟨n, hn, rfl, hblk, hres, hbel⟩ := hrel
    by_cases hlt : n < h.length
    · obtain ⟨b, o, rfl, hb, d0, d1, d2⟩ := (H.out.1.below hbel (Nat.le_refl _)).acc hlt
      have R := Lib.hid (And.intro hblk (And.intro hres hbel))
      have hgl := hblk.lt
      clear hblk hres hbel
      go_wp2_with fail
      go_loopw [19] (fun i wr' => ∃ m : Nat, m ≤ n ∧ i = .int .i64 m ∧ Blk wr' (w.heap.size + 1) 72 (behC (folN h n m)) ∧ Blk wr' w.heap.size 72 #[.int .i64 0, .int .i64 0, .int .i64 0, .int .i64 0] ∧ Blk wr' wr.heap.size 46 #[.int .i64 h[n].who, .int .i64 h[n].node, .bool h[n].write] ∧ Below w.heap.size w wr') (fun i _ => n - (intOf i).toNat)
      case atStart => exact ⟨0, by omega, rfl, R.out.1.alloc _, R.out.2.1.alloc _, Blk.new _ _ _, R.out.2.2.alloc R.out.2.2.size _⟩
      case round =>
        obtain ⟨m, hm, rfl, hblk, hres, hy, hbel⟩ := hrel
        by_cases hlt2 : m < n
        · obtain ⟨b', o', e', hb', c0, c1, c2⟩ := (H.out.1.below hbel (Nat.le_refl _)).acc (k := m) (by omega)
          cases e'
          obtain ⟨g, hg, hg4⟩ : ∃ g : Nat, h[n].who = (g : Int) ∧ g < 4 := by
            have := accOk_range H.out.2 (List.getElem_mem hlt)
            exact ⟨h[n].who.toNat, by omega, by omega⟩
          obtain ⟨f, hf, hf4⟩ : ∃ f : Nat, (h[m]'(by omega)).who = (f : Int) ∧ f < 4 := by
            have := accOk_range H.out.2 (List.getElem_mem (show m < h.length by omega))
            exact ⟨(h[m]'(by omega)).who.toNat, by omega, by omega⟩
          have y0 := cell_of_row _ _ 0 _ _ _ hy
          have y1 := cell_of_row _ _ 1 _ _ _ hy
          have y2 := cell_of_row _ _ 2 _ _ _ hy
          have z0 := (cell_of_row _ _ f _ _ _ hblk).trans (behC_at (folN h n m) f hf4)
          have q0 := hblk.free f
          have hyl := hy.lt
          have zA : ∀ ob, _ := fun ob => (cell_of_row _ _ f _ _ _ (hblk.alloc ob)).trans (behC_at (folN h n m) f hf4)
          have qA : ∀ ob, _ := fun ob => (hblk.alloc ob).free f
          have yA : ∀ ob, _ := fun ob => cell_of_row _ _ 0 _ _ _ (hy.alloc ob)
          have XA := Lib.hid (And.intro zA (And.intro qA yA))
          clear zA qA yA
          have Q := Lib.hid (And.intro hblk (And.intro hres (And.intro hy hbel)))
          have hW : Hid ((!((h[m]'(by omega)).who == h[n].who) && (((h[m]'(by omega)).node == h[n].node) && ((h[m]'(by omega)).write || h[n].write))) = false → behC (folN h n (m + 1)) = behC (folN h n m)) := Lib.hid (behC_miss hlt2 hlt)
          have hS : Hid (((h[m]'(by omega)).who == h[n].who) = false → (((h[m]'(by omega)).node == h[n].node) && ((h[m]'(by omega)).write || h[n].write)) = true → (behC (folN h n m)).setIfInBounds f (.int .i64 (Go.bits .or .i64 (bit4 (folN h n m f)) (pw g))) = behC (folN h n (m + 1))) := Lib.hid (behC_step hlt2 hlt hf hg hf4 hg4)
          clear hblk hres hy hbel
          generalize hX : h[m]'(by omega) = X at *
          generalize hY : h[n] = Y at *
          have HX := Lib.hid (And.intro hX hY)
          clear hX hY
          rw [hf] at c0 hW hS
          rw [hg] at d0 y0 hW hS Q
          have y0' := y0.trans (rfl : _ = some (Value.int .i64 (g : Int)))
          have y1' := y1.trans (rfl : _ = some (Value.int .i64 Y.node))
          have y2' := y2.trans (rfl : _ = some (Value.bool Y.write))
          clear hf y0 y1 y2
          have HG := Lib.hid hg
          clear hg
          have hmiss : (((f : Int) == (g : Int)) = true) ∨ (((f : Int) == (g : Int)) = false ∧ (X.node == Y.node) = false) ∨ (((f : Int) == (g : Int)) = false ∧ (X.node == Y.node) = true ∧ X.write = false ∧ Y.write = false) ∨
              (((f : Int) == (g : Int)) = false ∧ (X.node == Y.node) = true ∧ (X.write = true ∨ (X.write = false ∧ Y.write = true))) := by
            cases h1 : ((f : Int) == (g : Int)) <;> cases h2 : (X.node == Y.node) <;> cases h3 : X.write <;> cases h4 : Y.write <;> simp
          rcases hmiss with e1 | ⟨e1, e2⟩ | ⟨e1, e2, e3, e4⟩ | ⟨e1, e2, e3⟩
          · have F := Lib.hid (hW.out (by simp [e1]))
            have e1' : ((f : Int) != (g : Int)) = false := by rw [bne, e1]; rfl
            clear hW hS
            go_wp2_with fail
            go_roundw
            case rel => exact ⟨m + 1, by omega, by go_num, by rw [F.out]; exact Q.out.1.alloc _, Q.out.2.1.alloc _, by rw [HG.out]; exact Q.out.2.2.1.alloc _, Q.out.2.2.2.alloc Q.out.2.2.2.size _⟩
            case measure => simp [intOf]; omega
          · have F := Lib.hid (hW.out (by simp [e2]))
            have e1' : ((f : Int) != (g : Int)) = true := by rw [bne, e1]; rfl
            clear hW hS
            go_wp2_with fail
            go_roundw
            case rel => exact ⟨m + 1, by omega, by go_num, by rw [F.out]; exact Q.out.1.alloc _, Q.out.2.1.alloc _, by rw [HG.out]; exact Q.out.2.2.1.alloc _, Q.out.2.2.2.alloc Q.out.2.2.2.size _⟩
            case measure => simp [intOf]; omega
          · have F := Lib.hid (hW.out (by simp [e3, e4]))
            have e1' : ((f : Int) != (g : Int)) = true := by rw [bne, e1]; rfl
            clear hW hS
            go_wp2_with fail
            go_roundw
            case rel => exact ⟨m + 1, by omega, by go_num, by rw [F.out]; exact Q.out.1.alloc _, Q.out.2.1.alloc _, by rw [HG.out]; exact Q.out.2.2.1.alloc _, Q.out.2.2.2.alloc Q.out.2.2.2.size _⟩
            case measure => simp [intOf]; omega
          · have F := Lib.hid (hS.out e1 (by rw [e2]; rcases e3 with e3 | ⟨e3, e4⟩ <;> simp [*]))
            have e1' : ((f : Int) != (g : Int)) = true := by rw [bne, e1]; rfl
            clear hW hS
            obtain ⟨zA, qA, yA0⟩ := XA.out
            have yA := fun ob => (yA0 ob).trans (rfl : _ = some (Value.int .i64 Y.who))
            rw [HG.out] at yA
            clear yA0 z0 q0
            rcases e3 with e3 | ⟨e3, e4⟩
            all_goals
              go_wp2_with fail
              go_region
              go_wp2_with fail
              go_roundw
              case rel =>
                have e5 := (Q.out.1.alloc (.cells #[.int .i64 (f : Int), .int .i64 X.node, .bool X.write] 46)).set f (.int .i64 (Go.bits .or .i64 (bit4 (folN h n m f)) (wrap64 (2 ^ g))))
                rw [wrap_pw hg4, F.out, e3] at e5
                rw [wrap_pw hg4]
                exact ⟨m + 1, by omega, by go_num, e5, (Q.out.2.1.alloc _).other (Nat.ne_of_lt (Nat.lt_succ_self _)) _ _, by rw [HG.out]; exact (Q.out.2.2.1.alloc _).other (Nat.ne_of_gt hgl) _ _, ((Q.out.2.2.2.alloc Q.out.2.2.2.size _).setCell (Nat.le_succ _) _).drew⟩
              case measure => simp [intOf]; omega
        · have em : m = n := by omega
          subst em
          have Q := Lib.hid (And.intro hblk (And.intro hres hbel))
          clear hblk hres hy hbel
          go_wp2_with fail
          go_roundw
          case rel => exact ⟨m + 1, by omega, by go_num, by rw [← behC_next]; exact Q.out.1, Q.out.2.1, Q.out.2.2⟩
          case measure => simp [intOf]; omega
    · have en : n = h.length := by omega
      subst en
      rw [behC_all] at hblk
      have z0 := (cell_of_row _ _ 0 _ _ _ hblk).trans (behC_at (folS h) 0 (by omega))
      have z1 := (cell_of_row _ _ 1 _ _ _ hblk).trans (behC_at (folS h) 1 (by omega))
      have z2 := (cell_of_row _ _ 2 _ _ _ hblk).trans (behC_at (folS h) 2 (by omega))
      have z3 := (cell_of_row _ _ 3 _ _ _ hblk).trans (behC_at (folS h) 3 (by omega))
      obtain ⟨q0, r0⟩ := hres.cell 0 (by simp)
      obtain ⟨q1, r1⟩ := hres.cell 1 (by simp)
      obtain ⟨q2, r2⟩ := hres.cell 2 (by simp)
      obtain ⟨q3, r3⟩ := hres.cell 3 (by simp)
      have f0 := hres.free 0
      have f1 := hres.free 1
      have f2 := hres.free 2
      have f3 := hres.free 3
      have R := Lib.hid (And.intro hblk (And.intro hres hbel))
      clear hblk hres hbel
      go_wp2_with fail
      exact bodyPost_ret (v := .agg (behC (folS h))) (by simp [results, Try.results65, go_sem, behC, r0, r1, r2, r3]) rfl ⟨rfl, ((((R.out.2.2.setCell (Nat.le_refl _) _).setCell (Nat.le_refl _) _).setCell (Nat.le_refl _) _).setCell (Nat.le_refl _) _)⟩
end Go.Proofs.Ytbbnibjnjmmmnaa
