/-
  Who waits for whom: the contract of the reference's queue.
-/
import Derived.Test.YtbbnibjnjmmmnaaPWait
namespace Go.Proofs.Ytbbnibjnjmmmnaa
open Go.RowKit

theorem addOf_at {wl : List Wt} {a who : Int} {S : List Int} {k : Nat} (hk : k < (who :: S).length) (h : k < (who :: addOf wl a S).length) : (who :: addOf wl a S)[k] = (who :: S)[k] := by
  obtain ⟨r, hr⟩ := addOf_prefix (wl := wl) (a := a) (S := S)
  have : (who :: addOf wl a S)[k]? = (who :: S)[k]? := by rw [← hr, ← List.cons_append, List.getElem?_append_left hk]
  rw [List.getElem?_eq_getElem h, List.getElem?_eq_getElem hk] at this
  exact Option.some.inj this
theorem BInv.fin {wl : List Wt} {who : Int} {i : Nat} {S : List Int} (h : BInv wl who i S) (hi : (who :: S).length ≤ i) : markU (fun t => hasI S (t : Int)) 4 = waitsL wl who := by
  unfold waitsL
  refine markU_congr fun t _ => ?_
  have := h.all hi (t : Int)
  rw [Bool.eq_iff_iff, hasI_mem, this]
  simp

theorem addOf_len {wl : List Wt} {who : Int} {i j : Nat} {S : List Int} {a : Int} (hv : wl.all wtOk = true) (h : BInv wl who i S) : (addOf (wl.take j) a S).length ≤ 4 :=
  four_le (addOf_nodup h.nodup) fun t ht => by
    rcases addOf_from ht with h1 | ⟨x, hx, _, rfl⟩
    · exact h.range t h1
    · exact wtOk_range hv (List.mem_of_mem_take hx)
theorem addOne_yes {a : Int} {S : List Int} {x : Wt} (h1 : (x.who == a) = true) (h2 : hasI S x.wfor = false) : addOne a S x = S ++ [x.wfor] := by
  unfold addOne; rw [if_pos (by rw [h1, h2]; rfl)]
theorem addOne_no {a : Int} {S : List Int} {x : Wt} (h : (x.who == a) = false ∨ hasI S x.wfor = true) : addOne a S x = S := by
  unfold addOne; rw [if_neg (by rcases h with h | h <;> simp [h])]

theorem own_newg {α : Type} {E : Enc α} {e : TypeId} (w : World) (g : Nat) (hg : g = w.heap.size) (cs : Array Value) (l : List α) (base : Nat) (hb : base ≤ w.heap.size) (hl : l.length ≤ 100000000) (hcs : cs.toList = E.flat l) : Own E e (w.alloc (.cells cs e)) base (.slice (some ⟨g, 0, none⟩) l.length l.length) l := by
  subst hg; exact own_new w cs l base hb hl hcs

set_option maxRecDepth 100000 in
set_option maxHeartbeats 8000000 in
theorem spec_reached_c (A : Option Addr) (c : Nat) (wl : List Wt) (who : Int) (w : World) (h : Rd wtE w w.heap.size A wl) (hl : wl.length ≤ 12) (hv : wl.all wtOk = true) :
    Calls Try.prog 71 #[.slice A wl.length c, .int .i64 who] w fun e w' => ∃ v, e = .returned v ∧ Own inE 3 w' w.heap.size v (waitsL wl who) ∧ Below w.heap.size w w' := by
  have H := Lib.hid (And.intro h hv)
  clear h hv
  go_enter Try.func71, Try.ntmps71
  go_wp2_with fail
  go_loopw [5, 6, 7] (fun vs vn i wr => ∃ (k : Nat) (S N : List Int), i = .int .i64 k ∧ k ≤ N.length ∧ Hid (N = who :: S) ∧ BInv wl who k S ∧ Own inE 3 wr w.heap.size vs S ∧ Own inE 3 wr w.heap.size vn N ∧ Apart vs vn ∧ Below w.heap.size w wr) (fun _ _ i _ => 5 - (intOf i).toNat)
  case atStart =>
    refine ⟨0, [], [who], rfl, by simp, Lib.hid rfl, BInv.start wl who, (own_new w #[] [] w.heap.size (Nat.le_refl _) (by simp) rfl).alloc _, own_newg (w.alloc (.cells #[] 3)) (w.heap.size + 1) (by simp) #[.int .i64 who] [who] w.heap.size (by simp) (by simp) rfl, ?_, ((Below.refl _ _).alloc (Nat.le_refl _) _).alloc (by simp) _⟩
    right
    simp [Value.ownBlock]
  case round =>
    obtain ⟨k, S, N, rfl, hk, hN, hinv, hos, hon, hap, hbel⟩ := hrel
    have hS := hinv.len
    have hNl : N.length ≤ 5 := by rw [hN.out]; simp; omega
    obtain ⟨As, cs, rfl, _, _, _⟩ := hos.form
    obtain ⟨An, cn, rfl, _, _, _⟩ := hon.form
    have R := Lib.hid (And.intro hinv (And.intro hos (And.intro hon (And.intro hap hbel))))
    clear hinv hos hon hap hbel
    have hstep : ∀ (N : List Int) (h : k < N.length), N = who :: S → BInv wl who (k + 1) (addOf wl N[k] S) := by rintro _ h rfl; exact BInv.step H.out.2 R.out.1 h
    have stepN := hstep
    by_cases hlt : k < N.length
    · have SN := Lib.hid (hstep N hlt hN.out)
      clear hstep stepN
      go_wp2_with fail
      go_loopw [5, 6, 8] (fun vs vn i wr' => ∃ (j : Nat) (S' N' : List Int), i = .int .i64 j ∧ j ≤ wl.length ∧ Hid (S' = addOf (wl.take j) N[k] S) ∧ Hid (N' = who :: S') ∧ Own inE 3 wr' w.heap.size vs S' ∧ Own inE 3 wr' w.heap.size vn N' ∧ Apart vs vn ∧ Below w.heap.size w wr') (fun _ _ i _ => wl.length - (intOf i).toNat)
      case atStart => exact ⟨0, S, N, rfl, by omega, Lib.hid rfl, hN, R.out.2.1, R.out.2.2.1, R.out.2.2.2.1, R.out.2.2.2.2⟩
      case round =>
        obtain ⟨j, S', N', rfl, hj, hS', hN', hos, hon, hap, hbel⟩ := hrel
        obtain ⟨As', cs', rfl, _, _, hrs⟩ := hos.form
        obtain ⟨An', cn', rfl, _, _, hrn⟩ := hon.form
        have hkN : k < N'.length := by
          have h1 := hlt; rw [hN.out] at h1
          rw [hN'.out, hS'.out]
          have := (addOf_prefix (wl := wl.take j) (a := N[k]) (S := S)).length_le
          simp only [List.length_cons] at h1 ⊢; omega
        have hNk : N'[k] = N[k] := by
          have : ∀ (a : Int) (N N' : List Int) (h1 : k < N.length) (h2 : k < N'.length), N = who :: S → N' = who :: addOf (wl.take j) a S → N'[k] = N[k] := by
            rintro a _ _ h1 h2 rfl rfl; exact addOf_at h1 h2
          exact this N[k] N N' hlt hkN hN.out (by rw [hN'.out, hS'.out])
        have hS'l : S'.length ≤ 4 := by rw [hS'.out]; exact addOf_len H.out.2 R.out.1
        have hN'l : N'.length ≤ 5 := by rw [hN'.out]; simp; omega
        have R' := Lib.hid (And.intro hos (And.intro hon (And.intro hap (And.intro hbel hNk))))
        by_cases hj2 : j < wl.length
        · obtain ⟨b, o, rfl, hb, c0, c1⟩ := (H.out.1.below hbel (Nat.le_refl _)).wt hj2
          obtain ⟨bn, on, rfl, hbn, d0⟩ := hrn.int hkN
          rw [hNk] at d0
          have Q := Lib.hid hrs
          have hsn := Lib.hid (addOf_snoc wl N[k] S hj2)
          clear hos hon hap hbel hNk hrs hrn
          by_cases hc : (wl[j].who == N[k]) = true
          · by_cases hh : hasI S' wl[j].wfor = true
            · go_wp2_with fail
              go_quiet ((go_at_call 70; exact isIn_q _ _ _ _ true hh _ _ Q.out (by omega) _))
              go_wp2_with fail
              go_roundw
              case rel => exact ⟨j + 1, S', N', by go_num, by omega, Lib.hid (by rw [hsn.out, ← hS'.out, addOne_no (.inr hh)]), hN', R'.out.1, R'.out.2.1, R'.out.2.2.1, below_drewN R'.out.2.2.2.1 _⟩
              case measure => simp [intOf]; omega
            · rw [Bool.not_eq_true] at hh
              go_wp2_with fail
              go_quiet ((go_at_call 70; exact isIn_q _ _ _ _ false hh _ _ Q.out (by omega) _))
              go_wp2_with (first
                | (at_builtin; refine wpList_ap1d slIn rfl (.tmp 46) (.tmp 52) rfl _ _ _ wl[j].wfor rfl w w.heap.size _ S' rfl R'.out.1 rfl (by omega) R'.out.2.2.2.1 (Nat.le_refl _) ?_; intro v1 w1 ho1 hb1 hg1 hat1; obtain ⟨b2, o2, e2, _, c0', c1'⟩ := (H.out.1.below hb1 (Nat.le_refl _)).wt hj2; cases e2; have Z := Lib.hid (And.intro ho1 (And.intro hb1 (And.intro (R'.out.2.1.kept' hg1 R'.out.2.2.1.symm) (Apart.grown R'.out.2.2.1.symm R'.out.2.1 hat1)))); clear ho1 hb1 hg1 hat1)
                | (at_builtin; refine wpList_ap1 slIn rfl (.tmp 54) (.tmp 60) rfl _ _ wl[j].wfor rfl w w.heap.size _ N' rfl Z.out.2.2.1 rfl (by omega) Z.out.2.1 (Nat.le_refl _) ?_; intro v2 w2 ho2 hb2 hg2 hat2; have Z2 := Lib.hid (And.intro (Z.out.1.kept' hg2 Z.out.2.2.2.symm) (And.intro ho2 (And.intro (Apart.grown Z.out.2.2.2.symm Z.out.1 hat2) hb2))); clear ho2 hb2 hg2 hat2))

              go_roundw
              case rel => exact ⟨j + 1, S' ++ [wl[j].wfor], N' ++ [wl[j].wfor], by go_num, by omega, Lib.hid (by rw [hsn.out, ← hS'.out, addOne_yes hc hh]), Lib.hid (by rw [hN'.out, List.cons_append]), Z2.out.1, Z2.out.2.1, Z2.out.2.2.1, Z2.out.2.2.2⟩
              case measure => simp [intOf]; omega
          · rw [Bool.not_eq_true] at hc
            go_wp2_with fail
            go_quiet (fail)
            go_wp2_with fail
            go_roundw
            case rel => exact ⟨j + 1, S', N', by go_num, by omega, Lib.hid (by rw [hsn.out, ← hS'.out, addOne_no (.inl hc)]), hN', R'.out.1, R'.out.2.1, R'.out.2.2.1, below_drewN R'.out.2.2.2.1 _⟩
            case measure => simp [intOf]; omega
        · have e : j = wl.length := by omega
          subst e
          clear hos hon hap hbel hNk hrs hrn
          go_wp2_with fail
          go_roundw
          case rel => exact ⟨k + 1, S', N', by go_num, by omega, hN', by rw [hS'.out, List.take_length]; exact SN.out, R'.out.1, R'.out.2.1, R'.out.2.2.1, R'.out.2.2.2.1⟩
          case measure => simp [intOf]; omega
    · clear hstep stepN
      have hfin : markU (fun t => hasI S (t : Int)) 4 = waitsL wl who := R.out.1.fin (by rw [← hN.out]; omega)
      have F := Lib.hid hfin
      clear hfin
      go_wp2_with fail
      go_loopw [9, 10] (fun vo ti wr' => ∃ t : Nat, t ≤ 4 ∧ ti = .int .i64 t ∧ Own inE 3 wr' w.heap.size vo (markU (fun t => hasI S (t : Int)) t) ∧ Own inE 3 wr' w.heap.size (.slice As S.length cs) S ∧ Apart (.slice As S.length cs) vo ∧ Below w.heap.size w wr') (fun _ ti _ => 4 - (intOf ti).toNat)
      case atStart =>
        have hb := R.out.2.2.2.2
        refine ⟨0, by omega, rfl, own_new _ #[] [] w.heap.size hb.size (by simp) rfl, R.out.2.1.alloc _, ?_, hb.alloc hb.size _⟩
        exact own_ne (n1 := _) (n2 := _) (fun g hg => (R.out.2.1.lt g hg).2) (fun g hg => by simp [Value.ownBlock] at hg; omega) (Nat.le_refl _)
      case round =>
        obtain ⟨t, ht, rfl, hoo, hos, hap, hbel⟩ := hrel
        obtain ⟨Ao, co, rfl, _, _, _⟩ := hoo.form
        have hrs := hos.rd.1
        have R' := Lib.hid (And.intro hoo (And.intro hos (And.intro hap hbel)))
        have Q := Lib.hid hrs
        clear hoo hos hap hbel hrs
        by_cases hlt2 : t < 4
        · by_cases hh : hasI S (t : Int) = true
          · go_wp2_with (first
              | (go_at_call 70; refine (isIn_c _ _ _ _ _ _ Q.out (by omega)).mono ?_; rintro e w' ⟨rfl, rfl⟩)
              | (at_builtin; refine wpList_ap1 slIn rfl (.tmp 70) (.tmp 72) rfl _ _ (t : Int) rfl w w.heap.size _ (markU (fun t => hasI S (t : Int)) t) rfl R'.out.1 rfl (by have := markU_len (fun t => hasI S (t : Int)) t; omega) R'.out.2.2.2 (Nat.le_refl _) ?_; intro v1 w1 ho1 hb1 hg1 hat1; have Z := Lib.hid (And.intro ho1 (And.intro (R'.out.2.1.kept' hg1 R'.out.2.2.1) (And.intro (Apart.grown R'.out.2.2.1 R'.out.2.1 hat1) hb1))); clear ho1 hb1 hg1 hat1))
            go_roundw
            case rel => exact ⟨t + 1, by omega, by go_num, by rw [markU, if_pos hh]; exact Z.out.1, Z.out.2.1, Z.out.2.2.1, Z.out.2.2.2⟩
            case measure => simp [intOf]; omega
          · rw [Bool.not_eq_true] at hh
            go_wp2_with (go_at_call 70; refine (isIn_c _ _ _ _ _ _ Q.out (by omega)).mono ?_; rintro e w' ⟨rfl, rfl⟩)
            go_roundw
            case rel => exact ⟨t + 1, by omega, by go_num, by rw [markU, hh]; simpa using R'.out.1, R'.out.2.1, R'.out.2.2.1, R'.out.2.2.2⟩
            case measure => simp [intOf]; omega
        · obtain rfl : t = 4 := by omega
          go_wp2_with fail
          go_ret
          exact ⟨_, rfl, by rw [← F.out]; exact R'.out.1, R'.out.2.2.2⟩
end Go.Proofs.Ytbbnibjnjmmmnaa
