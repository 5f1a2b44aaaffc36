/-
  The law FnValidWaitsLess: valid waits without any one of them are valid.
-/
import Derived.Test.YtbbnibjnjmmmnaaDrawWt
import Derived.Deep.RegionLaw
namespace Go.Proofs.Ytbbnibjnjmmmnaa
open Go.RowKit
theorem step_ap {α : Type} {E : Enc α} {P : Program} {t e : TypeId} {z : Value} {bytes : Nat} (T : SlT P E t e z bytes) {ops : Array Oper} {o : Oper} {a : Act} {K : Act → World → Prop} {Q : Exit → Act → World → Prop} {Z : Prop} (hgd : o.guard = none) (s x : Operand)
    (hop : o.op = .call { callee := .builtin .append, args := #[s, x], argTypes := #[t, t] })
    (w : World) (base : Nat) (v : Value) (l : List α) (hs : a.eval s = v) (ho : Own E e w base v l) (B : Nat) (A : Option Addr) (n c : Nat) (m : List α) (hn : n = m.length) (hx : a.eval x = .slice A n c) (hr : Rd E w B A m)
    (hlen : l.length + m.length ≤ 100000000) (hbase : base ≤ w.heap.size)
    (h : ∀ v' w', Own E e w' base v' (l ++ m) → w.grownBy w' v.ownBlock → (v'.ownBlock = v.ownBlock ∨ v'.ownBlock = some w.heap.size) → K (a.put o.dst v') w') :
    if Region.wanted o (yielded ops a.tmps) = true then Oper.wp P o a w K Q else Z := by
  subst hn
  have hw : Region.wanted o (yielded ops a.tmps) = true := by simp [Region.wanted, hgd]
  rw [if_pos hw]
  obtain ⟨v', w', hrun, h2, h3, h4⟩ := run_ap T w o.type base v l ho B A c m hr hlen hbase
  unfold Oper.wp execOp
  simp only [hop, resolve, invoke, builtin, Sem.run_bind, Sem.run_pure, Result.andThen_ok, List.map_toArray, List.map_cons, List.map_nil, hs, hx, hrun]
  exact h v' w' h2 h3 h4
theorem less_ok {ws : List Wt} (h : validWt ws = true) (k : Nat) : validWt (([] ++ ws.take k) ++ ws.drop (k + 1)) = true := by
  simp only [validWt, Bool.and_eq_true, decide_eq_true_eq] at h ⊢
  refine ⟨?_, ?_⟩
  · rw [List.all_eq_true] at h ⊢
    intro x hx
    simp only [List.nil_append, List.mem_append] at hx
    rcases hx with hx | hx
    · exact h.1 x (List.mem_of_mem_take hx)
    · exact h.1 x (List.mem_of_mem_drop hx)
  · have := h.2
    simp only [List.nil_append, List.length_append, List.length_take, List.length_drop]
    omega
set_option maxRecDepth 100000 in
set_option maxHeartbeats 1000000 in
theorem FnValidWaitsLess_c (A : Option Addr) (c : Nat) (l : List Int) (w : World) (h : BytesAt w w.heap.size A l) (hl : l.length ≤ c ∧ c ≤ maxLen) :
    Calls Try.prog 8 #[.slice A l.length c] w fun e w' => e = .returned (.bool true) ∧ Below w.heap.size w w' := by
  have hm := hl.2
  unfold maxLen at hm
  have H := Lib.hid (And.intro h hl)
  clear h hl
  by_cases hlong : 1048576 < l.length
  · go_enter Try.func8, Try.ntmps8
    go_wp2
    go_ret
    exact ⟨rfl, Below.refl _ _⟩
  go_enter Try.func8, Try.ntmps8
  go_wp2_with fail
  refine (DrawValidWaits_c A c l w H.out.1 H.out.2.1).mono ?_
  rintro e w1 ⟨v, ws, rfl, ho, hlen, hb⟩
  obtain ⟨A1, c1, rfl, hc1, hcm1, hr1⟩ := ho.form
  have X := Lib.hid (And.intro hr1 hb)
  clear ho hr1 hb
  go_wp2_with fail
  refine (impl_ValidWaits_c A1 c1 ws _ X.out.1 (by omega)).mono ?_
  rintro e w2 ⟨rfl, hb⟩
  have Y := Lib.hid (And.intro (X.out.1.grow hb) (X.out.2.trans (hb.mono X.out.2.size)))
  clear hb
  obtain ⟨bv, hbv⟩ : ∃ bv, validWt ws = bv := ⟨_, rfl⟩
  have HB := Lib.hid hbv
  rw [hbv]
  clear hbv
  go_wp2_with fail
  refine (spec_ValidWaits_c A1 c1 ws _ Y.out.1 (by omega)).mono ?_
  rintro e w3 ⟨rfl, hb⟩
  have Z := Lib.hid (And.intro (Y.out.1.grow hb) (Y.out.2.trans (hb.mono Y.out.2.size)))
  clear hb
  rw [HB.out]
  have again : ∀ (W : World), Below w.heap.size w W → Rd wtE W W.heap.size A1 ws → Calls Try.prog 28 #[.slice A1 ws.length c1] W fun e w' => e = .returned (.bool bv) ∧ Below w.heap.size w w' := fun W hW hR =>
    (spec_ValidWaits_c A1 c1 ws W hR (by omega)).mono fun e w' h => ⟨by rw [← HB.out]; exact h.1, hW.trans (h.2.mono hW.size)⟩
  have AG := Lib.hid again
  clear again
  by_cases hne : 0 < ws.length ∧ bv = true
  · obtain ⟨hpos, rfl⟩ := hne
    obtain ⟨b, o, rfl, _, _, _⟩ := Z.out.1.wt hpos
    have hpi : ((ws.length : Int) == 0) = false := by rw [beq_eq_false_iff_ne]; omega
    obtain ⟨k, hk, hkl⟩ : ∃ k : Nat, (l.length : Int) % (ws.length : Int) = (k : Int) ∧ k < ws.length := ⟨l.length % ws.length, by omega, Nat.mod_lt _ hpos⟩
    unfold maxLen at hcm1
    obtain ⟨A2, hA2, hr2⟩ : ∃ A2 : Addr, (if c1 = k + 1 then some (⟨b, o, none⟩ : Addr) else some ⟨b, o + (k + 1) * 2, none⟩) = some A2 ∧ Hid (Rd wtE w3 w3.heap.size (some A2) (ws.drop (k + 1))) := by
      have h1 := Z.out.1.drop (k + 1) c1 (by omega) hc1
      by_cases h : c1 = k + 1
      · exact ⟨_, by rw [if_pos h], Lib.hid (by rw [if_pos h] at h1; exact h1)⟩
      · exact ⟨_, by rw [if_neg h], Lib.hid (by rw [if_neg h] at h1; simpa [Addr.add_lit, wtE] using h1)⟩
    have hr1 := Lib.hid (Z.out.1.take k)
    have N := Lib.hid (show Own wtE 39 (w3.drew.alloc (.cells #[] 39)) w3.heap.size (.slice (some ⟨w3.heap.size, 0, none⟩) 0 0) [] from own_new (E := wtE) (e := 39) w3.drew #[] [] w3.heap.size (Nat.le_refl _) (by simp) rfl)
    have B0 := Lib.hid (show Below w3.heap.size w3 (w3.drew.alloc (.cells #[] 39)) from (Below.refl w3.heap.size w3).drew.alloc (Nat.le_refl _) _)
    obtain ⟨L1, hL1⟩ : ∃ L1, [] ++ ws.take k = L1 := ⟨_, rfl⟩
    obtain ⟨L2, hL2⟩ : ∃ L2, L1 ++ ws.drop (k + 1) = L2 := ⟨_, rfl⟩
    have LO := Lib.hid (show validWt L2 = true by rw [← hL2, ← hL1]; exact less_ok HB.out k)
    have LE := Lib.hid (And.intro hL1 hL2)
    have HL1 : L1.length = k := by rw [← hL1, List.nil_append, List.length_take]; omega
    have HL2 : L2.length ≤ 17 := by rw [← hL2, List.length_append, HL1, List.length_drop]; omega
    clear hL1 hL2
    have hl1 : (ws.take k).length = k := by rw [List.length_take]; omega
    have hl2 : (ws.drop (k + 1)).length = ws.length - (k + 1) := by rw [List.length_drop]
    have LN := Lib.hid (And.intro hl1 (And.intro hl2 (And.intro HL1 HL2)))
    clear hl1 hl2 HL1 HL2
    have hwr : IntKind.i64.wrap ((k : Int) + 1) = (k : Int) + 1 := by rw [IntKind.wrap_i64]; omega
    have hp0 : (0 : Int) ≤ (k : Int) + 1 := by omega
    have hp1 : (k : Int) + 1 ≤ (ws.length : Int) := by omega
    have hp2 : ((k : Int) + 1).toNat = k + 1 := by omega
    have hp3 : (k : Int) ≤ (c1 : Int) := by omega
    have hp4 : k ≤ c1 := by omega
    go_wp2_with fail
    rw [hk]
    go_region_law (first
      | (refine step_ap slWt rfl (.tmp 35) (.tmp 38) rfl (w3.drew.alloc (.cells #[] 39)) w3.heap.size _ [] rfl N.out _ (some ⟨b, o, none⟩) k c1 (ws.take k) LN.out.1.symm (by rfl) (hr1.out.below B0.out (Nat.le_refl _)) (by rw [LN.out.1]; simp; omega) B0.out.size ?_; intro v1 w4 ho1 hg1 hat1; rw [LE.out.1] at ho1; have P1 := Lib.hid (And.intro ho1 (below_own B0.out N.out hg1 B0.out.size)); clear ho1 hg1 hat1)
      | (refine step_ap slWt rfl (.tmp 39) (.tmp 43) rfl w4 w3.heap.size v1 _ rfl P1.out.1 _ (some A2) (ws.length - (k + 1)) (c1 - (k + 1)) (ws.drop (k + 1)) LN.out.2.1.symm rfl (hr2.out.below P1.out.2 (Nat.le_refl _)) (by rw [LN.out.2.2.1, LN.out.2.1]; omega) P1.out.2.size ?_; intro v2 w5 ho2 hg2 hat2; rw [LE.out.2] at ho2; have P2 := Lib.hid (And.intro ho2 (below_own P1.out.2 P1.out.1 hg2 P1.out.2.size)); clear ho2 hg2 hat2; obtain ⟨Av, cv, rfl, _, _, hrv⟩ := P2.out.1.form; have RV := Lib.hid hrv; clear hrv)
      | (go_simp; go_at_call 27; refine (impl_ValidWaits_c none 0 [] w6 (.inl rfl) (by simp)).mono ?_; rintro e w7 ⟨rfl, hb7⟩; have P4 := Lib.hid (P3.out.trans (hb7.mono P3.out.size)); clear hb7; rw [show validWt ([] : List Wt) = true from rfl])
      | (go_simp; go_at_call 27; refine (impl_ValidWaits_c Av cv L2 w5 RV.out (Nat.le_trans LN.out.2.2.2 (by omega))).mono ?_; rintro e w6 ⟨rfl, hb6⟩; have P3 := Lib.hid (P2.out.2.trans (hb6.mono P2.out.2.size)); clear hb6; rw [LO.out]))
    go_wp2_with fail
    all_goals
      go_ret
      exact ⟨rfl, Z.out.2.trans (P4.out.mono Z.out.2.size)⟩
  · have hne2 : bv = false ∨ (bv = true ∧ ws.length = 0) := by cases bv <;> simp_all
    rcases hne2 with rfl | ⟨rfl, h0⟩
    · go_wp2_with fail
      refine (AG.out _ Z.out.2 Z.out.1).mono ?_
      rintro e w4 ⟨rfl, hb⟩
      have Q := Lib.hid hb
      clear hb
      go_wp2_with fail
      go_ret
      exact ⟨rfl, Q.out⟩
    · obtain rfl : ws = [] := List.eq_nil_of_length_eq_zero h0
      go_wp2_with fail
      refine (AG.out _ Z.out.2 Z.out.1).mono ?_
      rintro e w4 ⟨rfl, hb⟩
      have Q := Lib.hid hb
      clear hb
      go_wp2_with fail
      go_ret
      exact ⟨rfl, Q.out⟩
end Go.Proofs.Ytbbnibjnjmmmnaa
