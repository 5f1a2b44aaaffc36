/-
  A tree with another value, or with a node more; a node's path: the contracts of the reference's and the program's functions.
-/
import Derived.Test.YtjmeeiofoioojaaTr4
import Derived.Test.YtjmeeiofoioojaaMem4
import Derived.Test.YtjmeeiofoioojaaClNd
import Derived.Test.YtjmeeiofoioojaaTNd3
namespace Go.Proofs.Ytjmeeiofoioojaa
open Go.RowKit

theorem set_no {t : List Nd} {a v : Int} (h : setB t a v = false) : setR t a v = [] := by simp [setR, h]
theorem set_yes {t : List Nd} {k : Nat} {v : Int} (hk : k < t.length) (h : setB t k v = true) : setR t k v = t.set k { t[k] with val := v } := by
  rw [setR, if_pos h, Int.toNat_natCast, setV_of hk]

set_option maxRecDepth 100000 in
set_option maxHeartbeats 1000000 in
theorem spec_SetValue_c (A : Option Addr) (c : Nat) (t : List Nd) (a v : Int) (w : World) (h : Rd ndE w w.heap.size A t) (hl : t.length ≤ 1048576) (hc : t.length ≤ c) :
    Calls Try.prog 30 #[.slice A t.length c, .int .i64 a, .int .i64 v] w fun e w' => ∃ u, e = .returned (.tuple #[u, .bool (setB t a v)]) ∧ Own ndE 57 w' w.heap.size u (setR t a v) ∧ Below w.heap.size w w' := by
  have H := Lib.hid h
  clear h
  rcases node_cases t a with ⟨h1, h2⟩ | ⟨h1, h3, h2⟩ | ⟨h1, h3, h2⟩
  · have F := Lib.hid (show setB t a v = false by simp [setB, h2])
    have HT := Lib.hid h1
    clear h1 h2
    go_enter Try.func30, Try.ntmps30
    go_wp2_with fail
    refine (validTree_c A c t _ _ H.out (by omega) hc).mono ?_
    rintro e w1 ⟨rfl, hd⟩
    have B := Lib.hid hd
    clear hd
    rw [HT.out]
    go_wp2_with fail
    go_ret2
    rw [F.out, set_no F.out]
    exact ⟨_, rfl, Own.nil, B.out.below _⟩
  · have F := Lib.hid (show setB t a v = false by simp [setB, h2])
    have HT := Lib.hid h1
    have h4 : inR a 0 ((t.length : Int) - 1) = false := h3
    clear h1 h2 h3
    go_enter Try.func30, Try.ntmps30
    go_wp2_with fail
    refine (validTree_c A c t _ _ H.out (by omega) hc).mono ?_
    rintro e w1 ⟨rfl, hd⟩
    have B := Lib.hid hd
    clear hd
    rw [HT.out]
    go_wp2_with (go_at_call 57; refine (inRange_c _ _ _ _).mono ?_; rintro e w' ⟨rfl, rfl⟩)
    go_ret2
    rw [F.out, set_no F.out]
    exact ⟨_, rfl, Own.nil, B.out.below _⟩
  · have h4 : inR a 0 ((t.length : Int) - 1) = true := h3
    by_cases hv : inR v (-1000) 1000 = true
    · obtain ⟨k, rfl, hk⟩ := atOk_nat h3
      have F := Lib.hid (show setB t k v = true by simp [setB, h2, hv])
      have HT := Lib.hid h1
      clear h1 h2 h3
      go_enter Try.func30, Try.ntmps30
      go_wp2_with fail
      refine (validTree_c A c t _ _ H.out (by omega) hc).mono ?_
      rintro e w1 ⟨rfl, hd⟩
      have B := Lib.hid (hd.below w.heap.size)
      clear hd
      have N := Lib.hid (own_new (E := ndE) (e := 57) w1 #[] [] w.heap.size B.out.size (by simp) rfl)
      have B0 := Lib.hid (B.out.alloc B.out.size (.cells #[] 57))
      rw [HT.out]
      go_wp2_with (first | (go_at_call 57; refine (inRange_c _ _ _ _).mono ?_; rintro e w' ⟨rfl, rfl⟩) | (at_builtin; refine wpList_ap slNd rfl (.tmp 25) (.tmp 26) rfl w.heap.size _ [] rfl N.out _ A c t rfl (H.out.grow B0.out) (by simp; omega) (by have := B.out.size; simp; omega) ?_; intro v2 w2 ho1 hg1 hat1; rw [List.nil_append] at ho1; have Z := Lib.hid (And.intro ho1 (below_own B0.out N.out hg1 (by have := B.out.size; simp; omega))); clear ho1 hg1 hat1; obtain ⟨g, c', cs, rfl, hbg, hblk, hlc, hcell, hput⟩ := Z.out.1.at hk; have d2 : w2.cell? ⟨g, k * 3 + 2, none⟩ = some (.int .i64 t[k].val) := hcell 2 _ rfl; have f2 := hblk.free (k * 3 + 2); have P := Lib.hid hput; clear hput hcell hblk))
      go_ret2
      rw [F.out, set_yes hk F.out]
      exact ⟨_, rfl, P.out 2 { t[k] with val := v } _ (by show 2 < 3; omega) rfl, Z.out.2.setCell hbg _⟩
    · rw [Bool.not_eq_true] at hv
      have F := Lib.hid (show setB t a v = false by simp [setB, hv])
      have HT := Lib.hid h1
      clear h1 h2 h3
      go_enter Try.func30, Try.ntmps30
      go_wp2_with fail
      refine (validTree_c A c t _ _ H.out (by omega) hc).mono ?_
      rintro e w1 ⟨rfl, hd⟩
      have B := Lib.hid hd
      clear hd
      rw [HT.out]
      go_wp2_with (go_at_call 57; refine (inRange_c _ _ _ _).mono ?_; rintro e w' ⟨rfl, rfl⟩)
      go_ret2
      rw [F.out, set_no F.out]
      exact ⟨_, rfl, Own.nil, B.out.below _⟩
set_option maxRecDepth 100000 in
set_option maxHeartbeats 1000000 in
theorem impl_SetValue_c (A : Option Addr) (c : Nat) (t : List Nd) (a v : Int) (w : World) (h : Rd ndE w w.heap.size A t) (hl : t.length ≤ 1048576) (hc : t.length ≤ c) :
    Calls Try.prog 31 #[.slice A t.length c, .int .i64 a, .int .i64 v] w fun e w' => ∃ u, e = .returned (.tuple #[u, .bool (setB t a v)]) ∧ Own ndE 57 w' w.heap.size u (setR t a v) ∧ Below w.heap.size w w' := by
  have H := Lib.hid h
  clear h
  by_cases h2 : nodeB t a = true
  · by_cases hv : inR v (-1000) 1000 = true
    · obtain ⟨k, rfl, hk⟩ := nodeB_nat h2
      have F := Lib.hid (show setB t k v = true by simp [setB, h2, hv])
      have HB := Lib.hid h2
      clear h2
      go_enter Try.func31, Try.ntmps31
      go_wp2_with fail
      refine (isNode_c A c t k _ H.out (by omega) hc).mono ?_
      rintro e w1 ⟨rfl, hb⟩
      have B := Lib.hid hb
      clear hb
      rw [HB.out]
      go_wp2_with (go_at_call 53; refine (within_c _ _ _ _).mono ?_; rintro e w' ⟨rfl, rfl⟩)
      refine (cloneNd_c A c t _ (H.out.grow B.out) hl).mono ?_
      rintro e w2 ⟨v2, rfl, ho, hb⟩
      have Z := Lib.hid (And.intro (ho.base B.out.size) (B.out.trans (hb.mono B.out.size)))
      clear ho hb
      obtain ⟨g, c', cs, rfl, hbg, hblk, hlc, hcell, hput⟩ := Z.out.1.at hk
      have d2 : w2.cell? ⟨g, k * 3 + 2, none⟩ = some (.int .i64 t[k].val) := hcell 2 _ rfl
      have f2 := hblk.free (k * 3 + 2)
      have P := Lib.hid hput
      clear hput hcell hblk
      go_wp2_with fail
      go_ret2
      rw [F.out, set_yes hk F.out]
      exact ⟨_, rfl, P.out 2 { t[k] with val := v } _ (by show 2 < 3; omega) rfl, Z.out.2.setCell hbg _⟩
    · rw [Bool.not_eq_true] at hv
      have F := Lib.hid (show setB t a v = false by simp [setB, hv])
      have HB := Lib.hid h2
      clear h2
      go_enter Try.func31, Try.ntmps31
      go_wp2_with fail
      refine (isNode_c A c t a _ H.out (by omega) hc).mono ?_
      rintro e w1 ⟨rfl, hb⟩
      have B := Lib.hid hb
      clear hb
      rw [HB.out]
      go_wp2_with (go_at_call 53; refine (within_c _ _ _ _).mono ?_; rintro e w' ⟨rfl, rfl⟩)
      go_ret2
      rw [F.out, set_no F.out]
      exact ⟨_, rfl, Own.nil, B.out⟩
  · rw [Bool.not_eq_true] at h2
    have F := Lib.hid (show setB t a v = false by simp [setB, h2])
    have HB := Lib.hid h2
    clear h2
    go_enter Try.func31, Try.ntmps31
    go_wp2_with fail
    refine (isNode_c A c t a _ H.out (by omega) hc).mono ?_
    rintro e w1 ⟨rfl, hb⟩
    have B := Lib.hid hb
    clear hb
    rw [HB.out]
    go_wp2_with fail
    go_ret2
    rw [F.out, set_no F.out]
    exact ⟨_, rfl, Own.nil, B.out⟩

def ndOf (par : Int) (name : ByteArray) (val : Int) (hs : name.size ≤ 1048576) : Nd := ⟨par, name, val, by unfold maxLen; omega⟩
theorem add_no {t : List Nd} {x : Nd} (h : addB t x = false) : addR t x = [] ∧ addI t x = -1 := by simp [addR, addI, h]
theorem add_yes {t : List Nd} {x : Nd} (h : addB t x = true) : addR t x = t ++ [x] ∧ addI t x = t.length := by simp [addR, addI, h]
set_option maxRecDepth 100000 in
set_option maxHeartbeats 600000 in
theorem spec_AddNode_c (A : Option Addr) (c : Nat) (t : List Nd) (par : Int) (name : ByteArray) (val : Int) (w : World) (h : Rd ndE w w.heap.size A t) (hl : t.length ≤ 1048576) (hs : name.size ≤ 1048576) (hc : t.length ≤ c) :
    Calls Try.prog 24 #[.slice A t.length c, .int .i64 par, .string name, .int .i64 val] w fun e w' => ∃ u, e = .returned (.tuple #[u, .int .i64 (addI t (ndOf par name val hs)), .bool (addB t (ndOf par name val hs))]) ∧ Own ndE 57 w' w.heap.size u (addR t (ndOf par name val hs)) ∧ Below w.heap.size w w' := by
  have H := Lib.hid h
  clear h
  by_cases h1 : treeOk t = true
  · by_cases h12 : t.length = 12
    · have F := Lib.hid (addB_full (t := t) (x := ndOf par name val hs) h12)
      have h12b : ((t.length : Int) == 12) = true := by rw [h12]; rfl
      have HT := Lib.hid h1
      clear h1 h12
      go_enter Try.func24, Try.ntmps24
      go_wp2_with fail
      refine (validTree_c A c t _ _ H.out (by omega) hc).mono ?_
      rintro e w1 ⟨rfl, hd⟩
      have B := Lib.hid hd
      clear hd
      rw [HT.out]
      go_wp2_with fail
      go_ret3
      rw [F.out, (add_no F.out).1, (add_no F.out).2]
      exact ⟨_, rfl, Own.nil, B.out.below _⟩
    · have h12b : ((t.length : Int) == 12) = false := by rw [beq_eq_false_iff_ne]; omega
      obtain ⟨x, hx⟩ : ∃ x, ndOf par name val hs = x := ⟨_, rfl⟩
      have X := Lib.hid (show #[Value.int .i64 par, .string name, .int .i64 val].toList = ndE.cells x by rw [← hx]; rfl)
      rw [hx]
      clear hx
      obtain ⟨L, hL⟩ : ∃ L, t ++ [x] = L := ⟨_, rfl⟩
      obtain ⟨bv, hbv⟩ : ∃ bv, treeOk L = bv := ⟨_, rfl⟩
      have F := Lib.hid (show addB t x = bv by rw [addB, h1, hL, hbv]; rfl)
      have HV := Lib.hid hbv
      have HT := Lib.hid h1
      clear h1 h12 hbv
      have FL : L.length ≤ 1048577 := by rw [← hL]; simp; omega
      have HL := Lib.hid hL
      clear hL
      cases bv
      · go_enter Try.func24, Try.ntmps24
        go_wp2_with fail
        refine (validTree_c A c t _ _ H.out (by omega) hc).mono ?_
        rintro e w1 ⟨rfl, hd⟩
        have B := Lib.hid (hd.below w.heap.size)
        clear hd
        have N := Lib.hid (own_new (E := ndE) (e := 57) w1 #[] [] w.heap.size B.out.size (by simp) rfl)
        have B0 := Lib.hid (B.out.alloc B.out.size (.cells #[] 57))
        rw [HT.out]
        go_wp2_with (first | (at_builtin; refine wpList_ap1 slNd rfl (.tmp 22) (.tmp 27) rfl _ _ x X.out w w.heap.size _ t rfl Z.out.1 rfl (by omega) Z.out.2 (Nat.le_refl _) ?_; intro v3 w3 ho3 hb3 hg3 hat3; rw [HL.out] at ho3; have Y := Lib.hid (And.intro ho3 hb3); clear ho3 hb3 hg3 hat3; obtain ⟨Ay, cy, rfl, hlcy, _, _⟩ := Y.out.1.form; have LC := Lib.hid hlcy; clear hlcy) | (at_builtin; refine wpList_ap slNd rfl (.tmp 20) (.tmp 21) rfl w.heap.size _ [] rfl N.out _ A c t rfl (H.out.grow B0.out) (by simp; omega) (by have := B.out.size; simp; omega) ?_; intro v2 w2 ho1 hg1 hat1; rw [List.nil_append] at ho1; have Z := Lib.hid (And.intro ho1 (below_own B0.out N.out hg1 (by have := B.out.size; simp; omega))); clear ho1 hg1 hat1; obtain ⟨Az, cz, rfl, _, _, _⟩ := Z.out.1.form))
        refine (validTree_c _ _ L _ _ Y.out.1.rd.1 FL LC.out).mono ?_
        rintro e w4 ⟨rfl, hd⟩
        have B4 := Lib.hid hd
        clear hd
        rw [HV.out]
        go_wp2_with fail
        go_ret3
        rw [F.out, (add_no F.out).1, (add_no F.out).2]
        exact ⟨_, rfl, Own.nil, Y.out.2.trans (B4.out.below _)⟩
      · go_enter Try.func24, Try.ntmps24
        go_wp2_with fail
        refine (validTree_c A c t _ _ H.out (by omega) hc).mono ?_
        rintro e w1 ⟨rfl, hd⟩
        have B := Lib.hid (hd.below w.heap.size)
        clear hd
        have N := Lib.hid (own_new (E := ndE) (e := 57) w1 #[] [] w.heap.size B.out.size (by simp) rfl)
        have B0 := Lib.hid (B.out.alloc B.out.size (.cells #[] 57))
        rw [HT.out]
        go_wp2_with (first | (at_builtin; refine wpList_ap1 slNd rfl (.tmp 22) (.tmp 27) rfl _ _ x X.out w w.heap.size _ t rfl Z.out.1 rfl (by omega) Z.out.2 (Nat.le_refl _) ?_; intro v3 w3 ho3 hb3 hg3 hat3; rw [HL.out] at ho3; have Y := Lib.hid (And.intro ho3 hb3); clear ho3 hb3 hg3 hat3; obtain ⟨Ay, cy, rfl, hlcy, _, _⟩ := Y.out.1.form; have LC := Lib.hid hlcy; clear hlcy) | (at_builtin; refine wpList_ap slNd rfl (.tmp 20) (.tmp 21) rfl w.heap.size _ [] rfl N.out _ A c t rfl (H.out.grow B0.out) (by simp; omega) (by have := B.out.size; simp; omega) ?_; intro v2 w2 ho1 hg1 hat1; rw [List.nil_append] at ho1; have Z := Lib.hid (And.intro ho1 (below_own B0.out N.out hg1 (by have := B.out.size; simp; omega))); clear ho1 hg1 hat1; obtain ⟨Az, cz, rfl, _, _, _⟩ := Z.out.1.form))
        refine (validTree_c _ _ L _ _ Y.out.1.rd.1 FL LC.out).mono ?_
        rintro e w4 ⟨rfl, hd⟩
        have B4 := Lib.hid hd
        clear hd
        rw [HV.out]
        go_wp2_with fail
        go_ret3
        rw [F.out, (add_yes F.out).1, (add_yes F.out).2, HL.out]
        exact ⟨_, rfl, Y.out.1.grow (B4.out.below _), Y.out.2.trans (B4.out.below _)⟩
  · rw [Bool.not_eq_true] at h1
    have F := Lib.hid (show addB t (ndOf par name val hs) = false by simp [addB, h1])
    have HT := Lib.hid h1
    clear h1
    go_enter Try.func24, Try.ntmps24
    go_wp2_with fail
    refine (validTree_c A c t _ _ H.out (by omega) hc).mono ?_
    rintro e w1 ⟨rfl, hd⟩
    have B := Lib.hid hd
    clear hd
    rw [HT.out]
    go_wp2_with fail
    go_ret3
    rw [F.out, (add_no F.out).1, (add_no F.out).2]
    exact ⟨_, rfl, Own.nil, B.out.below _⟩
set_option maxRecDepth 100000 in
set_option maxHeartbeats 600000 in
theorem impl_AddNode_c (A : Option Addr) (c : Nat) (t : List Nd) (par : Int) (name : ByteArray) (val : Int) (w : World) (h : Rd ndE w w.heap.size A t) (hl : t.length ≤ 1048576) (hs : name.size ≤ 1048576) (hc : t.length ≤ c) :
    Calls Try.prog 25 #[.slice A t.length c, .int .i64 par, .string name, .int .i64 val] w fun e w' => ∃ u, e = .returned (.tuple #[u, .int .i64 (addI t (ndOf par name val hs)), .bool (addB t (ndOf par name val hs))]) ∧ Own ndE 57 w' w.heap.size u (addR t (ndOf par name val hs)) ∧ Below w.heap.size w w' := by
  have H := Lib.hid h
  clear h
  by_cases h1 : treeOk t = true
  · obtain ⟨x, hx⟩ : ∃ x, ndOf par name val hs = x := ⟨_, rfl⟩
    have X := Lib.hid (show #[Value.int .i64 par, .string name, .int .i64 val].toList = ndE.cells x by rw [← hx]; rfl)
    rw [hx]
    clear hx
    obtain ⟨L, hL⟩ : ∃ L, t ++ [x] = L := ⟨_, rfl⟩
    obtain ⟨bv, hbv⟩ : ∃ bv, treeOk L = bv := ⟨_, rfl⟩
    have F := Lib.hid (show addB t x = bv by rw [addB, h1, hL, hbv]; rfl)
    have HV := Lib.hid hbv
    have HT := Lib.hid h1
    clear h1 hbv
    have FL : L.length ≤ 1048577 := by rw [← hL]; simp; omega
    have HL := Lib.hid hL
    clear hL
    cases bv
    · go_enter Try.func25, Try.ntmps25
      go_wp2_with fail
      refine (impl_ValidTree_c A c t _ H.out (by omega) hc).mono ?_
      rintro e w1 ⟨rfl, hb⟩
      have B := Lib.hid hb
      clear hb
      rw [HT.out]
      go_wp2_with fail
      refine (cloneNd_c A c t _ (H.out.grow B.out) hl).mono ?_
      rintro e w2 ⟨v2, rfl, ho, hb⟩
      have Z := Lib.hid (And.intro (ho.base B.out.size) (B.out.trans (hb.mono B.out.size)))
      clear ho hb
      obtain ⟨Az, cz, rfl, _, _, _⟩ := Z.out.1.form
      go_wp2_with (at_builtin; refine wpList_ap1 slNd rfl (.tmp 16) (.tmp 21) rfl _ _ x X.out w w.heap.size _ t rfl Z.out.1 rfl (by omega) Z.out.2 (Nat.le_refl _) ?_; intro v3 w3 ho3 hb3 hg3 hat3; rw [HL.out] at ho3; have Y := Lib.hid (And.intro ho3 hb3); clear ho3 hb3 hg3 hat3; obtain ⟨Ay, cy, rfl, hlcy, _, _⟩ := Y.out.1.form; have LC := Lib.hid hlcy; clear hlcy)
      refine (impl_ValidTree_c _ _ L _ Y.out.1.rd.1 FL LC.out).mono ?_
      rintro e w4 ⟨rfl, hb⟩
      have B4 := Lib.hid (And.intro (Y.out.1.grow hb) (Y.out.2.trans (hb.mono Y.out.2.size)))
      clear hb
      rw [HV.out]
      go_wp2_with fail
      go_ret3
      rw [F.out, (add_no F.out).1, (add_no F.out).2]
      exact ⟨_, rfl, Own.nil, B4.out.2⟩
    · go_enter Try.func25, Try.ntmps25
      go_wp2_with fail
      refine (impl_ValidTree_c A c t _ H.out (by omega) hc).mono ?_
      rintro e w1 ⟨rfl, hb⟩
      have B := Lib.hid hb
      clear hb
      rw [HT.out]
      go_wp2_with fail
      refine (cloneNd_c A c t _ (H.out.grow B.out) hl).mono ?_
      rintro e w2 ⟨v2, rfl, ho, hb⟩
      have Z := Lib.hid (And.intro (ho.base B.out.size) (B.out.trans (hb.mono B.out.size)))
      clear ho hb
      obtain ⟨Az, cz, rfl, _, _, _⟩ := Z.out.1.form
      go_wp2_with (at_builtin; refine wpList_ap1 slNd rfl (.tmp 16) (.tmp 21) rfl _ _ x X.out w w.heap.size _ t rfl Z.out.1 rfl (by omega) Z.out.2 (Nat.le_refl _) ?_; intro v3 w3 ho3 hb3 hg3 hat3; rw [HL.out] at ho3; have Y := Lib.hid (And.intro ho3 hb3); clear ho3 hb3 hg3 hat3; obtain ⟨Ay, cy, rfl, hlcy, _, _⟩ := Y.out.1.form; have LC := Lib.hid hlcy; clear hlcy)
      refine (impl_ValidTree_c _ _ L _ Y.out.1.rd.1 FL LC.out).mono ?_
      rintro e w4 ⟨rfl, hb⟩
      have B4 := Lib.hid (And.intro (Y.out.1.grow hb) (Y.out.2.trans (hb.mono Y.out.2.size)))
      clear hb
      rw [HV.out]
      go_wp2_with fail
      go_ret3
      rw [F.out, (add_yes F.out).1, (add_yes F.out).2, HL.out]
      exact ⟨_, rfl, B4.out.1, B4.out.2⟩
  · rw [Bool.not_eq_true] at h1
    have F := Lib.hid (show addB t (ndOf par name val hs) = false by simp [addB, h1])
    have HT := Lib.hid h1
    clear h1
    go_enter Try.func25, Try.ntmps25
    go_wp2_with fail
    refine (impl_ValidTree_c A c t _ H.out (by omega) hc).mono ?_
    rintro e w1 ⟨rfl, hb⟩
    have B := Lib.hid hb
    clear hb
    rw [HT.out]
    go_wp2_with fail
    go_ret3
    rw [F.out, (add_no F.out).1, (add_no F.out).2]
    exact ⟨_, rfl, Own.nil, B.out⟩
end Go.Proofs.Ytjmeeiofoioojaa
