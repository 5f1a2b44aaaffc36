/-
  Kids, nodes above others, the meeting of two nodes: the contracts of the reference's and the program's functions.
-/
import Derived.Test.YtjmeeiofoioojaaTr3
namespace Go.Proofs.Ytjmeeiofoioojaa
open Go.RowKit

set_option maxRecDepth 100000 in
set_option maxHeartbeats 1000000 in
theorem isNode_c (A : Option Addr) (c : Nat) (t : List Nd) (a : Int) (w : World) (h : Rd ndE w w.heap.size A t) (hl : t.length ≤ 1048577) (hc : t.length ≤ c) :
    Calls Try.prog 59 #[.slice A t.length c, .int .i64 a] w fun e w' => e = .returned (.bool (nodeB t a)) ∧ Below w.heap.size w w' := by
  have H := Lib.hid h
  clear h
  by_cases ha : atOk t a = true
  · have F := Lib.hid (show nodeB t a = treeOk t by rw [nodeB, ha, Bool.and_true])
    have ha2 : inR a 0 ((t.length : Int) - 1) = true := ha
    clear ha
    go_enter Try.func59, Try.ntmps59
    go_wp2_with (go_at_call 53; refine (within_c _ _ _ _).mono ?_; rintro e w' ⟨rfl, rfl⟩)
    refine (impl_ValidTree_c A c t _ H.out hl hc).mono ?_
    rintro e w1 ⟨rfl, hb⟩
    have B := Lib.hid hb
    clear hb
    go_wp2_with fail
    go_ret
    exact ⟨ret_bool F.out.symm, B.out⟩
  · rw [Bool.not_eq_true] at ha
    have F := Lib.hid (nodeB_out ha)
    have ha2 : inR a 0 ((t.length : Int) - 1) = false := ha
    clear ha
    go_enter Try.func59, Try.ntmps59
    go_wp2_with (go_at_call 53; refine (within_c _ _ _ _).mono ?_; rintro e w' ⟨rfl, rfl⟩)
    go_ret
    exact ⟨ret_bool F.out.symm, Below.refl _ _⟩
theorem nodeB_nat {t : List Nd} {a : Int} (h : nodeB t a = true) : ∃ k : Nat, a = (k : Int) ∧ k < t.length := atOk_nat (nodeB_iff.1 h).2
theorem nodeB_okTo {t : List Nd} {a : Int} (h : nodeB t a = true) : OkTo t t.length := (treeOk_iff.1 (nodeB_iff.1 h).1).1
theorem node_cases (t : List Nd) (a : Int) : (treeOk t = false ∧ nodeB t a = false) ∨ (treeOk t = true ∧ atOk t a = false ∧ nodeB t a = false) ∨ (treeOk t = true ∧ atOk t a = true ∧ nodeB t a = true) := by
  unfold nodeB
  cases treeOk t <;> cases atOk t a <;> simp

theorem impl_ValidTreeL_c (A : Option Addr) (c : Nat) (t : List Nd) (w : World) (h : Rd ndE w w.heap.size A t) (hl : t.length ≤ 1048576) (hc : t.length ≤ c) :
    Calls Try.prog 18 #[.slice A t.length c] w fun e w' => e = .returned (.bool (treeOk t)) ∧ Below w.heap.size w w' := impl_ValidTree_c A c t w h (by omega) hc
set_option maxRecDepth 100000 in
set_option maxHeartbeats 1000000 in
theorem spec_ValidTree_c (A : Option Addr) (c : Nat) (t : List Nd) (w : World) (h : Rd ndE w w.heap.size A t) (hl : t.length ≤ 1048576) (hc : t.length ≤ c) :
    Calls Try.prog 16 #[.slice A t.length c] w fun e w' => e = .returned (.bool (treeOk t)) ∧ Below w.heap.size w w' := by
  have H := Lib.hid h
  clear h
  go_enter Try.func16, Try.ntmps16
  go_wp2_with fail
  refine (validTree_c A c t _ _ H.out (by omega) hc).mono ?_
  rintro e w1 ⟨rfl, hd⟩
  have B := Lib.hid hd
  clear hd
  go_wp2_with fail
  go_ret
  exact ⟨rfl, B.out.below _⟩
set_option maxRecDepth 100000 in
set_option maxHeartbeats 1000000 in
theorem spec_KidOf_c (A : Option Addr) (c : Nat) (t : List Nd) (a : Int) (name : ByteArray) (w : World) (h : Rd ndE w w.heap.size A t) (hl : t.length ≤ 1048576) (_hs : name.size ≤ 1048576) (hc : t.length ≤ c) :
    Calls Try.prog 20 #[.slice A t.length c, .int .i64 a, .string name] w fun e w' => e = .returned (.int .i64 (kidF t a name)) ∧ Below w.heap.size w w' := by
  have H := Lib.hid h
  clear h
  rcases node_cases t a with ⟨h1, h2⟩ | ⟨h1, h3, h2⟩ | ⟨h1, h3, h2⟩
  · have F := Lib.hid (show kidF t a name = -1 by rw [kidF, h2]; rfl)
    have HT := Lib.hid h1
    clear h1 h2
    go_enter Try.func20, Try.ntmps20
    go_wp2_with fail
    refine (validTree_c A c t _ _ H.out (by omega) hc).mono ?_
    rintro e w1 ⟨rfl, hd⟩
    have B := Lib.hid hd
    clear hd
    rw [HT.out]
    go_wp2_with fail
    go_ret
    exact ⟨ret_int F.out.symm, B.out.below _⟩
  · have F := Lib.hid (show kidF t a name = -1 by rw [kidF, h2]; rfl)
    have HT := Lib.hid h1
    have h4 : inR a 0 ((t.length : Int) - 1) = false := h3
    clear h1 h2 h3
    go_enter Try.func20, Try.ntmps20
    go_wp2_with fail
    refine (validTree_c A c t _ _ H.out (by omega) hc).mono ?_
    rintro e w1 ⟨rfl, hd⟩
    have B := Lib.hid hd
    clear hd
    rw [HT.out]
    go_wp2_with (go_at_call 57; refine (inRange_c _ _ _ _).mono ?_; rintro e w' ⟨rfl, rfl⟩)
    go_ret
    exact ⟨ret_int F.out.symm, B.out.below _⟩
  · have F := Lib.hid (show kidF t a name = kidL t a name by rw [kidF, h2]; rfl)
    have K := Lib.hid (show ∀ (hk : 0 < t.length), t[0].par ≠ a from fun hk => by
      have := (nodeB_okTo h2).root hk hk
      have := atOk_iff.1 h3
      omega)
    have HT := Lib.hid h1
    have h4 : inR a 0 ((t.length : Int) - 1) = true := h3
    clear h1 h2 h3
    go_enter Try.func20, Try.ntmps20
    go_wp2_with fail
    refine (validTree_c A c t _ _ H.out (by omega) hc).mono ?_
    rintro e w1 ⟨rfl, hd⟩
    have B := Lib.hid hd
    clear hd
    rw [HT.out]
    go_wp2_with (go_at_call 57; refine (inRange_c _ _ _ _).mono ?_; rintro e w' ⟨rfl, rfl⟩)
    refine (kid_c A c t a name _ _ (H.out.dr B.out) (by omega) K.out).mono ?_
    rintro e w2 ⟨rfl, rfl⟩
    go_wp2_with fail
    go_ret
    exact ⟨ret_int F.out.symm, B.out.below _⟩
set_option maxRecDepth 100000 in
set_option maxHeartbeats 1000000 in
theorem impl_KidOf_c (A : Option Addr) (c : Nat) (t : List Nd) (a : Int) (name : ByteArray) (w : World) (h : Rd ndE w w.heap.size A t) (hl : t.length ≤ 1048576) (_hs : name.size ≤ 1048576) (hc : t.length ≤ c) :
    Calls Try.prog 21 #[.slice A t.length c, .int .i64 a, .string name] w fun e w' => e = .returned (.int .i64 (kidF t a name)) ∧ Below w.heap.size w w' := by
  have H := Lib.hid h
  clear h
  by_cases h2 : nodeB t a = true
  · have F := Lib.hid (show kidF t a name = kidL t a name by rw [kidF, h2]; rfl)
    have HB := Lib.hid h2
    clear h2
    go_enter Try.func21, Try.ntmps21
    go_wp2_with fail
    refine (isNode_c A c t a _ H.out (by omega) hc).mono ?_
    rintro e w1 ⟨rfl, hb⟩
    have B := Lib.hid hb
    clear hb
    rw [HB.out]
    go_wp2_with fail
    refine (kidIn_c A c t a name _ (H.out.grow B.out) (by omega)).mono ?_
    rintro e w2 ⟨rfl, hb⟩
    have B2 := Lib.hid (B.out.trans (hb.mono B.out.size))
    clear hb
    go_wp2_with fail
    go_ret
    exact ⟨ret_int F.out.symm, B2.out⟩
  · rw [Bool.not_eq_true] at h2
    have F := Lib.hid (show kidF t a name = -1 by rw [kidF, h2]; rfl)
    have HB := Lib.hid h2
    clear h2
    go_enter Try.func21, Try.ntmps21
    go_wp2_with fail
    refine (isNode_c A c t a _ H.out (by omega) hc).mono ?_
    rintro e w1 ⟨rfl, hb⟩
    have B := Lib.hid hb
    clear hb
    rw [HB.out]
    go_wp2_with fail
    go_ret
    exact ⟨ret_int F.out.symm, B.out⟩
theorem isAbv_no1 {t : List Nd} {a b : Int} (h : nodeB t a = false) : isAbvF t a b = false := by simp [isAbvF, h]
theorem isAbv_no2 {t : List Nd} {a b : Int} (h : nodeB t b = false) : isAbvF t a b = false := by simp [isAbvF, h]
theorem isAbv_yes {t : List Nd} {a b : Nat} (h : nodeB t a = true) (h2 : nodeB t b = true) : isAbvF t a b = abv t a b := by simp [isAbvF, h, h2]
theorem meet_no1 {t : List Nd} {a b : Int} (h : nodeB t a = false) : meetF t a b = -1 := by simp [meetF, h]
theorem meet_no2 {t : List Nd} {a b : Int} (h : nodeB t b = false) : meetF t a b = -1 := by simp [meetF, h]
theorem meet_yes {t : List Nd} {a b : Nat} (h : nodeB t a = true) (h2 : nodeB t b = true) : meetF t a b = (meetN t a b (t.length - 1) : Int) := by simp [meetF, h, h2]
set_option maxRecDepth 100000 in
set_option maxHeartbeats 1000000 in
theorem spec_IsAbove_c (A : Option Addr) (c : Nat) (t : List Nd) (a b : Int) (w : World) (h : Rd ndE w w.heap.size A t) (hl : t.length ≤ 1048576) (hc : t.length ≤ c) :
    Calls Try.prog 22 #[.slice A t.length c, .int .i64 a, .int .i64 b] w fun e w' => e = .returned (.bool (isAbvF t a b)) ∧ Below w.heap.size w w' := by
  have H := Lib.hid h
  clear h
  rcases node_cases t a with ⟨h1, h2⟩ | ⟨h1, h3, h2⟩ | ⟨h1, h3, h2⟩
  · have F := Lib.hid (isAbv_no1 (b := b) h2)
    have HT := Lib.hid h1
    clear h1 h2
    go_enter Try.func22, Try.ntmps22
    go_wp2_with fail
    refine (validTree_c A c t _ _ H.out (by omega) hc).mono ?_
    rintro e w1 ⟨rfl, hd⟩
    have B := Lib.hid hd
    clear hd
    rw [HT.out]
    go_wp2_with fail
    go_ret
    exact ⟨ret_bool F.out.symm, B.out.below _⟩
  · have F := Lib.hid (isAbv_no1 (b := b) h2)
    have HT := Lib.hid h1
    have h4 : inR a 0 ((t.length : Int) - 1) = false := h3
    clear h1 h2 h3
    go_enter Try.func22, Try.ntmps22
    go_wp2_with fail
    refine (validTree_c A c t _ _ H.out (by omega) hc).mono ?_
    rintro e w1 ⟨rfl, hd⟩
    have B := Lib.hid hd
    clear hd
    rw [HT.out]
    go_wp2_with (go_at_call 57; refine (inRange_c _ _ _ _).mono ?_; rintro e w' ⟨rfl, rfl⟩)
    go_ret
    exact ⟨ret_bool F.out.symm, B.out.below _⟩
  · have h4 : inR a 0 ((t.length : Int) - 1) = true := h3
    by_cases hb : atOk t b = true
    · have hb2 : nodeB t b = true := by simp [nodeB, h1, hb]
      have h5 : inR b 0 ((t.length : Int) - 1) = true := hb
      obtain ⟨i, rfl, hi⟩ := atOk_nat h3
      obtain ⟨j, rfl, hj⟩ := atOk_nat hb
      have F := Lib.hid (isAbv_yes h2 hb2)
      have OK := Lib.hid (nodeB_okTo h2)
      have HT := Lib.hid h1
      clear h1 h2 h3 hb hb2
      go_enter Try.func22, Try.ntmps22
      go_wp2_with fail
      refine (validTree_c A c t _ _ H.out (by omega) hc).mono ?_
      rintro e w1 ⟨rfl, hd⟩
      have B := Lib.hid hd
      clear hd
      rw [HT.out]
      go_wp2_with (go_at_call 57; refine (inRange_c _ _ _ _).mono ?_; rintro e w' ⟨rfl, rfl⟩)
      refine (above_c A c t i j _ _ (H.out.dr B.out) (by omega) OK.out hj).mono ?_
      rintro e w2 ⟨rfl, rfl⟩
      go_wp2_with fail
      go_ret
      exact ⟨ret_bool F.out.symm, B.out.below _⟩
    · rw [Bool.not_eq_true] at hb
      have F := Lib.hid (isAbv_no2 (a := a) (nodeB_out hb))
      have h5 : inR b 0 ((t.length : Int) - 1) = false := hb
      have HT := Lib.hid h1
      clear h1 h2 h3 hb
      go_enter Try.func22, Try.ntmps22
      go_wp2_with fail
      refine (validTree_c A c t _ _ H.out (by omega) hc).mono ?_
      rintro e w1 ⟨rfl, hd⟩
      have B := Lib.hid hd
      clear hd
      rw [HT.out]
      go_wp2_with (go_at_call 57; refine (inRange_c _ _ _ _).mono ?_; rintro e w' ⟨rfl, rfl⟩)
      go_ret
      exact ⟨ret_bool F.out.symm, B.out.below _⟩
set_option maxRecDepth 100000 in
set_option maxHeartbeats 1000000 in
theorem impl_IsAbove_c (A : Option Addr) (c : Nat) (t : List Nd) (a b : Int) (w : World) (h : Rd ndE w w.heap.size A t) (hl : t.length ≤ 1048576) (hc : t.length ≤ c) :
    Calls Try.prog 23 #[.slice A t.length c, .int .i64 a, .int .i64 b] w fun e w' => e = .returned (.bool (isAbvF t a b)) ∧ Below w.heap.size w w' := by
  have H := Lib.hid h
  clear h
  by_cases h1 : nodeB t a = true
  · by_cases h2 : nodeB t b = true
    · obtain ⟨i, rfl, hi⟩ := nodeB_nat h1
      obtain ⟨j, rfl, hj⟩ := nodeB_nat h2
      have F := Lib.hid (isAbv_yes h1 h2)
      have OK := Lib.hid (nodeB_okTo h2)
      have HB := Lib.hid (And.intro h1 h2)
      clear h1 h2
      go_enter Try.func23, Try.ntmps23
      go_wp2_with fail
      refine (isNode_c A c t i _ H.out (by omega) hc).mono ?_
      rintro e w1 ⟨rfl, hb⟩
      have B := Lib.hid hb
      clear hb
      rw [HB.out.1]
      go_wp2_with fail
      refine (isNode_c A c t j _ (H.out.grow B.out) (by omega) hc).mono ?_
      rintro e w2 ⟨rfl, hb⟩
      have B2 := Lib.hid (B.out.trans (hb.mono B.out.size))
      clear hb
      rw [HB.out.2]
      go_wp2_with fail
      refine (reaches_c A c t i j _ _ (H.out.grow B2.out) (by omega) OK.out hj).mono ?_
      rintro e w3 ⟨rfl, rfl⟩
      go_wp2_with fail
      go_ret
      exact ⟨ret_bool F.out.symm, B2.out⟩
    · rw [Bool.not_eq_true] at h2
      have F := Lib.hid (isAbv_no2 (a := a) h2)
      have HB := Lib.hid (And.intro h1 h2)
      clear h1 h2
      go_enter Try.func23, Try.ntmps23
      go_wp2_with fail
      refine (isNode_c A c t a _ H.out (by omega) hc).mono ?_
      rintro e w1 ⟨rfl, hb⟩
      have B := Lib.hid hb
      clear hb
      rw [HB.out.1]
      go_wp2_with fail
      refine (isNode_c A c t b _ (H.out.grow B.out) (by omega) hc).mono ?_
      rintro e w2 ⟨rfl, hb⟩
      have B2 := Lib.hid (B.out.trans (hb.mono B.out.size))
      clear hb
      rw [HB.out.2]
      go_wp2_with fail
      go_ret
      exact ⟨ret_bool F.out.symm, B2.out⟩
  · rw [Bool.not_eq_true] at h1
    have F := Lib.hid (isAbv_no1 (b := b) h1)
    have HB := Lib.hid h1
    clear h1
    go_enter Try.func23, Try.ntmps23
    go_wp2_with fail
    refine (isNode_c A c t a _ H.out (by omega) hc).mono ?_
    rintro e w1 ⟨rfl, hb⟩
    have B := Lib.hid hb
    clear hb
    rw [HB.out]
    go_wp2_with fail
    go_ret
    exact ⟨ret_bool F.out.symm, B.out⟩
set_option maxRecDepth 100000 in
set_option maxHeartbeats 1000000 in
theorem spec_Meeting_c (A : Option Addr) (c : Nat) (t : List Nd) (a b : Int) (w : World) (h : Rd ndE w w.heap.size A t) (hl : t.length ≤ 1048576) (hc : t.length ≤ c) :
    Calls Try.prog 41 #[.slice A t.length c, .int .i64 a, .int .i64 b] w fun e w' => e = .returned (.int .i64 (meetF t a b)) ∧ Below w.heap.size w w' := by
  have H := Lib.hid h
  clear h
  rcases node_cases t a with ⟨h1, h2⟩ | ⟨h1, h3, h2⟩ | ⟨h1, h3, h2⟩
  · have F := Lib.hid (meet_no1 (b := b) h2)
    have HT := Lib.hid h1
    clear h1 h2
    go_enter Try.func41, Try.ntmps41
    go_wp2_with fail
    refine (validTree_c A c t _ _ H.out (by omega) hc).mono ?_
    rintro e w1 ⟨rfl, hd⟩
    have B := Lib.hid hd
    clear hd
    rw [HT.out]
    go_wp2_with fail
    go_ret
    exact ⟨ret_int F.out.symm, B.out.below _⟩
  · have F := Lib.hid (meet_no1 (b := b) h2)
    have HT := Lib.hid h1
    have h4 : inR a 0 ((t.length : Int) - 1) = false := h3
    clear h1 h2 h3
    go_enter Try.func41, Try.ntmps41
    go_wp2_with fail
    refine (validTree_c A c t _ _ H.out (by omega) hc).mono ?_
    rintro e w1 ⟨rfl, hd⟩
    have B := Lib.hid hd
    clear hd
    rw [HT.out]
    go_wp2_with (go_at_call 57; refine (inRange_c _ _ _ _).mono ?_; rintro e w' ⟨rfl, rfl⟩)
    go_ret
    exact ⟨ret_int F.out.symm, B.out.below _⟩
  · have h4 : inR a 0 ((t.length : Int) - 1) = true := h3
    by_cases hb : atOk t b = true
    · have hb2 : nodeB t b = true := by simp [nodeB, h1, hb]
      have h5 : inR b 0 ((t.length : Int) - 1) = true := hb
      obtain ⟨i, rfl, hi⟩ := atOk_nat h3
      obtain ⟨j, rfl, hj⟩ := atOk_nat hb
      have F := Lib.hid (meet_yes h2 hb2)
      have OK := Lib.hid (nodeB_okTo h2)
      have HT := Lib.hid h1
      clear h1 h2 h3 hb hb2
      go_enter Try.func41, Try.ntmps41
      go_wp2_with fail
      refine (validTree_c A c t _ _ H.out (by omega) hc).mono ?_
      rintro e w1 ⟨rfl, hd⟩
      have B := Lib.hid hd
      clear hd
      rw [HT.out]
      go_wp2_with (go_at_call 57; refine (inRange_c _ _ _ _).mono ?_; rintro e w' ⟨rfl, rfl⟩)
      clear h4 h5
      go_loop [1] (fun cv => ∃ k : Nat, cv = .int .i64 k ∧ Hid (MeetTo t i j k)) (fun cv => (intOf cv).toNat)
      case atStart => exact ⟨i, rfl, Lib.hid (MeetTo.start OK.out hi)⟩
      case round =>
        obtain ⟨k, rfl, hm⟩ := hrel
        have hk : k < t.length := hm.out.1
        obtain ⟨bb, o, rfl, hb, c0, c1, c2⟩ := (H.out.dr B.out).nd hk
        by_cases hab : abv t k j = true
        · have F2 := Lib.hid (show meetF t i j = k by rw [F.out, hm.out.stop hab])
          have HA := Lib.hid hab
          clear hab
          go_wp2_with fail
          refine (above_c _ c t k j _ _ (H.out.dr B.out) (by omega) OK.out hj).mono ?_
          rintro e w2 ⟨rfl, rfl⟩
          rw [HA.out]
          go_wp2_with fail
          go_ret
          exact ⟨ret_int F2.out.symm, B.out.below _⟩
        · rw [Bool.not_eq_true] at hab
          have h0 := MeetTo.pos OK.out hj hab
          obtain ⟨p, hp, hpk⟩ := OK.out.parN hk h0
          have F2 := Lib.hid (MeetTo.next OK.out hi hm.out hab hp hpk)
          have HA := Lib.hid hab
          rw [hp] at c0
          clear hab hp
          go_wp2_with fail
          refine (above_c _ c t k j _ _ (H.out.dr B.out) (by omega) OK.out hj).mono ?_
          rintro e w2 ⟨rfl, rfl⟩
          rw [HA.out]
          go_wp2_with fail
          go_round
          case rel => exact ⟨p, rfl, F2⟩
          case measure => simp [intOf]; omega
    · rw [Bool.not_eq_true] at hb
      have F := Lib.hid (meet_no2 (a := a) (nodeB_out hb))
      have h5 : inR b 0 ((t.length : Int) - 1) = false := hb
      have HT := Lib.hid h1
      clear h1 h2 h3 hb
      go_enter Try.func41, Try.ntmps41
      go_wp2_with fail
      refine (validTree_c A c t _ _ H.out (by omega) hc).mono ?_
      rintro e w1 ⟨rfl, hd⟩
      have B := Lib.hid hd
      clear hd
      rw [HT.out]
      go_wp2_with (go_at_call 57; refine (inRange_c _ _ _ _).mono ?_; rintro e w' ⟨rfl, rfl⟩)
      go_ret
      exact ⟨ret_int F.out.symm, B.out.below _⟩
set_option maxRecDepth 100000 in
set_option maxHeartbeats 1000000 in
theorem impl_Meeting_c (A : Option Addr) (c : Nat) (t : List Nd) (a b : Int) (w : World) (h : Rd ndE w w.heap.size A t) (hl : t.length ≤ 1048576) (hc : t.length ≤ c) :
    Calls Try.prog 42 #[.slice A t.length c, .int .i64 a, .int .i64 b] w fun e w' => e = .returned (.int .i64 (meetF t a b)) ∧ Below w.heap.size w w' := by
  have H := Lib.hid h
  clear h
  by_cases h1 : nodeB t a = true
  · by_cases h2 : nodeB t b = true
    · obtain ⟨i, rfl, hi⟩ := nodeB_nat h1
      obtain ⟨j, rfl, hj⟩ := nodeB_nat h2
      have F := Lib.hid (meet_yes h1 h2)
      have OK := Lib.hid (nodeB_okTo h2)
      have HB := Lib.hid (And.intro h1 h2)
      clear h1 h2
      go_enter Try.func42, Try.ntmps42
      go_wp2_with fail
      refine (isNode_c A c t i _ H.out (by omega) hc).mono ?_
      rintro e w1 ⟨rfl, hb⟩
      have B := Lib.hid hb
      clear hb
      rw [HB.out.1]
      go_wp2_with fail
      refine (isNode_c A c t j _ (H.out.grow B.out) (by omega) hc).mono ?_
      rintro e w2 ⟨rfl, hb⟩
      have B2 := Lib.hid (B.out.trans (hb.mono B.out.size))
      clear hb
      rw [HB.out.2]
      go_wp2_with fail
      go_loop [7] (fun nv => ∃ n : Nat, nv = .int .i64 n ∧ n < t.length ∧ Hid (meetN t i j (t.length - 1) = meetN t i j n)) (fun nv => (intOf nv).toNat)
      case atStart => exact ⟨t.length - 1, by congr 1; omega, by omega, Lib.hid rfl⟩
      case round =>
        obtain ⟨n, rfl, hn, hm⟩ := hrel
        by_cases h0 : 0 < n
        · obtain ⟨m, rfl⟩ : ∃ m, n = m + 1 := ⟨n - 1, by omega⟩
          by_cases r1 : abv t (m + 1) i = true
          · by_cases r2 : abv t (m + 1) j = true
            · have F2 := Lib.hid (show meetF t i j = ((m + 1 : Nat) : Int) by rw [F.out, hm.out, meetN, r1, r2]; rfl)
              have HR := Lib.hid (And.intro r1 r2)
              clear r1 r2
              go_wp2_with fail
              refine (reaches_c A c t (m + 1) i _ _ (H.out.grow B2.out) (by omega) OK.out hi).mono ?_
              rintro e w3 ⟨rfl, rfl⟩
              rw [HR.out.1]
              go_wp2_with fail
              refine (reaches_c A c t (m + 1) j _ _ (H.out.grow B2.out) (by omega) OK.out hj).mono ?_
              rintro e w3 ⟨rfl, rfl⟩
              rw [HR.out.2]
              go_wp2_with fail
              go_ret
              exact ⟨ret_int (by rw [F2.out]; simp), B2.out⟩
            · rw [Bool.not_eq_true] at r2
              have F2 := Lib.hid (show meetN t i j (t.length - 1) = meetN t i j m by rw [hm.out, meetN, r1, r2]; rfl)
              have HR := Lib.hid (And.intro r1 r2)
              clear r1 r2
              go_wp2_with fail
              refine (reaches_c A c t (m + 1) i _ _ (H.out.grow B2.out) (by omega) OK.out hi).mono ?_
              rintro e w3 ⟨rfl, rfl⟩
              rw [HR.out.1]
              go_wp2_with fail
              refine (reaches_c A c t (m + 1) j _ _ (H.out.grow B2.out) (by omega) OK.out hj).mono ?_
              rintro e w3 ⟨rfl, rfl⟩
              rw [HR.out.2]
              go_wp2_with fail
              go_round
              case rel => exact ⟨m, by first | rfl | (congr 1; omega), by omega, F2⟩
              case measure => first | (simp [intOf]; done) | (simp [intOf]; omega)
          · rw [Bool.not_eq_true] at r1
            have F2 := Lib.hid (show meetN t i j (t.length - 1) = meetN t i j m by rw [hm.out, meetN, r1]; rfl)
            have HR := Lib.hid r1
            clear r1
            go_wp2_with fail
            refine (reaches_c A c t (m + 1) i _ _ (H.out.grow B2.out) (by omega) OK.out hi).mono ?_
            rintro e w3 ⟨rfl, rfl⟩
            rw [HR.out]
            go_wp2_with fail
            go_round
            case rel => exact ⟨m, by first | rfl | (congr 1; omega), by omega, F2⟩
            case measure => first | (simp [intOf]; done) | (simp [intOf]; omega)
        · have F2 := Lib.hid (show meetF t i j = 0 by
            obtain rfl : n = 0 := by omega
            rw [F.out, hm.out]; rfl)
          go_wp2_with fail
          go_ret
          exact ⟨ret_int F2.out.symm, B2.out⟩
    · rw [Bool.not_eq_true] at h2
      have F := Lib.hid (meet_no2 (a := a) h2)
      have HB := Lib.hid (And.intro h1 h2)
      clear h1 h2
      go_enter Try.func42, Try.ntmps42
      go_wp2_with fail
      refine (isNode_c A c t a _ H.out (by omega) hc).mono ?_
      rintro e w1 ⟨rfl, hb⟩
      have B := Lib.hid hb
      clear hb
      rw [HB.out.1]
      go_wp2_with fail
      refine (isNode_c A c t b _ (H.out.grow B.out) (by omega) hc).mono ?_
      rintro e w2 ⟨rfl, hb⟩
      have B2 := Lib.hid (B.out.trans (hb.mono B.out.size))
      clear hb
      rw [HB.out.2]
      go_wp2_with fail
      go_ret
      exact ⟨ret_int F.out.symm, B2.out⟩
  · rw [Bool.not_eq_true] at h1
    have F := Lib.hid (meet_no1 (b := b) h1)
    have HB := Lib.hid h1
    clear h1
    go_enter Try.func42, Try.ntmps42
    go_wp2_with fail
    refine (isNode_c A c t a _ H.out (by omega) hc).mono ?_
    rintro e w1 ⟨rfl, hb⟩
    have B := Lib.hid hb
    clear hb
    rw [HB.out]
    go_wp2_with fail
    go_ret
    exact ⟨ret_int F.out.symm, B.out⟩
end Go.Proofs.Ytjmeeiofoioojaa
