/-
  May a transaction read or write a node: the contracts of the reference's and the program's functions.
-/
import Derived.Test.YtfgcjdhcnalmmaaDoorTr6a
import Derived.Test.YtfgcjdhcnalmmaaDoorTab2
namespace Go.Proofs.YtfgcjdhcnalmmaaDoor
open Go.RowKit

def onP (p : Int → Bool) (t : List Nd) (l : List Lk) (who : Int) (i : Nat) : Bool := (upI t i).any fun n => p (heldL l who n)
def rdP (h : Int) : Bool := decide (3 ≤ h)
def wrP (h : Int) : Bool := h == 5
noncomputable def mayF (p : Int → Bool) (t : List Nd) (l : List Lk) (who a : Int) : Bool := nodeB t a && tabOk l && onP p t l who a.toNat
theorem onP_zero (p : Int → Bool) (t : List Nd) (l : List Lk) (who : Int) : onP p t l who 0 = p (heldL l who 0) := by simp [onP, upI_zero]
theorem onP_step (p : Int → Bool) {t : List Nd} (l : List Lk) (who : Int) (h : OkTo t t.length) {i q : Nat} (hi : i < t.length) (h0 : 0 < i) (hp : t[i].par = (q : Int)) : onP p t l who i = (p (heldL l who i) || onP p t l who q) := by
  simp [onP, upI_step h hi h0 hp]
theorem onP_path (p : Int → Bool) (t : List Nd) (l : List Lk) (who : Int) (i : Nat) : onP p t l who i = (pathL t i).any fun n => p (heldL l who n) := by
  rw [pathL_up, onP, List.any_reverse]
theorem strM_rd {h : Int} (hm : modeB h = true) : strM h 3 = rdP h := by rcases modeB_cases hm with rfl | rfl | rfl | rfl | rfl | rfl <;> rfl
theorem strM_wr {h : Int} (hm : modeB h = true) : strM h 5 = wrP h := by rcases modeB_cases hm with rfl | rfl | rfl | rfl | rfl | rfl <;> rfl
theorem onP_congr {p q : Int → Bool} {l : List Lk} (hl : tabOk l = true) (h : ∀ m, modeB m = true → p m = q m) (t : List Nd) (who : Int) (i : Nat) : onP p t l who i = onP q t l who i := by
  unfold onP
  congr 1
  funext n
  exact h _ (heldL_mode (tabOk_iff.1 hl).1 who n)
theorem mayF_congr {p q : Int → Bool} (h : ∀ m, modeB m = true → p m = q m) (t : List Nd) (l : List Lk) (who a : Int) : mayF p t l who a = mayF q t l who a := by
  unfold mayF
  cases hl : tabOk l
  · simp
  · rw [onP_congr hl h]

set_option maxRecDepth 100000 in
set_option maxHeartbeats 2000000 in
theorem mayRead_c (A : Option Addr) (c : Nat) (t : List Nd) (A2 : Option Addr) (c2 : Nat) (l : List Lk) (who : Int) (k : Nat) (w : World) (h : Rd ndE w w.heap.size A t) (h2 : Rd lkE w w.heap.size A2 l) (hl : t.length ≤ 1048577) (hl2 : l.length ≤ 1048576) (ho : OkTo t t.length) (hk : k < t.length) :
    Calls Tryd.prog 50 #[.slice A t.length c, .slice A2 l.length c2, .int .i64 who, .int .i64 k] w fun e w' => e = .returned (.bool (onP rdP t l who k)) ∧ Below w.heap.size w w' := by
  have H := Lib.hid h2
  have C := Lib.hid (pathTo_c A c t k w h hl ho hk)
  obtain ⟨P, hP⟩ : ∃ P, pathL t k = P := ⟨_, rfl⟩
  have HP : P.length ≤ 5 := by rw [← hP, pathL_up, List.length_reverse]; exact upI_len ho hk
  have F := Lib.hid (show onP rdP t l who k = P.any fun n => rdP (heldL l who n) by rw [← hP]; exact onP_path _ _ _ _ _)
  rw [hP] at C
  clear h h2 hP
  go_enter Tryd.func50, Tryd.ntmps50
  go_wp2_with fail
  refine C.out.mono ?_
  rintro e w1 ⟨u, rfl, ho1, hb1⟩
  obtain ⟨Ao, co, rfl, _, _, hr⟩ := ho1.form
  have R1 := Lib.hid (And.intro hr (And.intro hb1 (H.out.grow hb1)))
  clear ho1 hb1 hr
  go_wp2_with fail
  go_loop [10] (fun i => ∃ j : Nat, j ≤ P.length ∧ i = .int .i64 j ∧ (P.take j).any (fun n => rdP (heldL l who n)) = false) (fun i => P.length - (intOf i).toNat)
  case atStart => exact ⟨0, by omega, rfl, rfl⟩
  case round =>
    obtain ⟨j, hj, rfl, hno⟩ := hrel
    have R := Lib.hid hno
    clear hno
    by_cases hlt : j < P.length
    · obtain ⟨b, o, rfl, hb, c0⟩ := R1.out.1.int hlt
      go_wp2_with fail
      refine (held_c A2 c2 l who P[j] _ _ R1.out.2.2 hl2).mono ?_
      rintro e w' ⟨rfl, rfl⟩
      generalize hq : heldL l who P[j] = q
      have Q := Lib.hid hq
      clear hq
      by_cases hx : 3 ≤ q
      · have X := Lib.hid hx
        go_wp2_with fail
        go_ret
        exact ⟨ret_bool (by rw [F.out, eq_comm, List.any_eq_true]; exact ⟨P[j], List.getElem_mem _, by rw [Q.out]; simp [rdP, X.out]⟩), R1.out.2.1⟩
      · have X := Lib.hid hx
        go_wp2_with fail
        go_round
        case rel => exact ⟨j + 1, by omega, by go_num, by rw [List.take_succ_eq_append_getElem hlt, List.any_append, R.out]; simp only [List.any_cons, List.any_nil, Bool.or_false, Bool.false_or, Q.out]; have := X.out; simp [rdP]; omega⟩
        case measure => simp [intOf]; omega
    · go_wp2_with fail
      go_ret
      exact ⟨ret_bool (by have := R.out; rw [List.take_of_length_le (by omega)] at this; rw [F.out]; exact this.symm), R1.out.2.1⟩
set_option maxRecDepth 100000 in
set_option maxHeartbeats 2000000 in
theorem spec_MayRead_c (A : Option Addr) (c : Nat) (t : List Nd) (A2 : Option Addr) (c2 : Nat) (l : List Lk) (who a : Int) (w : World) (h : Rd ndE w w.heap.size A t) (h2 : Rd lkE w w.heap.size A2 l) (hl : t.length ≤ 1048576) (hl2 : l.length ≤ 1048576) (hc : t.length ≤ c) :
    Calls Tryd.prog 18 #[.slice A t.length c, .slice A2 l.length c2, .int .i64 who, .int .i64 a] w fun e w' => e = .returned (.bool (mayF rdP t l who a)) ∧ Below w.heap.size w w' := by
  have H := Lib.hid h
  have H2 := Lib.hid h2
  clear h h2
  have go0 : ∀ {b1 b2 b3 : Bool}, treeOk t = b1 → tabOk l = b2 → atOk t a = b3 → (b1 && b2 && b3) = false → mayF rdP t l who a = false := by
    rintro b1 b2 b3 rfl rfl rfl hx
    unfold mayF nodeB
    revert hx
    cases treeOk t <;> cases tabOk l <;> cases atOk t a <;> simp
  cases h1 : treeOk t
  · have F := Lib.hid (go0 h1 rfl rfl rfl)
    have HT := Lib.hid h1
    clear h1 go0
    go_enter Tryd.func18, Tryd.ntmps18
    go_wp2_with fail
    refine (validTree_c A c t _ _ H.out (by omega) hc).mono ?_
    rintro e w1 ⟨rfl, hd⟩
    have B := Lib.hid hd
    clear hd
    rw [HT.out]
    go_wp2_with fail
    go_ret
    exact ⟨ret_bool F.out.symm, B.out.below _⟩
  cases h3 : tabOk l
  · have F := Lib.hid (go0 h1 h3 rfl (by simp))
    have HT := Lib.hid h1
    have HT2 := Lib.hid h3
    clear h1 go0 h3
    go_enter Tryd.func18, Tryd.ntmps18
    go_wp2_with fail
    refine (validTree_c A c t _ _ H.out (by omega) hc).mono ?_
    rintro e w1 ⟨rfl, hd⟩
    have B := Lib.hid (hd.below w.heap.size)
    clear hd
    rw [HT.out]
    go_wp2_with fail
    refine (spec_validTable_c A2 c2 l _ _ (H2.out.grow B.out) hl2).mono ?_
    rintro e w2 ⟨rfl, hd⟩
    have B2 := Lib.hid (B.out.trans (hd.below _))
    clear hd
    rw [HT2.out]
    go_wp2_with fail
    go_ret
    exact ⟨ret_bool F.out.symm, B2.out⟩
  cases h4 : atOk t a
  · have F := Lib.hid (go0 h1 h3 h4 (by simp))
    have HT := Lib.hid h1
    have HT2 := Lib.hid h3
    have h5 : inR a 0 ((t.length : Int) - 1) = false := h4
    clear h1 go0 h3 h4
    go_enter Tryd.func18, Tryd.ntmps18
    go_wp2_with fail
    refine (validTree_c A c t _ _ H.out (by omega) hc).mono ?_
    rintro e w1 ⟨rfl, hd⟩
    have B := Lib.hid (hd.below w.heap.size)
    clear hd
    rw [HT.out]
    go_wp2_with fail
    refine (spec_validTable_c A2 c2 l _ _ (H2.out.grow B.out) hl2).mono ?_
    rintro e w2 ⟨rfl, hd⟩
    have B2 := Lib.hid (B.out.trans (hd.below _))
    clear hd
    rw [HT2.out]
    go_wp2_with (go_at_call 49; refine (inRange_c _ _ _ _).mono ?_; rintro e w' ⟨rfl, rfl⟩)
    go_ret
    exact ⟨ret_bool F.out.symm, B2.out⟩
  have hn : nodeB t a = true := by rw [nodeB, h1, h4]; rfl
  obtain ⟨k, rfl, hk⟩ := nodeB_nat hn
  have ok := Lib.hid (nodeB_okTo hn)
  have F := Lib.hid (show mayF rdP t l who k = onP rdP t l who k by rw [mayF, hn, h3]; rfl)
  have HT := Lib.hid h1
  have HT2 := Lib.hid h3
  have h5 : inR k 0 ((t.length : Int) - 1) = true := h4
  clear h1 go0 h3 h4 hn
  go_enter Tryd.func18, Tryd.ntmps18
  go_wp2_with fail
  refine (validTree_c A c t _ _ H.out (by omega) hc).mono ?_
  rintro e w1 ⟨rfl, hd⟩
  have B := Lib.hid (hd.below w.heap.size)
  clear hd
  rw [HT.out]
  go_wp2_with fail
  refine (spec_validTable_c A2 c2 l _ _ (H2.out.grow B.out) hl2).mono ?_
  rintro e w2 ⟨rfl, hd⟩
  have B2 := Lib.hid (B.out.trans (hd.below _))
  clear hd
  rw [HT2.out]
  go_wp2_with (go_at_call 49; refine (inRange_c _ _ _ _).mono ?_; rintro e w' ⟨rfl, rfl⟩)
  refine (mayRead_c A c t A2 c2 l who k _ (H.out.grow B2.out) (H2.out.grow B2.out) (by omega) hl2 ok.out hk).mono ?_
  rintro e w3 ⟨rfl, hb⟩
  have B3 := Lib.hid (B2.out.trans (hb.mono B2.out.size))
  clear hb
  go_wp2_with fail
  go_ret
  exact ⟨ret_bool F.out.symm, B3.out⟩

set_option maxRecDepth 100000 in
set_option maxHeartbeats 2000000 in
theorem mayWrite_c (A : Option Addr) (c : Nat) (t : List Nd) (A2 : Option Addr) (c2 : Nat) (l : List Lk) (who : Int) (k : Nat) (w : World) (h : Rd ndE w w.heap.size A t) (h2 : Rd lkE w w.heap.size A2 l) (hl : t.length ≤ 1048577) (hl2 : l.length ≤ 1048576) (ho : OkTo t t.length) (hk : k < t.length) :
    Calls Tryd.prog 54 #[.slice A t.length c, .slice A2 l.length c2, .int .i64 who, .int .i64 k] w fun e w' => e = .returned (.bool (onP wrP t l who k)) ∧ Below w.heap.size w w' := by
  have H := Lib.hid h2
  have C := Lib.hid (pathTo_c A c t k w h hl ho hk)
  obtain ⟨P, hP⟩ : ∃ P, pathL t k = P := ⟨_, rfl⟩
  have HP : P.length ≤ 5 := by rw [← hP, pathL_up, List.length_reverse]; exact upI_len ho hk
  have F := Lib.hid (show onP wrP t l who k = P.any fun n => wrP (heldL l who n) by rw [← hP]; exact onP_path _ _ _ _ _)
  rw [hP] at C
  clear h h2 hP
  go_enter Tryd.func54, Tryd.ntmps54
  go_wp2_with fail
  refine C.out.mono ?_
  rintro e w1 ⟨u, rfl, ho1, hb1⟩
  obtain ⟨Ao, co, rfl, _, _, hr⟩ := ho1.form
  have R1 := Lib.hid (And.intro hr (And.intro hb1 (H.out.grow hb1)))
  clear ho1 hb1 hr
  go_wp2_with fail
  go_loop [10] (fun i => ∃ j : Nat, j ≤ P.length ∧ i = .int .i64 j ∧ (P.take j).any (fun n => wrP (heldL l who n)) = false) (fun i => P.length - (intOf i).toNat)
  case atStart => exact ⟨0, by omega, rfl, rfl⟩
  case round =>
    obtain ⟨j, hj, rfl, hno⟩ := hrel
    have R := Lib.hid hno
    clear hno
    by_cases hlt : j < P.length
    · obtain ⟨b, o, rfl, hb, c0⟩ := R1.out.1.int hlt
      go_wp2_with fail
      refine (held_c A2 c2 l who P[j] _ _ R1.out.2.2 hl2).mono ?_
      rintro e w' ⟨rfl, rfl⟩
      generalize hq : heldL l who P[j] = q
      have Q := Lib.hid hq
      clear hq
      by_cases hx : (q == 5) = true
      · have X := Lib.hid hx
        go_wp2_with fail
        go_ret
        exact ⟨ret_bool (by rw [F.out, eq_comm, List.any_eq_true]; exact ⟨P[j], List.getElem_mem _, by rw [Q.out]; exact X.out⟩), R1.out.2.1⟩
      · rw [Bool.not_eq_true] at hx
        have X := Lib.hid hx
        go_wp2_with fail
        go_round
        case rel => exact ⟨j + 1, by omega, by go_num, by rw [List.take_succ_eq_append_getElem hlt, List.any_append, R.out]; simp only [List.any_cons, List.any_nil, Bool.or_false, Bool.false_or, Q.out]; exact X.out⟩
        case measure => simp [intOf]; omega
    · go_wp2_with fail
      go_ret
      exact ⟨ret_bool (by have := R.out; rw [List.take_of_length_le (by omega)] at this; rw [F.out]; exact this.symm), R1.out.2.1⟩
set_option maxRecDepth 100000 in
set_option maxHeartbeats 2000000 in
theorem spec_MayWrite_c (A : Option Addr) (c : Nat) (t : List Nd) (A2 : Option Addr) (c2 : Nat) (l : List Lk) (who a : Int) (w : World) (h : Rd ndE w w.heap.size A t) (h2 : Rd lkE w w.heap.size A2 l) (hl : t.length ≤ 1048576) (hl2 : l.length ≤ 1048576) (hc : t.length ≤ c) :
    Calls Tryd.prog 22 #[.slice A t.length c, .slice A2 l.length c2, .int .i64 who, .int .i64 a] w fun e w' => e = .returned (.bool (mayF wrP t l who a)) ∧ Below w.heap.size w w' := by
  have H := Lib.hid h
  have H2 := Lib.hid h2
  clear h h2
  have go0 : ∀ {b1 b2 b3 : Bool}, treeOk t = b1 → tabOk l = b2 → atOk t a = b3 → (b1 && b2 && b3) = false → mayF wrP t l who a = false := by
    rintro b1 b2 b3 rfl rfl rfl hx
    unfold mayF nodeB
    revert hx
    cases treeOk t <;> cases tabOk l <;> cases atOk t a <;> simp
  cases h1 : treeOk t
  · have F := Lib.hid (go0 h1 rfl rfl rfl)
    have HT := Lib.hid h1
    clear h1 go0
    go_enter Tryd.func22, Tryd.ntmps22
    go_wp2_with fail
    refine (validTree_c A c t _ _ H.out (by omega) hc).mono ?_
    rintro e w1 ⟨rfl, hd⟩
    have B := Lib.hid hd
    clear hd
    rw [HT.out]
    go_wp2_with fail
    go_ret
    exact ⟨ret_bool F.out.symm, B.out.below _⟩
  cases h3 : tabOk l
  · have F := Lib.hid (go0 h1 h3 rfl (by simp))
    have HT := Lib.hid h1
    have HT2 := Lib.hid h3
    clear h1 go0 h3
    go_enter Tryd.func22, Tryd.ntmps22
    go_wp2_with fail
    refine (validTree_c A c t _ _ H.out (by omega) hc).mono ?_
    rintro e w1 ⟨rfl, hd⟩
    have B := Lib.hid (hd.below w.heap.size)
    clear hd
    rw [HT.out]
    go_wp2_with fail
    refine (spec_validTable_c A2 c2 l _ _ (H2.out.grow B.out) hl2).mono ?_
    rintro e w2 ⟨rfl, hd⟩
    have B2 := Lib.hid (B.out.trans (hd.below _))
    clear hd
    rw [HT2.out]
    go_wp2_with fail
    go_ret
    exact ⟨ret_bool F.out.symm, B2.out⟩
  cases h4 : atOk t a
  · have F := Lib.hid (go0 h1 h3 h4 (by simp))
    have HT := Lib.hid h1
    have HT2 := Lib.hid h3
    have h5 : inR a 0 ((t.length : Int) - 1) = false := h4
    clear h1 go0 h3 h4
    go_enter Tryd.func22, Tryd.ntmps22
    go_wp2_with fail
    refine (validTree_c A c t _ _ H.out (by omega) hc).mono ?_
    rintro e w1 ⟨rfl, hd⟩
    have B := Lib.hid (hd.below w.heap.size)
    clear hd
    rw [HT.out]
    go_wp2_with fail
    refine (spec_validTable_c A2 c2 l _ _ (H2.out.grow B.out) hl2).mono ?_
    rintro e w2 ⟨rfl, hd⟩
    have B2 := Lib.hid (B.out.trans (hd.below _))
    clear hd
    rw [HT2.out]
    go_wp2_with (go_at_call 49; refine (inRange_c _ _ _ _).mono ?_; rintro e w' ⟨rfl, rfl⟩)
    go_ret
    exact ⟨ret_bool F.out.symm, B2.out⟩
  have hn : nodeB t a = true := by rw [nodeB, h1, h4]; rfl
  obtain ⟨k, rfl, hk⟩ := nodeB_nat hn
  have ok := Lib.hid (nodeB_okTo hn)
  have F := Lib.hid (show mayF wrP t l who k = onP wrP t l who k by rw [mayF, hn, h3]; rfl)
  have HT := Lib.hid h1
  have HT2 := Lib.hid h3
  have h5 : inR k 0 ((t.length : Int) - 1) = true := h4
  clear h1 go0 h3 h4 hn
  go_enter Tryd.func22, Tryd.ntmps22
  go_wp2_with fail
  refine (validTree_c A c t _ _ H.out (by omega) hc).mono ?_
  rintro e w1 ⟨rfl, hd⟩
  have B := Lib.hid (hd.below w.heap.size)
  clear hd
  rw [HT.out]
  go_wp2_with fail
  refine (spec_validTable_c A2 c2 l _ _ (H2.out.grow B.out) hl2).mono ?_
  rintro e w2 ⟨rfl, hd⟩
  have B2 := Lib.hid (B.out.trans (hd.below _))
  clear hd
  rw [HT2.out]
  go_wp2_with (go_at_call 49; refine (inRange_c _ _ _ _).mono ?_; rintro e w' ⟨rfl, rfl⟩)
  refine (mayWrite_c A c t A2 c2 l who k _ (H.out.grow B2.out) (H2.out.grow B2.out) (by omega) hl2 ok.out hk).mono ?_
  rintro e w3 ⟨rfl, hb⟩
  have B3 := Lib.hid (B2.out.trans (hb.mono B2.out.size))
  clear hb
  go_wp2_with fail
  go_ret
  exact ⟨ret_bool F.out.symm, B3.out⟩

set_option maxRecDepth 100000 in
set_option maxHeartbeats 4000000 in
theorem hasOn_c (m : Int) (A : Option Addr) (c : Nat) (t : List Nd) (A2 : Option Addr) (c2 : Nat) (l : List Lk) (who a : Int) (w : World) (h : Rd ndE w w.heap.size A t) (h2 : Rd lkE w w.heap.size A2 l) (hl : t.length ≤ 1048576) (hl2 : l.length ≤ 1048576) (hc : t.length ≤ c) (hc2 : l.length ≤ c2) (ht : TTab w) (hj : JTab w) :
    Calls Tryd.prog 52 #[.slice A t.length c, .slice A2 l.length c2, .int .i64 who, .int .i64 a, .int .i64 m] w fun e w' => e = .returned (.bool (mayF (fun x => strM x m) t l who a)) ∧ Below w.heap.size w w' := by
  have H := Lib.hid h
  have H2 := Lib.hid h2
  have T := Lib.hid (And.intro ht hj)
  clear h h2 ht hj
  cases hn : nodeB t a
  · have F := Lib.hid (show mayF (fun x => strM x m) t l who a = false by rw [mayF, hn]; rfl)
    have HN := Lib.hid hn
    clear hn
    go_enter Tryd.func52, Tryd.ntmps52
    go_wp2_with fail
    refine (isNode_c A c t a _ H.out (by omega) hc).mono ?_
    rintro e w1 ⟨rfl, hb⟩
    have B := Lib.hid hb
    clear hb
    rw [HN.out]
    go_wp2_with fail
    go_ret
    exact ⟨ret_bool F.out.symm, B.out⟩
  cases h3 : tabOk l
  · have F := Lib.hid (show mayF (fun x => strM x m) t l who a = false by rw [mayF, hn, h3]; rfl)
    have HN := Lib.hid hn
    have HV := Lib.hid h3
    clear hn h3
    go_enter Tryd.func52, Tryd.ntmps52
    go_wp2_with fail
    refine (isNode_c A c t a _ H.out (by omega) hc).mono ?_
    rintro e w1 ⟨rfl, hb⟩
    have B := Lib.hid hb
    clear hb
    rw [HN.out]
    go_wp2_with fail
    refine (impl_ValidTable_c A2 c2 l _ (H2.out.grow B.out) hl2 hc2 (T.out.1.below B.out)).mono ?_
    rintro e w2 ⟨rfl, hb⟩
    have B2 := Lib.hid (B.out.trans (hb.mono B.out.size))
    clear hb
    rw [HV.out]
    go_wp2_with fail
    go_ret
    exact ⟨ret_bool F.out.symm, B2.out⟩
  obtain ⟨k, rfl, hk⟩ := nodeB_nat hn
  have ok := Lib.hid (nodeB_okTo hn)
  have F := Lib.hid (show mayF (fun x => strM x m) t l who k = onP (fun x => strM x m) t l who k by rw [mayF, hn, h3]; rfl)
  have HN := Lib.hid hn
  have HV := Lib.hid h3
  clear hn h3
  go_enter Tryd.func52, Tryd.ntmps52
  go_wp2_with fail
  refine (isNode_c A c t k _ H.out (by omega) hc).mono ?_
  rintro e w1 ⟨rfl, hb⟩
  have B := Lib.hid hb
  clear hb
  rw [HN.out]
  go_wp2_with fail
  refine (impl_ValidTable_c A2 c2 l _ (H2.out.grow B.out) hl2 hc2 (T.out.1.below B.out)).mono ?_
  rintro e w2 ⟨rfl, hb⟩
  have B2 := Lib.hid (B.out.trans (hb.mono B.out.size))
  clear hb
  rw [HV.out]
  go_wp2_with fail
  go_loopw [11] (fun i wr => ∃ z : Int, i = .int .i64 z ∧ Hid ((∃ j : Nat, z = (j : Int) ∧ j < t.length ∧ onP (fun x => strM x m) t l who k = onP (fun x => strM x m) t l who j) ∨ (z = -1 ∧ onP (fun x => strM x m) t l who k = false)) ∧ Below w.heap.size w wr) (fun i _ => (intOf i + 1).toNat)
  case atStart => exact ⟨k, rfl, Lib.hid (.inl ⟨k, rfl, hk, rfl⟩), B2.out⟩
  case round =>
    obtain ⟨z, rfl, hz, hbel⟩ := hrel
    have R := Lib.hid hbel
    clear hbel
    rcases hz.out with ⟨j, rfl, hj, he⟩ | ⟨rfl, he⟩
    · have HE := Lib.hid he
      clear he hz
      have S : (∃ q : Nat, t[j].par = (q : Int) ∧ q < j ∧ onP (fun x => strM x m) t l who j = (strM (heldL l who j) m || onP (fun x => strM x m) t l who q)) ∨ (t[j].par = -1 ∧ onP (fun x => strM x m) t l who j = strM (heldL l who j) m) := by
        by_cases h0 : 0 < j
        · obtain ⟨q, hq, hqj⟩ := ok.out.parN hj h0
          exact .inl ⟨q, hq, hqj, onP_step _ _ _ ok.out hj h0 hq⟩
        · obtain rfl : j = 0 := by omega
          exact .inr ⟨ok.out.root hj hj, onP_zero _ _ _ _⟩
      obtain ⟨b, o, rfl, hb, c0, c1, c2'⟩ := (H.out.below R.out (Nat.le_refl _)).nd hj
      clear c0 c1 c2'
      go_wp2_with fail
      refine (heldIn_c A2 c2 l who j _ (H2.out.grow R.out) hl2).mono ?_
      rintro e w3 ⟨rfl, hb3⟩
      have B3 := Lib.hid (R.out.trans (hb3.mono R.out.size))
      clear hb3
      generalize hq : heldL l who j = q at S
      have Q := Lib.hid hq
      clear hq
      obtain ⟨b', o', e', hb', c0, c1, c2'⟩ := (H.out.below B3.out (Nat.le_refl _)).nd hj
      cases e'
      go_wp2_with fail
      refine (impl_IsStronger_c _ _ _ (T.out.2.below B3.out)).mono ?_
      rintro e w' ⟨rfl, rfl⟩
      cases hx : strM q m
      · rw [hx] at S
        rcases S with ⟨y, hy, hyj, hS⟩ | ⟨hy, hS⟩
        · rw [hy] at c0
          have HS := Lib.hid hS
          clear hS hy hx
          go_wp2_with fail
          go_roundw
          case rel => exact ⟨y, rfl, Lib.hid (.inl ⟨y, rfl, by omega, by rw [HE.out, HS.out]; simp⟩), B3.out⟩
          case measure => simp [intOf]; omega
        · rw [hy] at c0
          have HS := Lib.hid hS
          clear hS hy hx
          go_wp2_with fail
          go_roundw
          case rel => exact ⟨-1, rfl, Lib.hid (.inr ⟨rfl, by rw [HE.out, HS.out]⟩), B3.out⟩
          case measure => simp [intOf]
      · have HS := Lib.hid (show onP (fun x => strM x m) t l who j = true by
          rcases S with ⟨y, _, _, hS⟩ | ⟨_, hS⟩
          · rw [hS, hx]; rfl
          · rw [hS, hx])
        clear S hx
        go_wp2_with fail
        go_ret
        exact ⟨ret_bool (by rw [F.out, HE.out, HS.out]), B3.out⟩
    · have HE := Lib.hid he
      clear he hz
      go_wp2_with fail
      go_ret
      exact ⟨ret_bool (by rw [F.out, HE.out]), R.out⟩

set_option maxHeartbeats 1000000 in
theorem impl_MayRead_c (A : Option Addr) (c : Nat) (t : List Nd) (A2 : Option Addr) (c2 : Nat) (l : List Lk) (who a : Int) (w : World) (h : Rd ndE w w.heap.size A t) (h2 : Rd lkE w w.heap.size A2 l) (hl : t.length ≤ 1048576) (hl2 : l.length ≤ 1048576) (hc : t.length ≤ c) (hc2 : l.length ≤ c2) (ht : TTab w) (hj : JTab w) :
    Calls Tryd.prog 20 #[.slice A t.length c, .slice A2 l.length c2, .int .i64 who, .int .i64 a] w fun e w' => e = .returned (.bool (mayF rdP t l who a)) ∧ Below w.heap.size w w' := by
  have C := Lib.hid (hasOn_c 3 A c t A2 c2 l who a w h h2 hl hl2 hc hc2 ht hj)
  have F := Lib.hid (mayF_congr (p := fun x => strM x 3) (q := rdP) (fun _ hm => strM_rd hm) t l who a)
  rw [F.out] at C
  clear h h2 ht hj F
  go_enter Tryd.func20, Tryd.ntmps20
  go_wp2_with fail
  refine C.out.mono ?_
  rintro e w1 ⟨rfl, hb⟩
  have B := Lib.hid hb
  clear hb
  go_wp2_with fail
  go_ret
  exact ⟨rfl, B.out⟩

set_option maxHeartbeats 1000000 in
theorem impl_MayWrite_c (A : Option Addr) (c : Nat) (t : List Nd) (A2 : Option Addr) (c2 : Nat) (l : List Lk) (who a : Int) (w : World) (h : Rd ndE w w.heap.size A t) (h2 : Rd lkE w w.heap.size A2 l) (hl : t.length ≤ 1048576) (hl2 : l.length ≤ 1048576) (hc : t.length ≤ c) (hc2 : l.length ≤ c2) (ht : TTab w) (hj : JTab w) :
    Calls Tryd.prog 23 #[.slice A t.length c, .slice A2 l.length c2, .int .i64 who, .int .i64 a] w fun e w' => e = .returned (.bool (mayF wrP t l who a)) ∧ Below w.heap.size w w' := by
  have C := Lib.hid (hasOn_c 5 A c t A2 c2 l who a w h h2 hl hl2 hc hc2 ht hj)
  have F := Lib.hid (mayF_congr (p := fun x => strM x 5) (q := wrP) (fun _ hm => strM_wr hm) t l who a)
  rw [F.out] at C
  clear h h2 ht hj F
  go_enter Tryd.func23, Tryd.ntmps23
  go_wp2_with fail
  refine C.out.mono ?_
  rintro e w1 ⟨rfl, hb⟩
  have B := Lib.hid hb
  clear hb
  go_wp2_with fail
  go_ret
  exact ⟨rfl, B.out⟩
end Go.Proofs.YtfgcjdhcnalmmaaDoor
