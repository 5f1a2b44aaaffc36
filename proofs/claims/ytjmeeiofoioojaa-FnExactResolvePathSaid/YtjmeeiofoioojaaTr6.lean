/-
  A node's path; the locks for a lock on a node: the contracts of the reference's and the program's functions.
-/
import Derived.Test.YtjmeeiofoioojaaTr4
import Derived.Test.YtjmeeiofoioojaaMemS
import Derived.Test.YtjmeeiofoioojaaShelf
namespace Go.Proofs.Ytjmeeiofoioojaa
open Go.RowKit Go.Sort

def upI (t : List Nd) (i : Nat) : List Int := (upL t i).map fun (x : Nat) => (x : Int)
theorem pathL_up (t : List Nd) (i : Nat) : pathL t i = (upI t i).reverse := by simp [pathL, upI, List.map_reverse]
theorem upI_zero (t : List Nd) : upI t 0 = [0] := rfl
theorem upI_step {t : List Nd} (h : OkTo t t.length) {i p : Nat} (hi : i < t.length) (h0 : 0 < i) (hp : t[i].par = (p : Int)) : upI t i = (i : Int) :: upI t p := by
  rw [upI, upL_step h hi h0 hp]; rfl
theorem upI_len {t : List Nd} (h : OkTo t t.length) {i : Nat} (hi : i < t.length) : (upI t i).length ≤ 5 := by
  have h1 := upL_len h i hi
  have h2 := dep_le h hi
  simp only [upI, List.length_map]; omega
theorem pathL_zero (t : List Nd) : pathL t 0 = [0] := rfl
theorem pathL_step {t : List Nd} (h : OkTo t t.length) {i p : Nat} (hi : i < t.length) (h0 : 0 < i) (hp : t[i].par = (p : Int)) : pathL t i = pathL t p ++ [(i : Int)] := by
  rw [pathL_up, pathL_up, upI_step h hi h0 hp, List.reverse_cons]
theorem path_no {t : List Nd} {a : Int} (h : nodeB t a = false) : pathF t a = [] := by simp [pathF, h]
theorem path_yes {t : List Nd} {k : Nat} (h : nodeB t k = true) : pathF t k = pathL t k := by simp [pathF, h]

set_option maxRecDepth 100000 in
set_option maxHeartbeats 1000000 in
theorem pathTo_c (A : Option Addr) (c : Nat) (t : List Nd) (i : Nat) (w : World) (h : Rd ndE w w.heap.size A t) (hl : t.length ≤ 1048577) (ho : OkTo t t.length) (hi : i < t.length) :
    Calls Try.prog 65 #[.slice A t.length c, .int .i64 i] w fun e w' => ∃ u, e = .returned u ∧ Own inE 3 w' w.heap.size u (pathL t i) ∧ Below w.heap.size w w' := by
  have H := Lib.hid (And.intro h ho)
  clear h ho
  have N := Lib.hid (own_new (E := inE) (e := 3) w #[.int .i64 i] [(i : Int)] w.heap.size (Nat.le_refl _) (by simp) rfl)
  have B0 := Lib.hid ((Below.refl w.heap.size w).alloc (Nat.le_refl _) (.cells #[.int .i64 i] 3))
  go_enter Try.func65, Try.ntmps65
  go_wp2_with fail
  go_loopw [1, 5] (fun jv v wr => ∃ (j : Nat) (L : List Int), jv = .int .i64 j ∧ j ≤ i ∧ L.length + j ≤ i + 1 ∧ Hid (∃ L', L = (j : Int) :: L' ∧ pathL t i = pathL t j ++ L') ∧ Own inE 3 wr w.heap.size v L ∧ Below w.heap.size w wr) (fun jv _ _ => (intOf jv).toNat)
  case atStart => exact ⟨i, [(i : Int)], rfl, Nat.le_refl _, by simp; omega, Lib.hid ⟨[], rfl, by simp⟩, N.out, B0.out⟩
  case round =>
    obtain ⟨j, L, rfl, hj, hlen, hm, ho, hbel⟩ := hrel
    obtain ⟨Ao, co, rfl, _, _, hr⟩ := ho.form
    have R := Lib.hid (And.intro ho (And.intro hbel hr))
    by_cases h0 : 0 < j
    · obtain ⟨b, o, rfl, hb, c0, c1, c2⟩ := (H.out.1.below hbel (Nat.le_refl _)).nd (show j < t.length by omega)
      obtain ⟨p, hp, hpj⟩ := H.out.2.parN (show j < t.length by omega) h0
      have F := Lib.hid (show ∃ L', [(p : Int)] ++ L = (p : Int) :: L' ∧ pathL t i = pathL t p ++ L' by
        obtain ⟨L', e1, e2⟩ := hm.out
        refine ⟨L, rfl, ?_⟩
        rw [e2, pathL_step H.out.2 (by omega) h0 hp, e1, List.append_assoc]; rfl)
      rw [hp] at c0
      have N2 := Lib.hid (own_new (E := inE) (e := 3) wr #[.int .i64 p] [(p : Int)] w.heap.size hbel.size (by simp) rfl)
      clear ho hbel hr hp
      go_wp2_with (at_builtin; refine wpList_ap slIn rfl (.tmp 16) (.tmp 17) rfl w.heap.size _ [(p : Int)] rfl N2.out _ Ao co L rfl (R.out.2.2.grow ((Below.refl _ _).alloc (Nat.le_refl _) _)) (by simp; omega) (by have := R.out.2.1.size; simp; omega) ?_; intro v2 w2 ho1 hg1 hat1; have Z := Lib.hid (And.intro ho1 (below_own (R.out.2.1.alloc R.out.2.1.size _) N2.out hg1 (by have := R.out.2.1.size; simp; omega))); clear ho1 hg1 hat1)
      go_roundw
      case rel => exact ⟨p, _, rfl, by omega, by simp; omega, F, Z.out.1, Z.out.2⟩
      case measure => simp [intOf]; omega
    · have F := Lib.hid (show L = pathL t i by
        obtain ⟨L', e1, e2⟩ := hm.out
        obtain rfl : j = 0 := by omega
        rw [e1, e2, pathL_zero]; rfl)
      clear ho hbel hr
      go_wp2_with fail
      go_ret
      exact ⟨_, rfl, by rw [← F.out]; exact R.out.1, R.out.2.1⟩
set_option maxRecDepth 100000 in
set_option maxHeartbeats 1000000 in
theorem spec_PathTo_c (A : Option Addr) (c : Nat) (t : List Nd) (a : Int) (w : World) (h : Rd ndE w w.heap.size A t) (hl : t.length ≤ 1048576) (hc : t.length ≤ c) :
    Calls Try.prog 32 #[.slice A t.length c, .int .i64 a] w fun e w' => ∃ u, e = .returned u ∧ Own inE 3 w' w.heap.size u (pathF t a) ∧ Below w.heap.size w w' := by
  have H := Lib.hid h
  clear h
  rcases node_cases t a with ⟨h1, h2⟩ | ⟨h1, h3, h2⟩ | ⟨h1, h3, h2⟩
  · have F := Lib.hid (path_no h2)
    have HT := Lib.hid h1
    clear h1 h2
    go_enter Try.func32, Try.ntmps32
    go_wp2_with fail
    refine (validTree_c A c t _ _ H.out (by omega) hc).mono ?_
    rintro e w1 ⟨rfl, hd⟩
    have B := Lib.hid hd
    clear hd
    rw [HT.out]
    go_wp2_with fail
    go_ret
    exact ⟨_, rfl, by rw [F.out]; exact Own.nil, B.out.below _⟩
  · have F := Lib.hid (path_no h2)
    have HT := Lib.hid h1
    have h4 : inR a 0 ((t.length : Int) - 1) = false := h3
    clear h1 h2 h3
    go_enter Try.func32, Try.ntmps32
    go_wp2_with fail
    refine (validTree_c A c t _ _ H.out (by omega) hc).mono ?_
    rintro e w1 ⟨rfl, hd⟩
    have B := Lib.hid hd
    clear hd
    rw [HT.out]
    go_wp2_with (go_at_call 57; refine (inRange_c _ _ _ _).mono ?_; rintro e w' ⟨rfl, rfl⟩)
    go_ret
    exact ⟨_, rfl, by rw [F.out]; exact Own.nil, B.out.below _⟩
  · have h4 : inR a 0 ((t.length : Int) - 1) = true := h3
    obtain ⟨k, rfl, hk⟩ := atOk_nat h3
    have F := Lib.hid (path_yes h2)
    have OK := Lib.hid (nodeB_okTo h2)
    have HT := Lib.hid h1
    clear h1 h2 h3
    go_enter Try.func32, Try.ntmps32
    go_wp2_with fail
    refine (validTree_c A c t _ _ H.out (by omega) hc).mono ?_
    rintro e w1 ⟨rfl, hd⟩
    have B := Lib.hid (hd.below w.heap.size)
    clear hd
    rw [HT.out]
    go_wp2_with (go_at_call 57; refine (inRange_c _ _ _ _).mono ?_; rintro e w' ⟨rfl, rfl⟩)
    refine (pathTo_c A c t k _ (H.out.grow B.out) (by omega) OK.out hk).mono ?_
    rintro e w2 ⟨u, rfl, ho, hb⟩
    have Z := Lib.hid (And.intro (ho.base B.out.size) (B.out.trans (hb.mono B.out.size)))
    clear ho hb
    go_wp2_with fail
    go_ret
    exact ⟨_, rfl, by rw [F.out]; exact Z.out.1, Z.out.2⟩
set_option maxRecDepth 100000 in
set_option maxHeartbeats 1000000 in
theorem impl_PathTo_c (A : Option Addr) (c : Nat) (t : List Nd) (a : Int) (w : World) (h : Rd ndE w w.heap.size A t) (hl : t.length ≤ 1048576) (hc : t.length ≤ c) :
    Calls Try.prog 33 #[.slice A t.length c, .int .i64 a] w fun e w' => ∃ u, e = .returned u ∧ Own inE 3 w' w.heap.size u (pathF t a) ∧ Below w.heap.size w w' := by
  have H := Lib.hid h
  clear h
  by_cases h2 : nodeB t a = true
  · obtain ⟨i, rfl, hi⟩ := nodeB_nat h2
    have F := Lib.hid (path_yes h2)
    have OK := Lib.hid (nodeB_okTo h2)
    have U5 := upI_len OK.out hi
    have HB := Lib.hid h2
    clear h2
    go_enter Try.func33, Try.ntmps33
    go_wp2_with fail
    refine (isNode_c A c t i _ H.out (by omega) hc).mono ?_
    rintro e w1 ⟨rfl, hb⟩
    have B := Lib.hid hb
    clear hb
    rw [HB.out]
    go_wp2_with fail
    go_loopw [5, 6] (fun v mv wr => ∃ (m : Int) (L : List Int), mv = .int .i64 m ∧ Hid ((∃ j : Nat, m = (j : Int) ∧ j ≤ i ∧ upI t i = L ++ upI t j) ∨ (m = -1 ∧ L = upI t i)) ∧ Own inE 3 wr w.heap.size v L ∧ Below w.heap.size w wr) (fun _ mv _ => (intOf mv + 1).toNat)
    case atStart => exact ⟨i, [], rfl, Lib.hid (.inl ⟨i, rfl, Nat.le_refl _, rfl⟩), Own.nil, B.out⟩
    case round =>
      obtain ⟨m, L, rfl, hm, ho, hbel⟩ := hrel
      rcases hm.out with ⟨j, rfl, hj, hU⟩ | ⟨rfl, hL⟩
      · have hjl : j < t.length := by omega
        obtain ⟨b, o, rfl, hb, c0, c1, c2⟩ := (H.out.below hbel (Nat.le_refl _)).nd hjl
        obtain ⟨Ao, co, rfl, _, _, _⟩ := ho.form
        have LB : L.length ≤ 5 := by rw [hU, List.length_append] at U5; omega
        have R := Lib.hid (And.intro ho hbel)
        clear ho hbel hm
        rcases Nat.eq_zero_or_pos j with e | e
        · have hr : t[j].par = -1 := by subst e; exact OK.out.root (by omega) (by omega)
          have F2 := Lib.hid (show L ++ [(j : Int)] = upI t i by rw [hU, e, upI_zero]; rfl)
          rw [hr] at c0
          clear hr hU e
          go_wp2_with (at_builtin; refine wpList_ap1 slIn rfl (.tmp 19) (.tmp 21) rfl _ _ (j : Int) rfl w w.heap.size _ L rfl R.out.1 rfl (by omega) R.out.2 (Nat.le_refl _) ?_; intro v3 w3 ho3 hb3 hg3 hat3; have c0 := (hg3.block b (Nat.lt_of_lt_of_le hb R.out.2.size) (fun e => by have := (R.out.1.lt _ e.symm).1; omega)); have Y := Lib.hid (And.intro ho3 hb3); have c0 := (World.cell?_of_block (w := wr) (a := ⟨b, o + j * 3, none⟩) c0).trans ‹_›; clear ho3 hb3 hg3 hat3)
          go_roundw
          case rel => exact ⟨-1, _, rfl, Lib.hid (.inr ⟨rfl, F2.out⟩), Y.out.1, Y.out.2⟩
          case measure => simp [intOf]
        · obtain ⟨p, hp, hpj⟩ := OK.out.parN hjl e
          have F2 := Lib.hid (show upI t i = (L ++ [(j : Int)]) ++ upI t p by rw [hU, upI_step OK.out hjl e hp, List.append_assoc]; rfl)
          rw [hp] at c0
          clear hp hU e
          go_wp2_with (at_builtin; refine wpList_ap1 slIn rfl (.tmp 19) (.tmp 21) rfl _ _ (j : Int) rfl w w.heap.size _ L rfl R.out.1 rfl (by omega) R.out.2 (Nat.le_refl _) ?_; intro v3 w3 ho3 hb3 hg3 hat3; have c0 := (hg3.block b (Nat.lt_of_lt_of_le hb R.out.2.size) (fun e => by have := (R.out.1.lt _ e.symm).1; omega)); have Y := Lib.hid (And.intro ho3 hb3); have c0 := (World.cell?_of_block (w := wr) (a := ⟨b, o + j * 3, none⟩) c0).trans ‹_›; clear ho3 hb3 hg3 hat3)
          go_roundw
          case rel => exact ⟨p, _, rfl, Lib.hid (.inl ⟨p, rfl, by omega, F2.out⟩), Y.out.1, Y.out.2⟩
          case measure => simp [intOf]; omega
      · have F3 := Lib.hid (show L.reverse = pathF t i by rw [F.out, pathL_up, hL])
        rcases ho.block with ⟨_, e0⟩ | ⟨g, c', cs, e1, hbg, hblk, _, _, _, _⟩
        · exfalso
          rw [e0] at hL
          rcases Nat.eq_zero_or_pos i with e | e
          · subst e; cases hL
          · obtain ⟨p, hp, _⟩ := OK.out.parN hi e
            rw [upI_step OK.out hi e hp] at hL; cases hL
        · subst e1
          have L5 : L.length ≤ 5 := by rw [hL]; exact U5
          have R := Lib.hid (And.intro ho hbel)
          clear ho hbel hblk hL hm
          go_wp2_with fail
          refine (Try.slices_Reverse_int g 0 c' L _ (own_holds (f := id) (fun _ => rfl) R.out.1 L.toArray (by simp)) (by omega)).mono ?_
          rintro e w2 ⟨rfl, n, hw⟩
          have O2 := own_sorted (enc := Value.int .i64) (f := id) (fun _ => rfl) R.out.1 L.reverse.toArray (by simp) n #[]
          rw [grow_empty, ← hw, List.map_id] at O2
          have Z := Lib.hid (show Own inE 3 w2 w.heap.size _ (pathF t i) ∧ Below w.heap.size w w2 from ⟨by rw [← F3.out]; exact O2.1, below_own R.out.2 R.out.1 O2.2 R.out.2.size⟩)
          clear O2 hw
          go_wp2_with fail
          go_ret
          exact ⟨_, rfl, Z.out.1, Z.out.2⟩
  · rw [Bool.not_eq_true] at h2
    have F := Lib.hid (path_no h2)
    have HB := Lib.hid h2
    clear h2
    go_enter Try.func33, Try.ntmps33
    go_wp2_with fail
    refine (isNode_c A c t a _ H.out (by omega) hc).mono ?_
    rintro e w1 ⟨rfl, hb⟩
    have B := Lib.hid hb
    clear hb
    rw [HB.out]
    go_wp2_with fail
    go_ret
    exact ⟨_, rfl, by rw [F.out]; exact Own.nil, B.out⟩
end Go.Proofs.Ytjmeeiofoioojaa
