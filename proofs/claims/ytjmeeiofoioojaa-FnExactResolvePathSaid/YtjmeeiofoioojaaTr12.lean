/-
  The text of a node's path: the contracts of the reference's and the program's functions.
-/
import Derived.Test.YtjmeeiofoioojaaTr6
import Derived.Test.YtjmeeiofoioojaaPWalk
import Derived.Test.YtjmeeiofoioojaaBld
namespace Go.Proofs.Ytjmeeiofoioojaa
open Go.RowKit

theorem ret_str {a b : ByteArray} (h : a = b) : Ending.returned (.string a) = .returned (.string b) := by rw [h]
def PT (t : List Nd) (i : Nat) : ByteArray := ⟨(txtL t i).toArray⟩
noncomputable def ptF (t : List Nd) (a : Int) : ByteArray := if nodeB t a = true then PT t a.toNat else ⟨#[]⟩
theorem pt_no {t : List Nd} {a : Int} (h : nodeB t a = false) : ptF t a = ⟨#[]⟩ := by simp [ptF, h]
theorem pt_yes {t : List Nd} {k : Nat} (h : nodeB t k = true) : ptF t k = PT t k := by simp [ptF, h]
theorem path_names {t : List Nd} (h : OkTo t t.length) : ∀ (i : Nat), i < t.length → ((pathL t i).drop 1).map (fun x => nameL t x.toNat) = nmL t i := by
  intro i
  induction i using Nat.strongRecOn with
  | _ i ih =>
    intro hi
    rcases Nat.eq_zero_or_pos i with e | e
    · subst e; rw [pathL_zero, nmL_zero]; rfl
    · obtain ⟨p, hp, hlt⟩ := h.parN hi e
      have hpos : 0 < (pathL t p).length := by have := upL_len h p (by omega); simp [pathL]; omega
      rw [pathL_step h hi e hp, List.drop_append_of_le_length (by omega), List.map_append, ih p hlt (by omega), nmL_step h hi e hp]
      simp [nameL_at hi]
/-- the text of the first k names of a path -/
def gl (t : List Nd) (P : List Int) (k : Nat) : List UInt8 := glue (((P.drop 1).take k).map fun x => nameL t x.toNat)
theorem gl_zero (t : List Nd) (P : List Int) : gl t P 0 = [] := rfl
theorem gl_next (t : List Nd) {P : List Int} {k x : Nat} (hk : k + 1 < P.length) (hx : P[k + 1] = (x : Int)) : gl t P (k + 1) = gl t P k ++ 47 :: nameL t x := by
  have h1 : k < (P.drop 1).length := by rw [List.length_drop]; omega
  have h2 : (P.drop 1)[k] = (x : Int) := by
    rw [List.getElem_drop]
    have : 1 + k = k + 1 := by omega
    simp only [this, hx]
  unfold gl
  rw [List.take_succ_eq_append_getElem h1, List.map_append, h2]
  simp [glue]
theorem gl_all {t : List Nd} (h : OkTo t t.length) {i : Nat} (hi : i < t.length) {k : Nat} (hk : (pathL t i).length ≤ k + 1) : gl t (pathL t i) k = glue (nmL t i) := by
  unfold gl
  rw [List.take_of_length_le (by rw [List.length_drop]; omega), path_names h i hi]
theorem path_mem {t : List Nd} (h : OkTo t t.length) {i : Nat} (hi : i < t.length) {k : Nat} (hk : k < (pathL t i).length) : ∃ x : Nat, (pathL t i)[k] = (x : Int) ∧ x < t.length := by
  have hm : (pathL t i)[k] ∈ (upL t i).reverse.map fun (x : Nat) => (x : Int) := List.getElem_mem (l := pathL t i) hk
  rw [List.mem_map] at hm
  obtain ⟨x, hx, e⟩ := hm
  rw [List.mem_reverse] at hx
  exact ⟨x, e.symm, by have := upL_le h i hi x hx; omega⟩
theorem name_small {t : List Nd} (h : OkTo t t.length) {x : Nat} (hx : x < t.length) : t[x].name.size ≤ 4 := by
  rcases Nat.eq_zero_or_pos x with e | e
  · subst e; rw [(nodeOk_root (h 0 hx hx)).2]; omega
  · have := nodeOk_name e (h x hx hx)
    simp only [nameOk, inR, Bool.and_eq_true, decide_eq_true_eq] at this
    omega
theorem pt_zero (t : List Nd) : PT t 0 = ⟨#[47]⟩ := rfl
theorem pt_pos {t : List Nd} {i : Nat} (hi : 0 < i) : PT t i = ⟨(glue (nmL t i)).toArray⟩ := by
  unfold PT txtL; rw [if_neg (by omega)]
theorem path_one {t : List Nd} (h : OkTo t t.length) {i : Nat} (hi : i < t.length) (h0 : 0 < i) : 2 ≤ (pathL t i).length := by
  obtain ⟨p, hp, hlt⟩ := h.parN hi h0
  have hpos : 0 < (pathL t p).length := by have := upL_len h p (by omega); simp [pathL]; omega
  rw [pathL_step h hi h0 hp]; simp; omega

set_option maxRecDepth 100000 in
set_option maxHeartbeats 1000000 in
theorem pathText_c (A : Option Addr) (c : Nat) (t : List Nd) (i : Nat) (w : World) (h : Rd ndE w w.heap.size A t) (hl : t.length ≤ 1048577) (ho : OkTo t t.length) (hi : i < t.length) :
    Calls Try.prog 67 #[.slice A t.length c, .int .i64 i] w fun e w' => e = .returned (.string (PT t i)) ∧ Below w.heap.size w w' := by
  have H := Lib.hid (And.intro h ho)
  obtain ⟨P, hP⟩ : ∃ P, pathL t i = P := ⟨_, rfl⟩
  have hpos : 0 < P.length := by have := upL_len ho i hi; rw [← hP]; simp [pathL]; omega
  have h5 : P.length ≤ 5 := by rw [← hP]; exact pathL_len ho hi
  have HP := Lib.hid hP
  clear h ho hP
  go_enter Try.func67, Try.ntmps67
  go_wp2_with fail
  refine (pathTo_c A c t i _ H.out.1 hl H.out.2 hi).mono ?_
  rintro e w1 ⟨u, rfl, ho, hb⟩
  rw [HP.out] at ho
  obtain ⟨Ap, cp, rfl, _, _, hrp⟩ := ho.form
  have Z := Lib.hid (And.intro hb hrp)
  clear ho hb hrp
  go_wp2_with fail
  go_loop [5, 7] (fun sv iv => ∃ (k : Nat) (s : ByteArray), iv = .int .i64 k ∧ sv = .string s ∧ 1 ≤ k ∧ k ≤ P.length ∧ s.size ≤ 5 * k ∧ Hid (s.data.toList = gl t P (k - 1))) (fun _ iv => P.length - (intOf iv).toNat)
  case atStart => exact ⟨1, ⟨#[]⟩, rfl, rfl, Nat.le_refl _, by omega, by decide, Lib.hid (by rw [gl_zero])⟩
  case round =>
    obtain ⟨k, s, rfl, rfl, hk1, hk, hs, hm⟩ := hrel
    by_cases hlt : k < P.length
    · obtain ⟨x, hx, hxl⟩ : ∃ x : Nat, P[k] = (x : Int) ∧ x < t.length := by
        obtain ⟨x, hx, hxl⟩ := path_mem H.out.2 hi (k := k) (by rw [HP.out]; exact hlt)
        exact ⟨x, by simpa only [HP.out] using hx, hxl⟩
      obtain ⟨b, o, rfl, hb, c0⟩ := Z.out.2.int hlt
      obtain ⟨b', o', rfl, hb', d0, d1, d2⟩ := (H.out.1.grow Z.out.1).nd hxl
      have hn := name_small H.out.2 hxl
      rw [hx] at c0
      obtain ⟨m, hmk⟩ : ∃ m, k = m + 1 := ⟨k - 1, by omega⟩
      have e1 : (⟨#[47]⟩ : ByteArray).size = 1 := rfl
      have e2 : (s ++ (⟨#[47]⟩ : ByteArray)).size = s.size + 1 := by rw [ByteArray.size_append, e1]
      have F := Lib.hid (show (s ++ (⟨#[47]⟩ : ByteArray) ++ t[x].name).data.toList = gl t P (k + 1 - 1) by
        have hx2 : P[m + 1]'(by omega) = (x : Int) := by simp only [← hmk, hx]
        rw [Nat.add_sub_cancel, hmk, gl_next t (by omega) hx2, nameL_at hxl, show m = k - 1 by omega, ← hm.out]
        simp [ByteArray.data_append])
      have FS := Lib.hid (show (s ++ (⟨#[47]⟩ : ByteArray) ++ t[x].name).size ≤ 5 * (k + 1) by rw [ByteArray.size_append, e2]; omega)
      have q1 : s.size + (⟨#[47]⟩ : ByteArray).size ≤ 9223372036854775807 := by rw [e1]; omega
      have q2 : (s ++ (⟨#[47]⟩ : ByteArray)).size + t[x].name.size ≤ 9223372036854775807 := by rw [e2]; omega
      clear hx e1 e2 hmk
      go_wp2_with fail
      go_round
      case rel => exact ⟨k + 1, _, by go_num, rfl, by omega, by omega, FS.out, F⟩
      case measure => simp [intOf]; omega
    · have F := Lib.hid (show s.data.toList = glue (nmL t i) by
        rw [hm.out, ← HP.out, gl_all H.out.2 hi (by rw [HP.out]; omega)])
      by_cases h0 : i = 0
      · have h0b : ((i : Int) == 0) = true := by rw [h0]; rfl
        have F2 := Lib.hid (show PT t i = ⟨#[47]⟩ by rw [h0, pt_zero])
        clear h0
        go_wp2_with fail
        go_ret
        exact ⟨ret_str F2.out.symm, Z.out.1⟩
      · have h0b : ((i : Int) == 0) = false := by rw [beq_eq_false_iff_ne]; omega
        have F2 := Lib.hid (show s = PT t i by rw [pt_pos (by omega), ← F.out])
        clear h0
        go_wp2_with fail
        go_ret
        exact ⟨ret_str F2.out, Z.out.1⟩
set_option maxRecDepth 100000 in
set_option maxHeartbeats 1000000 in
theorem spec_PathText_c (A : Option Addr) (c : Nat) (t : List Nd) (a : Int) (w : World) (h : Rd ndE w w.heap.size A t) (hl : t.length ≤ 1048576) (hc : t.length ≤ c) :
    Calls Try.prog 37 #[.slice A t.length c, .int .i64 a] w fun e w' => e = .returned (.string (ptF t a)) ∧ Below w.heap.size w w' := by
  have H := Lib.hid h
  clear h
  rcases node_cases t a with ⟨h1, h2⟩ | ⟨h1, h3, h2⟩ | ⟨h1, h3, h2⟩
  · have F := Lib.hid (pt_no h2)
    have HT := Lib.hid h1
    clear h1 h2
    go_enter Try.func37, Try.ntmps37
    go_wp2_with fail
    refine (validTree_c A c t _ _ H.out (by omega) hc).mono ?_
    rintro e w1 ⟨rfl, hd⟩
    have B := Lib.hid hd
    clear hd
    rw [HT.out]
    go_wp2_with fail
    go_ret
    exact ⟨ret_str F.out.symm, B.out.below _⟩
  · have F := Lib.hid (pt_no h2)
    have HT := Lib.hid h1
    have h4 : inR a 0 ((t.length : Int) - 1) = false := h3
    clear h1 h2 h3
    go_enter Try.func37, Try.ntmps37
    go_wp2_with fail
    refine (validTree_c A c t _ _ H.out (by omega) hc).mono ?_
    rintro e w1 ⟨rfl, hd⟩
    have B := Lib.hid hd
    clear hd
    rw [HT.out]
    go_wp2_with (go_at_call 57; refine (inRange_c _ _ _ _).mono ?_; rintro e w' ⟨rfl, rfl⟩)
    go_ret
    exact ⟨ret_str F.out.symm, B.out.below _⟩
  · have h4 : inR a 0 ((t.length : Int) - 1) = true := h3
    obtain ⟨k, rfl, hk⟩ := atOk_nat h3
    have F := Lib.hid (pt_yes h2)
    have OK := Lib.hid (nodeB_okTo h2)
    have HT := Lib.hid h1
    clear h1 h2 h3
    go_enter Try.func37, Try.ntmps37
    go_wp2_with fail
    refine (validTree_c A c t _ _ H.out (by omega) hc).mono ?_
    rintro e w1 ⟨rfl, hd⟩
    have B := Lib.hid (hd.below w.heap.size)
    clear hd
    rw [HT.out]
    go_wp2_with (go_at_call 57; refine (inRange_c _ _ _ _).mono ?_; rintro e w' ⟨rfl, rfl⟩)
    refine (pathText_c A c t k _ (H.out.grow B.out) (by omega) OK.out hk).mono ?_
    rintro e w2 ⟨rfl, hb⟩
    have Z := Lib.hid (B.out.trans (hb.mono B.out.size))
    clear hb
    go_wp2_with fail
    go_ret
    exact ⟨ret_str F.out.symm, Z.out⟩
theorem byteCells_snoc (l : List UInt8) (n : ByteArray) : (Lib.byteCells l ++ [Value.int .u8 47]) ++ Lib.strCells n = Lib.byteCells (l ++ 47 :: n.data.toList) := by
  rw [Lib.strCells_eq, show l ++ 47 :: n.data.toList = (l ++ [47]) ++ n.data.toList by simp, Lib.byteCells_append, Lib.byteCells_append]; rfl
set_option maxRecDepth 100000 in
set_option maxHeartbeats 1000000 in
theorem impl_PathText_c (A : Option Addr) (c : Nat) (t : List Nd) (a : Int) (w : World) (h : Rd ndE w w.heap.size A t) (hl : t.length ≤ 1048576) (hc : t.length ≤ c) :
    Calls Try.prog 38 #[.slice A t.length c, .int .i64 a] w fun e w' => e = .returned (.string (ptF t a)) ∧ Below w.heap.size w w' := by
  have H := Lib.hid h
  clear h
  by_cases h2 : nodeB t a = true
  · obtain ⟨i, rfl, hi⟩ := nodeB_nat h2
    have F := Lib.hid (pt_yes h2)
    have FP := Lib.hid (path_yes h2)
    have OK := Lib.hid (nodeB_okTo h2)
    clear h2
    obtain ⟨P, hP⟩ : ∃ P, pathL t i = P := ⟨_, rfl⟩
    have hpos : 0 < P.length := by have := upL_len OK.out i hi; rw [← hP]; simp [pathL]; omega
    have h5 : P.length ≤ 5 := by rw [← hP]; exact pathL_len OK.out hi
    have HP := Lib.hid hP
    by_cases h0 : i = 0
    · have h1 : P.length = 1 := by rw [← hP, h0, pathL_zero]; rfl
      have h1b : ((P.length : Int) == 1) = true := by rw [h1]; rfl
      have h0b : ((P.length : Int) == 0) = false := by rw [h1]; rfl
      have F2 := Lib.hid (show ptF t i = ⟨#[47]⟩ by rw [F.out, h0, pt_zero])
      clear hP h1 h0
      go_enter Try.func38, Try.ntmps38
      go_wp2_with fail
      refine (impl_PathTo_c A c t i _ H.out hl hc).mono ?_
      rintro e w1 ⟨u, rfl, ho, hb⟩
      rw [FP.out, HP.out] at ho
      obtain ⟨Ap, cp, rfl, _, _, _⟩ := ho.form
      have Z := Lib.hid hb
      clear ho hb
      go_wp2_with fail
      go_ret
      exact ⟨ret_str F2.out.symm, Z.out⟩
    · have h2 : 2 ≤ P.length := by rw [← hP]; exact path_one OK.out hi (by omega)
      have h1b : ((P.length : Int) == 1) = false := by rw [beq_eq_false_iff_ne]; omega
      have h0b : ((P.length : Int) == 0) = false := by rw [beq_eq_false_iff_ne]; omega
      have F2 := Lib.hid (show ptF t i = ⟨(glue (nmL t i)).toArray⟩ by rw [F.out, pt_pos (by omega)])
      clear hP h0
      go_enter Try.func38, Try.ntmps38
      go_wp2_with fail
      refine (impl_PathTo_c A c t i _ H.out hl hc).mono ?_
      rintro e w1 ⟨u, rfl, ho, hb⟩
      rw [FP.out, HP.out] at ho
      obtain ⟨Ap, cp, rfl, hcp, hcm, hrp⟩ := ho.form
      obtain ⟨g, c', cs, e1, _, hblk, _, _, _, _⟩ : ∃ g c' cs, Value.slice Ap P.length cp = .slice (some ⟨g, 0, none⟩) P.length c' ∧ w.heap.size ≤ g ∧ Blk w1 g 3 cs ∧ P.length ≤ c' ∧ c' ≤ maxLen ∧ cs.size = c' * inE.sz ∧ cs.toList.take (P.length * inE.sz) = inE.flat P := by
        rcases ho.block with ⟨_, e0⟩ | hh
        · subst e0; simp at h2
        · exact hh
      injection e1 with e1 _ e3
      subst e1
      have hg := hblk.lt
      have Z := Lib.hid (And.intro hb hrp)
      have hc1 : ¬ cp = 1 := by omega
      have hc2 : (1 : Int) ≤ (P.length : Int) := by omega
      clear ho hb hrp hblk
      unfold maxLen at hcm
      have N0 := Lib.hid (Lib.IsBuilderF.of (Lib.fresh_isBuilder 70 5 w1))
      have B0 := Lib.hid ((Below.refl w1.heap.size w1).alloc (Nat.le_refl _) (.cells #[.pointer none, .slice none 0 0] 70))
      go_wp2_with fail
      go_loopw [21] (fun iv wr => ∃ (k : Nat) (acc : List UInt8), iv = .int .i64 k ∧ k + 1 ≤ P.length ∧ acc.length ≤ 5 * k ∧ Hid (acc = gl t P k) ∧ Lib.IsBuilderF 70 5 w1.heap.size w1.heap.size (Lib.byteCells acc) wr ∧ Below w1.heap.size w1 wr) (fun iv _ => P.length - (intOf iv).toNat)
      case atStart => exact ⟨0, [], rfl, by omega, by simp, Lib.hid rfl, N0.out, B0.out⟩
      case round =>
        obtain ⟨k, acc, rfl, hk, hla, hm, hbu, hbel⟩ := hrel
        by_cases hlt : k < P.length - 1
        · have hk1 : k + 1 < P.length := by omega
          obtain ⟨x, hx, hxl⟩ : ∃ x : Nat, P[k + 1] = (x : Int) ∧ x < t.length := by
            obtain ⟨x, hx, hxl⟩ := path_mem OK.out hi (k := k + 1) (by rw [HP.out]; exact hk1)
            exact ⟨x, by simpa only [HP.out] using hx, hxl⟩
          obtain ⟨b, o, e2, hb, c0⟩ := (Z.out.2.below hbel (Nat.le_refl _)).int hk1
          injection e2 with e2
          injection e2 with e2 e4 _
          subst e2 e4
          rw [hx] at c0
          have c0' : wr.cell? ⟨g, 1 + k, none⟩ = some (.int .i64 (x : Int)) := by rw [← c0]; congr 2; omega
          have hn := name_small OK.out hxl
          have F3 := Lib.hid (show acc ++ 47 :: t[x].name.data.toList = gl t P (k + 1) by rw [gl_next t hk1 hx, hm.out, nameL_at hxl])
          have FL := Lib.hid (show (acc ++ 47 :: t[x].name.data.toList).length ≤ 5 * (k + 1) by
            have e : t[x].name.data.toList.length = t[x].name.size := Array.length_toList
            simp only [List.length_append, List.length_cons, e]; omega)
          have R := Lib.hid (And.intro hbu hbel)
          clear hbu hbel hx
          go_wp2_with fail
          refine (writeByte_c w1.heap.size w1.heap.size (Lib.byteCells acc) 47 _ R.out.1 (by rw [Lib.byteCells_length]; omega) R.out.2.size).mono ?_
          rintro e w3 ⟨rfl, hbu3, hb3⟩
          have R3 := Lib.hid (And.intro hbu3 (R.out.2.trans hb3))
          obtain ⟨b', o', e5, hb', d0, d1, d2⟩ := ((H.out.grow Z.out.1).below R3.out.2 (Nat.le_refl _)).nd hxl
          subst e5
          clear hbu3 hb3 c0 c0'
          go_wp2_with fail
          refine (writeString_c w1.heap.size w1.heap.size _ t[x].name _ R3.out.1 (by simp only [List.length_append, Lib.byteCells_length, List.length_singleton]; omega) R3.out.2.size).mono ?_
          rintro e w4 ⟨rfl, hbu4, hb4⟩
          rw [byteCells_snoc] at hbu4
          have R4 := Lib.hid (And.intro hbu4 (R3.out.2.trans hb4))
          clear hbu4 hb4
          go_wp2_with fail
          go_roundw
          case rel => exact ⟨k + 1, _, by go_num, by omega, FL.out, F3, R4.out.1, R4.out.2⟩
          case measure => simp [intOf]; omega
        · have F3 := Lib.hid (show acc = glue (nmL t i) by rw [hm.out, ← HP.out, gl_all OK.out hi (by rw [HP.out]; omega)])
          have R := Lib.hid (And.intro hbu hbel)
          clear hbu hbel
          go_wp2_with fail
          refine (Try.Builder_String_any_k w1.heap.size w1.heap.size acc _ R.out.1 R.out.2.size).mono ?_
          rintro e w3 ⟨rfl, _, hb3, _⟩
          have R3 := Lib.hid (Z.out.1.trans ((R.out.2.trans hb3).mono Z.out.1.size))
          clear hb3
          go_wp2_with fail
          go_ret
          exact ⟨ret_str (by rw [F2.out, F3.out]), R3.out⟩
  · rw [Bool.not_eq_true] at h2
    have F := Lib.hid (pt_no h2)
    have FP := Lib.hid (path_no h2)
    clear h2
    go_enter Try.func38, Try.ntmps38
    go_wp2_with fail
    refine (impl_PathTo_c A c t a _ H.out hl hc).mono ?_
    rintro e w1 ⟨u, rfl, ho, hb⟩
    rw [FP.out] at ho
    obtain ⟨Ap, cp, rfl, _, _, _⟩ := ho.form
    have Z := Lib.hid hb
    clear ho hb
    go_wp2_with fail
    go_ret
    exact ⟨ret_str F.out.symm, Z.out⟩
end Go.Proofs.Ytjmeeiofoioojaa
