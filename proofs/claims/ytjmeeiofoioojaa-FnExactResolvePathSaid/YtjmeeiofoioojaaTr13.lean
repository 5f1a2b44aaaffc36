/-
  The node with a path: the contracts of the reference's and the program's functions.
-/
import Derived.Test.YtjmeeiofoioojaaTr12
namespace Go.Proofs.Ytjmeeiofoioojaa
open Go.RowKit

theorem cut_spec : ∀ (r : List UInt8), (0 ≤ Go.Lib.index r [47] ∧ parts r = r.take (Go.Lib.index r [47]).toNat :: parts (r.drop ((Go.Lib.index r [47]).toNat + 1)) ∧ (Go.Lib.index r [47]).toNat < r.length) ∨ (Go.Lib.index r [47] = -1 ∧ parts r = [r])
  | [] => .inr ⟨rfl, rfl⟩
  | c :: l => by
    have ih := cut_spec l
    by_cases h : c = 47
    · subst h
      left
      have e : Go.Lib.index (47 :: l) [47] = 0 := by simp [Go.Lib.index]
      rw [e]
      exact ⟨by omega, by simp [parts], by simp⟩
    · have e0 : ([47] : List UInt8).isPrefixOf (c :: l) = false := by simp [List.isPrefixOf]; exact fun e => h e.symm
      rcases ih with ⟨h1, h2, h3⟩ | ⟨h1, h2⟩
      · left
        have e : Go.Lib.index (c :: l) [47] = Go.Lib.index l [47] + 1 := by
          rw [Go.Lib.index, e0]
          have : (Go.Lib.index l [47] == -1) = false := by rw [beq_eq_false_iff_ne]; omega
          simp [this]
        have e2 : (Go.Lib.index l [47] + 1).toNat = (Go.Lib.index l [47]).toNat + 1 := by omega
        rw [e, e2]
        refine ⟨by omega, ?_, by simp; omega⟩
        rw [parts, if_neg h, h2]
        simp
      · right
        have e : Go.Lib.index (c :: l) [47] = -1 := by rw [Go.Lib.index, e0, h1]; rfl
        exact ⟨e, by rw [parts, if_neg h, h2]⟩
noncomputable def resF (t : List Nd) (s : ByteArray) : Int := if treeOk t = true then resL t s.data.toList else -1

set_option maxRecDepth 100000 in
set_option maxHeartbeats 1000000 in
theorem resolve_c (A : Option Addr) (c : Nat) (t : List Nd) (s : ByteArray) (w : World) (h : Rd ndE w w.heap.size A t) (hl : t.length ≤ 1048577) (ho : OkTo t t.length) (h1 : 0 < t.length) :
    Calls Try.prog 71 #[.slice A t.length c, .string s] w fun e w' => e = .returned (.int .i64 (resL t s.data.toList)) ∧ Below w.heap.size w w' := by
  have H := Lib.hid (And.intro h ho)
  clear h ho
  obtain ⟨rv, hrv⟩ : ∃ rv, resL t s.data.toList = rv := ⟨_, rfl⟩
  have HV := Lib.hid hrv
  rw [hrv]
  clear hrv
  go_enter Try.func71, Try.ntmps71
  go_wp2_with fail
  go_loopw [5] (fun iv wr => ∃ k : Nat, iv = .int .i64 k ∧ k ≤ t.length ∧ Hid (∀ j : Nat, j < k → rv ≠ (j : Int)) ∧ Below w.heap.size w wr) (fun iv _ => t.length - (intOf iv).toNat)
  case atStart => exact ⟨0, rfl, by omega, Lib.hid (fun j hj => by omega), Below.refl _ _⟩
  case round =>
    obtain ⟨k, rfl, hk, hm, hbel⟩ := hrel
    by_cases hlt : k < t.length
    · have R := Lib.hid hbel
      clear hbel
      by_cases he : txtL t k = s.data.toList
      · have F := Lib.hid (show rv = (k : Int) by rw [← HV.out]; exact (txt_iff H.out.2 hlt _).1 he)
        have e2 : ((PT t k).toList == s.toList) = true := by
          rw [ByteArray.toList_eq, ByteArray.toList_eq, beq_iff_eq]; exact he
        clear he
        go_wp2_with fail
        refine (pathText_c A c t k _ (H.out.1.grow R.out) hl H.out.2 hlt).mono ?_
        rintro e w2 ⟨rfl, hb⟩
        have Z := Lib.hid (R.out.trans (hb.mono R.out.size))
        clear hb
        go_wp2_with fail
        go_ret
        exact ⟨ret_int F.out.symm, Z.out⟩
      · have F := Lib.hid (show ∀ j : Nat, j < k + 1 → rv ≠ (j : Int) from fun j hj e => by
          rcases Nat.lt_or_ge j k with h3 | h3
          · exact hm.out j h3 e
          · obtain rfl : j = k := by omega
            exact he ((txt_iff H.out.2 hlt _).2 (by rw [HV.out]; exact e)))
        have e2 : ((PT t k).toList == s.toList) = false := by
          rw [ByteArray.toList_eq, ByteArray.toList_eq, beq_eq_false_iff_ne]; exact he
        clear he
        go_wp2_with fail
        refine (pathText_c A c t k _ (H.out.1.grow R.out) hl H.out.2 hlt).mono ?_
        rintro e w2 ⟨rfl, hb⟩
        have Z := Lib.hid (R.out.trans (hb.mono R.out.size))
        clear hb
        go_wp2_with fail
        go_roundw
        case rel => exact ⟨k + 1, by go_num, by omega, F, Z.out⟩
        case measure => simp [intOf]; omega
    · have F := Lib.hid (show rv = -1 by
        rcases resL_bd h1 s.data.toList with e | ⟨j, hj, e⟩
        · rw [← HV.out]; exact e
        · exact absurd (HV.out.symm.trans e) (hm.out j (by omega)))
      have R := Lib.hid hbel
      clear hbel
      go_wp2_with fail
      go_ret
      exact ⟨ret_int F.out.symm, R.out⟩
set_option maxRecDepth 100000 in
set_option maxHeartbeats 1000000 in
theorem spec_ResolvePath_c (A : Option Addr) (c : Nat) (t : List Nd) (s : ByteArray) (w : World) (h : Rd ndE w w.heap.size A t) (hl : t.length ≤ 1048576) (_hs : s.size ≤ 1048576) (hc : t.length ≤ c) :
    Calls Try.prog 39 #[.slice A t.length c, .string s] w fun e w' => e = .returned (.int .i64 (resF t s)) ∧ Below w.heap.size w w' := by
  have H := Lib.hid h
  clear h
  by_cases h1 : treeOk t = true
  · have F := Lib.hid (show resF t s = resL t s.data.toList by rw [resF, if_pos h1])
    have OK := Lib.hid (treeOk_iff.1 h1)
    have HT := Lib.hid h1
    clear h1
    go_enter Try.func39, Try.ntmps39
    go_wp2_with fail
    refine (validTree_c A c t _ _ H.out (by omega) hc).mono ?_
    rintro e w1 ⟨rfl, hd⟩
    have B := Lib.hid (hd.below w.heap.size)
    clear hd
    rw [HT.out]
    go_wp2_with fail
    refine (resolve_c A c t s _ (H.out.grow B.out) (by omega) OK.out.1 OK.out.2.1).mono ?_
    rintro e w2 ⟨rfl, hb⟩
    have Z := Lib.hid (B.out.trans (hb.mono B.out.size))
    clear hb
    go_wp2_with fail
    go_ret
    exact ⟨ret_int F.out.symm, Z.out⟩
  · rw [Bool.not_eq_true] at h1
    have F := Lib.hid (show resF t s = -1 by rw [resF, h1]; rfl)
    have HT := Lib.hid h1
    clear h1
    go_enter Try.func39, Try.ntmps39
    go_wp2_with fail
    refine (validTree_c A c t _ _ H.out (by omega) hc).mono ?_
    rintro e w1 ⟨rfl, hd⟩
    have B := Lib.hid hd
    clear hd
    rw [HT.out]
    go_wp2_with fail
    go_ret
    exact ⟨ret_int F.out.symm, B.out.below _⟩
/-- the library's variable of which its search reads a number -/
def MxL (m : Int) (w : World) : Prop := w.cell? ⟨0, 0, none⟩ = some (.int .i64 m)
theorem MxL.below {m : Int} {w w' : World} (h : MxL m w) (hb : Below w.heap.size w w') : MxL m w' := (hb.cell (p := ⟨0, 0, none⟩) (cell_lt h)).trans h
def ba (l : List UInt8) : ByteArray := ⟨l.toArray⟩
theorem ba_list (l : List UInt8) : (ba l).data.toList = l := by simp [ba]
theorem ba_back (s : ByteArray) : ba s.data.toList = s := back s
/-- a cut of a text at its first stroke -/
theorem cut_c (r : ByteArray) (m : Int) (w : World) (hr : r.size ≤ 1048576) (hm : MxL m w) :
    Calls Try.prog 73 #[.string r, .string ⟨#[47]⟩] w fun e w' => (∃ (n q : ByteArray) (y : Bool), e = .returned (.tuple #[.string n, .string q, .bool y]) ∧ q.size ≤ r.size ∧ (y = true → parts r.data.toList = n.data.toList :: parts q.data.toList ∧ q.size < r.size) ∧ (y = false → parts r.data.toList = [n.data.toList])) ∧ Below w.heap.size w w' := by
  have h := Try.strings_Cut r ⟨#[47]⟩ m w (by omega) hm
  refine h.mono ?_
  rintro e w' ⟨rfl, k, rfl⟩
  refine ⟨?_, below_drewN (Below.refl _ _) _⟩
  have e47 : (⟨#[47]⟩ : ByteArray).data.toList = [47] := rfl
  rw [e47]
  have hlen : r.data.toList.length = r.size := Array.length_toList
  rcases cut_spec r.data.toList with ⟨h1, h2, h3⟩ | ⟨h1, h2⟩
  · have e : Go.Lib.cut r.data.toList [47] = (r.data.toList.take (Go.Lib.index r.data.toList [47]).toNat, r.data.toList.drop ((Go.Lib.index r.data.toList [47]).toNat + 1), true) := by
      unfold Go.Lib.cut; rw [if_pos h1]; rfl
    rw [e]
    refine ⟨_, _, _, rfl, ?_, fun _ => ⟨?_, ?_⟩, fun h => by cases h⟩
    · show (r.data.toList.drop _).toArray.size ≤ r.size
      rw [List.size_toArray, List.length_drop]; omega
    · simp only [h2]
    · show (r.data.toList.drop _).toArray.size < r.size
      rw [List.size_toArray, List.length_drop]; omega
  · have e : Go.Lib.cut r.data.toList [47] = (r.data.toList, [], false) := by
      unfold Go.Lib.cut; rw [if_neg (by omega)]
    rw [e]
    refine ⟨_, _, _, rfl, ?_, (fun h => by cases h), fun _ => h2⟩
    show ([] : List UInt8).toArray.size ≤ r.size
    simp
theorem prefix_spec (s : ByteArray) : (∃ r, s.data.toList = 47 :: r ∧ Go.Lib.hasPrefix s.data.toList [47] = true ∧ Go.Lib.trimPrefix s.data.toList [47] = r) ∨ (Go.Lib.hasPrefix s.data.toList [47] = false ∧ ∀ t, resL t s.data.toList = -1) := by
  cases h : s.data.toList with
  | nil => exact .inr ⟨rfl, fun t => rfl⟩
  | cons c r =>
    by_cases hc : c = 47
    · subst hc
      have e : Go.Lib.hasPrefix (47 :: r) [47] = true := by simp [Go.Lib.hasPrefix]
      exact .inl ⟨r, rfl, e, by rw [Go.Lib.trimPrefix, if_pos e]; rfl⟩
    · exact .inr ⟨by simp [Go.Lib.hasPrefix, List.isPrefixOf]; exact fun e => hc e.symm, fun t => by rw [resL, if_neg hc]⟩

set_option maxRecDepth 100000 in
set_option maxHeartbeats 1000000 in
theorem impl_ResolvePath_c (A : Option Addr) (c : Nat) (t : List Nd) (s : ByteArray) (w : World) (h : Rd ndE w w.heap.size A t) (hl : t.length ≤ 1048576) (hs : s.size ≤ 1048576) (hc : t.length ≤ c) (mx : Int) (hmx : MxL mx w) :
    Calls Try.prog 40 #[.slice A t.length c, .string s] w fun e w' => e = .returned (.int .i64 (resF t s)) ∧ Below w.heap.size w w' := by
  have H := Lib.hid (And.intro h hmx)
  clear h hmx
  by_cases h1 : treeOk t = true
  · have F := Lib.hid (show resF t s = resL t s.data.toList by rw [resF, if_pos h1])
    have OK := Lib.hid (treeOk_iff.1 h1)
    have HT := Lib.hid h1
    clear h1
    have CP := Lib.hid (fun W => Try.strings_CutPrefix s ⟨#[47]⟩ W)
    rcases prefix_spec s with ⟨r, e1, e2, e3⟩ | ⟨e2, e3⟩
    · have hrl : r.length ≤ 1048576 := by
        have : s.data.toList.length = s.size := Array.length_toList
        rw [e1] at this; simp at this; omega
      have E := Lib.hid (And.intro e1 (And.intro e2 e3))
      clear e1 e2 e3
      go_enter Try.func40, Try.ntmps40
      go_wp2_with fail
      refine (impl_ValidTree_c A c t _ H.out.1 (by omega) hc).mono ?_
      rintro e w1 ⟨rfl, hb⟩
      have B := Lib.hid hb
      clear hb
      rw [HT.out]
      go_wp2_with fail
      refine (CP.out _).mono ?_
      rintro e w2 ⟨rfl, rfl⟩
      rw [E.out.2.1, E.out.2.2]
      obtain ⟨rb, hrb⟩ : ∃ rb : ByteArray, (⟨r.toArray⟩ : ByteArray) = rb := ⟨_, rfl⟩
      rw [hrb]
      have RB := Lib.hid (show rb.data.toList = r by rw [← hrb])
      have hrs : rb.size ≤ 1048576 := by rw [← hrb]; show r.toArray.size ≤ _; simpa using hrl
      clear hrb
      by_cases hr : r = []
      · have hz : rb.toList = [] := by rw [ByteArray.toList_eq, RB.out, hr]
        have hz2 : rb.toList.isEmpty = true := by rw [hz]; rfl
        have F2 := Lib.hid (show resF t s = 0 by rw [F.out, E.out.1, resL, if_pos rfl, if_pos hr])
        clear hr
        go_wp2_with fail
        go_ret
        exact ⟨ret_int F2.out.symm, B.out⟩
      · have hz : rb.toList.isEmpty = false ∧ (rb.toList == []) = false := by
          rw [ByteArray.toList_eq, RB.out]
          cases r with
          | nil => exact absurd rfl hr
          | cons x y => exact ⟨rfl, rfl⟩
        obtain ⟨hz1, hz2⟩ := hz
        have F2 := Lib.hid (show resF t s = resP t 0 (parts rb.data.toList) by rw [F.out, E.out.1, resL, if_pos rfl, if_neg hr, RB.out])
        clear hr
        go_wp2_with fail
        go_loopw [5, 7, 8] (fun rv av mv wr => ∃ (q : ByteArray) (a : Int) (m : Bool), rv = .string q ∧ av = .int .i64 a ∧ mv = .bool m ∧ 0 ≤ a ∧ q.size ≤ 1048576 ∧ Hid (resF t s = if m = true then resP t a (parts q.data.toList) else a) ∧ Below w.heap.size w wr) (fun rv _ mv _ => match rv, mv with | .string q, .bool true => q.size + 1 | _, _ => 0)
        case atStart => exact ⟨rb, 0, true, rfl, rfl, rfl, by omega, hrs, Lib.hid F2.out, B.out⟩
        case round =>
          obtain ⟨q, a, m, rfl, rfl, rfl, ha, hq, hm, hbel⟩ := hrel
          have R := Lib.hid hbel
          clear hbel
          cases m
          · have F3 := Lib.hid (show resF t s = a from hm.out)
            go_wp2_with fail
            go_ret
            exact ⟨ret_int F3.out.symm, R.out⟩
          · have F3 := Lib.hid (show resF t s = resP t a (parts q.data.toList) from hm.out)
            go_wp2_with fail
            refine (cut_c q mx _ hq (H.out.2.below R.out)).mono ?_
            rintro e w3 ⟨⟨n2, q2, y, rfl, hq2, hy1, hy2⟩, hb⟩
            have Z := Lib.hid (R.out.trans (hb.mono R.out.size))
            have hq3 : q2.size ≤ 1048576 := by omega
            have hq4 : y = true → q2.size < q.size := fun h => (hy1 h).2
            obtain ⟨kv, hkv⟩ : ∃ kv, kidL t a n2 = kv := ⟨_, rfl⟩
            have Y := Lib.hid (And.intro hy1 (And.intro hy2 hkv))
            clear hb hy1 hy2 hkv
            go_wp2_with fail
            refine (kidIn_c A c t a n2 _ (H.out.1.grow Z.out) (by omega)).mono ?_
            rintro e w4 ⟨rfl, hb⟩
            have Z4 := Lib.hid (Z.out.trans (hb.mono Z.out.size))
            clear hb
            rw [Y.out.2.2]
            by_cases hn : kv < 0
            · have F4 := Lib.hid (show resF t s = -1 by
                rw [F3.out]
                cases y
                · rw [Y.out.2.1 rfl, resP, back, if_pos (by rw [Y.out.2.2]; exact hn)]
                · rw [(Y.out.1 rfl).1, resP, back, if_pos (by rw [Y.out.2.2]; exact hn)])
              go_wp2_with fail
              go_ret
              exact ⟨ret_int F4.out.symm, Z4.out⟩
            · have F4 := Lib.hid (show resF t s = if y = true then resP t kv (parts q2.data.toList) else kv by
                rw [F3.out]
                cases y
                · rw [Y.out.2.1 rfl, resP, back, if_neg (by rw [Y.out.2.2]; exact hn), Y.out.2.2]; rfl
                · rw [(Y.out.1 rfl).1, resP, back, if_neg (by rw [Y.out.2.2]; exact hn), Y.out.2.2]; rfl)
              cases y
              · go_wp2_with fail
                go_roundw
                case rel => exact ⟨q2, kv, false, rfl, rfl, rfl, by omega, hq3, F4, Z4.out⟩
                case measure => simp
              · have hq5 := hq4 rfl
                go_wp2_with fail
                go_roundw
                case rel => exact ⟨q2, kv, true, rfl, rfl, rfl, by omega, hq3, F4, Z4.out⟩
                case measure => simp; omega
    · have F2 := Lib.hid (show resF t s = -1 by rw [F.out, e3])
      have E := Lib.hid e2
      clear e2 e3
      go_enter Try.func40, Try.ntmps40
      go_wp2_with fail
      refine (impl_ValidTree_c A c t _ H.out.1 (by omega) hc).mono ?_
      rintro e w1 ⟨rfl, hb⟩
      have B := Lib.hid hb
      clear hb
      rw [HT.out]
      go_wp2_with fail
      refine (CP.out _).mono ?_
      rintro e w2 ⟨rfl, rfl⟩
      rw [E.out]
      go_wp2_with fail
      go_ret
      exact ⟨ret_int F2.out.symm, B.out⟩
  · rw [Bool.not_eq_true] at h1
    have F := Lib.hid (show resF t s = -1 by rw [resF, h1]; rfl)
    have HT := Lib.hid h1
    clear h1
    go_enter Try.func40, Try.ntmps40
    go_wp2_with fail
    refine (impl_ValidTree_c A c t _ H.out.1 (by omega) hc).mono ?_
    rintro e w1 ⟨rfl, hb⟩
    have B := Lib.hid hb
    clear hb
    rw [HT.out]
    go_wp2_with fail
    go_ret
    exact ⟨ret_int F.out.symm, B.out⟩
end Go.Proofs.Ytjmeeiofoioojaa
