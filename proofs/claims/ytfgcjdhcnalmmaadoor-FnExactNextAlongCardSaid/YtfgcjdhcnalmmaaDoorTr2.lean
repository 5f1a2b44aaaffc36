/-
  Valid trees: the contracts of the reference's functions; who is above whom.
-/
import Derived.Test.YtfgcjdhcnalmmaaDoorTr1
import Derived.Test.YtfgcjdhcnalmmaaDoorDr
namespace Go.Proofs.YtfgcjdhcnalmmaaDoor
open Go.RowKit

theorem empty_list {s : ByteArray} (h : s.size = 0) : s.toList = [] := by
  rw [ByteArray.toList_eq]
  exact List.eq_nil_of_length_eq_zero (by rw [Array.length_toList]; exact h)
theorem empty_not {s : ByteArray} (h : ¬ s.size = 0) : s.toList.isEmpty = false ∧ (s.toList == []) = false := by
  have h1 : s.toList.length = s.size := by rw [ByteArray.toList_eq, Array.length_toList]; rfl
  cases hs : s.toList with
  | nil => rw [hs] at h1; exact absurd h1.symm h
  | cons x r => exact ⟨rfl, rfl⟩
theorem validName_q (s : ByteArray) (hs : s.size ≤ maxLen) (v : Bool) (h : nameOk s = v) (w : World) (k : Nat) : Calls Tryd.prog 97 #[.string s] (w.drewN k) fun e w' => e = .returned (.bool v) ∧ ∃ m, w' = w.drewN m := by
  subst h; exact quiet_left (validName_c s hs _)
theorem kid_q (A : Option Addr) (c n : Nat) (t : List Nd) (hn : t.length = n) (a : Int) (name : ByteArray) (B : Nat) (v : Int) (hv : kidL t a name = v) (w : World) (h : Rd ndE w B A t) (hl : n ≤ 1048577) (h0 : ∀ (hk : 0 < t.length), t[0].par ≠ a) (k : Nat) :
    Calls Tryd.prog 98 #[.slice A n c, .int .i64 a, .string name] (w.drewN k) fun e w' => e = .returned (.int .i64 v) ∧ ∃ m, w' = w.drewN m := by
  subst hn hv; exact quiet_left (kid_c A c t a name B _ (h.dr ⟨k, rfl⟩) hl h0)
theorem depth_q (A : Option Addr) (c : Nat) (t : List Nd) (i p : Nat) (B : Nat) (v : Int) (hv : (dep t i : Int) = v) (w : World) (h : Rd ndE w B A t) (hl : t.length ≤ 1048577) (hi : i < t.length) (ho : OkTo t i) (hp : t[i].par = (p : Int)) (hlt : p < i) (k : Nat) :
    Calls Tryd.prog 99 #[.slice A t.length c, .int .i64 i] (w.drewN k) fun e w' => e = .returned (.int .i64 v) ∧ ∃ m, w' = w.drewN m := by
  subst hv; exact quiet_left (depth_c A c t i p B _ (h.dr ⟨k, rfl⟩) hl hi ho hp hlt)

theorem nodeOk_zero {t : List Nd} {i : Nat} {x : Nd} (h : i = 0) (hv : inR x.val (-1000) 1000 = true) : nodeOk t i x = ((x.par == -1) && (x.name.size == 0)) := by
  simp [nodeOk, h, hv]
theorem nodeOk_more {t : List Nd} {i : Nat} {x : Nd} (h : 0 < i) (hv : inR x.val (-1000) 1000 = true) : nodeOk t i x = (((inR x.par 0 ((i : Int) - 1) && nameOk x.name) && decide (kidL (t.take i) x.par x.name < 0)) && decide (dep t i ≤ 4)) := by
  simp [nodeOk, show i ≠ 0 by omega, hv]
theorem nodeOk_val_bad {t : List Nd} {i : Nat} {x : Nd} (hv : inR x.val (-1000) 1000 = false) : nodeOk t i x = false := by
  simp [nodeOk, hv]

set_option maxRecDepth 100000 in
set_option maxHeartbeats 4000000 in
theorem validNode_c (A : Option Addr) (c : Nat) (t : List Nd) (i : Nat) (B : Nat) (w : World) (h : Rd ndE w B A t) (hl : t.length ≤ 1048577) (hc : t.length ≤ c) (hi : i < t.length) (ho : OkTo t i) :
    Calls Tryd.prog 81 #[.slice A t.length c, .int .i64 i] w fun e w' => e = .returned (.bool (nodeOk t i t[i])) ∧ Dr w w' := by
  obtain ⟨b, o, e1, hb, c0, c1, c2⟩ := h.nd hi
  have H := Lib.hid (And.intro h ho)
  clear h ho
  by_cases hv : inR t[i].val (-1000) 1000 = true
  · rcases Nat.eq_zero_or_pos i with hz | hz
    · have F := Lib.hid (nodeOk_zero (t := t) hz hv)
      have hz2 : ((i : Int) == 0) = true := by rw [hz]; rfl
      clear hz
      by_cases h1 : (t[i].par == -1) = true
      · by_cases h2 : t[i].name.size = 0
        · have h3 := empty_list h2
          have F2 := Lib.hid (show nodeOk t i t[i] = true by rw [F.out, h1, h2]; rfl)
          clear h2
          subst e1
          go_enter Tryd.func81, Tryd.ntmps81
          go_wp2_with (go_at_call 49; refine (inRange_c _ _ _ _).mono ?_; rintro e w' ⟨rfl, rfl⟩)
          go_ret
          exact ⟨ret_bool F2.out.symm, Dr.refl _⟩
        · obtain ⟨h3, h4⟩ := empty_not h2
          have F2 := Lib.hid (show nodeOk t i t[i] = false by rw [F.out, h1]; simp [h2])
          clear h2
          subst e1
          go_enter Tryd.func81, Tryd.ntmps81
          go_wp2_with (go_at_call 49; refine (inRange_c _ _ _ _).mono ?_; rintro e w' ⟨rfl, rfl⟩)
          go_ret
          exact ⟨ret_bool F2.out.symm, Dr.refl _⟩
      · rw [Bool.not_eq_true] at h1
        have F2 := Lib.hid (show nodeOk t i t[i] = false by rw [F.out, h1]; rfl)
        subst e1
        go_enter Tryd.func81, Tryd.ntmps81
        go_wp2_with (go_at_call 49; refine (inRange_c _ _ _ _).mono ?_; rintro e w' ⟨rfl, rfl⟩)
        go_ret
        exact ⟨ret_bool F2.out.symm, Dr.refl _⟩
    · have F := Lib.hid (nodeOk_more (t := t) hz hv)
      have hz2 : ((i : Int) == 0) = false := by rw [beq_eq_false_iff_ne]; omega
      have hwr : IntKind.i64.wrap ((i : Int) - 1) = (i : Int) - 1 := by rw [IntKind.wrap_i64]; omega
      have HN := t[i].small
      by_cases h1 : inR t[i].par 0 ((i : Int) - 1) = true
      · obtain ⟨p, hp, hlt⟩ : ∃ p : Nat, t[i].par = (p : Int) ∧ p < i := by
          simp [inR] at h1
          exact ⟨t[i].par.toNat, by omega, by omega⟩
        have K0 := Lib.hid (show ∀ (hk : 0 < (t.take i).length), (t.take i)[0].par ≠ t[i].par by
          intro hk
          have := H.out.2.root hz (by omega)
          rw [List.getElem_take, this, hp]; omega)
        have LT := Lib.hid (show (t.take i).length = i by rw [List.length_take]; omega)
        have HP := Lib.hid hp
        clear hp
        obtain ⟨kv, hkv⟩ : ∃ kv, kidL (t.take i) t[i].par t[i].name = kv := ⟨_, rfl⟩
        obtain ⟨dv, hdv⟩ : ∃ dv : Int, (dep t i : Int) = dv := ⟨_, rfl⟩
        have HK := Lib.hid hkv
        have HD := Lib.hid hdv
        have F1 := Lib.hid (show nodeOk t i t[i] = ((true && nameOk t[i].name) && decide (kv < 0) && decide (dv ≤ 4)) by
          rw [F.out, h1, hkv]
          congr 1
          exact decide_eq_decide.2 (by omega))
        clear hkv hdv
        have QK : ∀ n, Calls Tryd.prog 98 #[.slice A i c, .int .i64 t[i].par, .string t[i].name] (w.drewN n) fun e w' => e = .returned (.int .i64 kv) ∧ ∃ m, w' = w.drewN m := fun n => kid_q A c i (t.take i) LT.out _ _ B kv HK.out w (H.out.1.take i) (by omega) K0.out n
        have QD : ∀ n, Calls Tryd.prog 99 #[.slice A t.length c, .int .i64 i] (w.drewN n) fun e w' => e = .returned (.int .i64 dv) ∧ ∃ m, w' = w.drewN m := fun n => depth_q A c t i p B dv HD.out w H.out.1 hl hi H.out.2 HP.out hlt n
        have Q := Lib.hid (And.intro QK QD)
        clear QK QD
        by_cases h2 : nameOk t[i].name = true
        · by_cases h3 : kv < 0
          · by_cases h4 : dv ≤ 4
            · have F2 := Lib.hid (show nodeOk t i t[i] = true by rw [F1.out, h2]; simp [h3, h4])
              have g3 : decide (kv < 0) = true := by simpa using h3
              have g4 : decide (dv ≤ 4) = true := by simpa using h4
              subst e1
              go_enter Tryd.func81, Tryd.ntmps81
              go_wp2_with (go_at_call 49; refine (inRange_c _ _ _ _).mono ?_; rintro e w' ⟨rfl, rfl⟩)
              go_quiet (first | (go_at_call 49; exact inRange_q _ _ _ true h1 _ _) | (go_at_call 97; exact validName_q _ HN true h2 _ _) | (go_at_call 98; exact Q.out.1 _) | (go_at_call 99; exact Q.out.2 _))
              go_wp2_with fail
              go_ret
              exact ⟨ret_bool F2.out.symm, ⟨_, rfl⟩⟩
            · have F2 := Lib.hid (show nodeOk t i t[i] = false by rw [F1.out]; simp [h4])
              have g3 : decide (kv < 0) = true := by simpa using h3
              have g4 : decide (dv ≤ 4) = false := by simpa using h4
              subst e1
              go_enter Tryd.func81, Tryd.ntmps81
              go_wp2_with (go_at_call 49; refine (inRange_c _ _ _ _).mono ?_; rintro e w' ⟨rfl, rfl⟩)
              go_quiet (first | (go_at_call 49; exact inRange_q _ _ _ true h1 _ _) | (go_at_call 97; exact validName_q _ HN true h2 _ _) | (go_at_call 98; exact Q.out.1 _) | (go_at_call 99; exact Q.out.2 _))
              go_wp2_with fail
              go_ret
              exact ⟨ret_bool F2.out.symm, ⟨_, rfl⟩⟩
          · have F2 := Lib.hid (show nodeOk t i t[i] = false by rw [F1.out]; simp [h3])
            have g3 : decide (kv < 0) = false := by simpa using h3
            subst e1
            go_enter Tryd.func81, Tryd.ntmps81
            go_wp2_with (go_at_call 49; refine (inRange_c _ _ _ _).mono ?_; rintro e w' ⟨rfl, rfl⟩)
            go_quiet (first | (go_at_call 49; exact inRange_q _ _ _ true h1 _ _) | (go_at_call 97; exact validName_q _ HN true h2 _ _) | (go_at_call 98; exact Q.out.1 _) | (go_at_call 99; exact Q.out.2 _))
            go_wp2_with fail
            go_ret
            exact ⟨ret_bool F2.out.symm, ⟨_, rfl⟩⟩
        · rw [Bool.not_eq_true] at h2
          have F2 := Lib.hid (show nodeOk t i t[i] = false by rw [F1.out, h2]; rfl)
          subst e1
          go_enter Tryd.func81, Tryd.ntmps81
          go_wp2_with (go_at_call 49; refine (inRange_c _ _ _ _).mono ?_; rintro e w' ⟨rfl, rfl⟩)
          go_quiet (first | (go_at_call 49; exact inRange_q _ _ _ true h1 _ _) | (go_at_call 97; exact validName_q _ HN false h2 _ _))
          go_wp2_with fail
          go_ret
          exact ⟨ret_bool F2.out.symm, ⟨_, rfl⟩⟩
      · rw [Bool.not_eq_true] at h1
        have F2 := Lib.hid (show nodeOk t i t[i] = false by rw [F.out, h1]; rfl)
        subst e1
        go_enter Tryd.func81, Tryd.ntmps81
        go_wp2_with (go_at_call 49; refine (inRange_c _ _ _ _).mono ?_; rintro e w' ⟨rfl, rfl⟩)
        go_quiet ((go_at_call 49; exact inRange_q _ _ _ false h1 _ _))
        go_wp2_with fail
        go_ret
        exact ⟨ret_bool F2.out.symm, ⟨_, rfl⟩⟩
  · rw [Bool.not_eq_true] at hv
    have F2 := Lib.hid (nodeOk_val_bad (t := t) (i := i) hv)
    subst e1
    go_enter Tryd.func81, Tryd.ntmps81
    go_wp2_with (go_at_call 49; refine (inRange_c _ _ _ _).mono ?_; rintro e w' ⟨rfl, rfl⟩)
    go_ret
    exact ⟨ret_bool F2.out.symm, Dr.refl _⟩
set_option maxRecDepth 100000 in
set_option maxHeartbeats 1000000 in
theorem validTree_c (A : Option Addr) (c : Nat) (t : List Nd) (B : Nat) (w : World) (h : Rd ndE w B A t) (hl : t.length ≤ 1048577) (hc : t.length ≤ c) :
    Calls Tryd.prog 48 #[.slice A t.length c] w fun e w' => e = .returned (.bool (treeOk t)) ∧ Dr w w' := by
  have H := Lib.hid h
  clear h
  go_enter Tryd.func48, Tryd.ntmps48
  go_wp2_with fail
  go_loopw [3] (fun i wr => ∃ k : Nat, k ≤ t.length ∧ i = .int .i64 k ∧ Hid (OkTo t k) ∧ Dr w wr) (fun i _ => t.length - (intOf i).toNat)
  case atStart => exact ⟨0, by omega, rfl, Lib.hid (OkTo.zero t), Dr.refl w⟩
  case round =>
    obtain ⟨k, hk, rfl, hok, hd⟩ := hrel
    by_cases hlt : k < t.length
    · have R := Lib.hid hd
      clear hd
      by_cases hn : nodeOk t k t[k] = true
      · have F := Lib.hid (OkTo.next hlt hok.out hn)
        have HN := Lib.hid hn
        clear hn
        go_wp2_with fail
        refine (validNode_c A c t k B _ (H.out.dr R.out) hl hc hlt hok.out).mono ?_
        rintro e w1 ⟨rfl, hd⟩
        have S := Lib.hid hd
        clear hd
        rw [HN.out]
        go_wp2_with fail
        go_roundw
        case rel => exact ⟨k + 1, by omega, by go_num, F, R.out.trans S.out⟩
        case measure => simp [intOf]; omega
      · rw [Bool.not_eq_true] at hn
        have F := Lib.hid (treeOk_bad hlt hn)
        have HN := Lib.hid hn
        clear hn
        go_wp2_with fail
        refine (validNode_c A c t k B _ (H.out.dr R.out) hl hc hlt hok.out).mono ?_
        rintro e w1 ⟨rfl, hd⟩
        have S := Lib.hid hd
        clear hd
        rw [HN.out]
        go_wp2_with fail
        go_ret
        exact ⟨ret_bool F.out.symm, R.out.trans S.out⟩
    · obtain rfl : k = t.length := by omega
      have R := Lib.hid hd
      clear hd
      have F := Lib.hid (show treeOk t = inR (t.length : Int) 1 12 by
        rw [Bool.eq_iff_iff, treeOk_iff]
        simp only [inR, Bool.and_eq_true, decide_eq_true_eq]
        exact ⟨fun h => by omega, fun h => ⟨hok.out, by omega, by omega⟩⟩)
      go_wp2_with (go_at_call 49; refine (inRange_c _ _ _ _).mono ?_; rintro e w' ⟨rfl, rfl⟩)
      go_ret
      exact ⟨ret_bool F.out.symm, R.out⟩
end Go.Proofs.YtfgcjdhcnalmmaaDoor
