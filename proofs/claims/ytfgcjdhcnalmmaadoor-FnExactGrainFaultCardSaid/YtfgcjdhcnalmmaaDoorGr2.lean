/-
  Locks with nothing above them: the contracts of the reference's and the program's GrainFault.
-/
import Derived.Test.YtfgcjdhcnalmmaaDoorGr1
import Derived.Test.YtfgcjdhcnalmmaaDoorNeed
namespace Go.Proofs.YtfgcjdhcnalmmaaDoor
open Go.RowKit

/-- the first k, from 'k' on, of the next 'm', with p -/
def firstP (p : Nat → Bool) : Nat → Nat → Int
  | 0, _ => -1
  | m + 1, k => if p k then (k : Int) else firstP p m (k + 1)
theorem fst_yes {p : Nat → Bool} {n k : Nat} (hk : k < n) (h : p k = true) : firstP p (n - k) k = (k : Int) := by
  rw [show n - k = (n - (k + 1)) + 1 by omega, firstP, if_pos h]
theorem fst_no {p : Nat → Bool} {n k : Nat} (hk : k < n) (h : p k = false) : firstP p (n - k) k = firstP p (n - (k + 1)) (k + 1) := by
  rw [show n - k = (n - (k + 1)) + 1 by omega, firstP, if_neg (by rw [h]; simp)]
theorem fst_end {p : Nat → Bool} {n k : Nat} (hk : n ≤ k) : firstP p (n - k) k = -1 := by
  rw [show n - k = 0 by omega, firstP]
def parI (t : List Nd) (n : Nat) : Int := match t[n]? with | some x => x.par | none => -1
theorem parI_at {t : List Nd} {n : Nat} (h : n < t.length) : parI t n = t[n].par := by simp [parI, h]
def grainB (t : List Nd) (l : List Lk) (who : Int) (n : Nat) : Bool := joinI (heldL l who (parI t n)) (needI (heldL l who n)) != heldL l who (parI t n)
noncomputable def grainF (t : List Nd) (l : List Lk) (who : Int) : Int := if treeOk t && tabOk l then firstP (grainB t l who) (t.length - 1) 1 else -1
theorem needI_mode {m : Int} (h : modeB m = true) : modeB (needI m) = true := by rcases modeB_cases h with rfl | rfl | rfl | rfl | rfl | rfl <;> rfl
theorem join_zero {m : Int} (h : modeB m = true) : joinI m (needI 0) = m := by rcases modeB_cases h with rfl | rfl | rfl | rfl | rfl | rfl <;> rfl
theorem held_q (A : Option Addr) (c : Nat) (l : List Lk) (who node : Int) (B : Nat) (w : World) (h : Rd lkE w B A l) (hl : l.length ≤ 1048576) (v : Int) (hv : heldL l who node = v) (n : Nat) :
    Calls Tryd.prog 55 #[.slice A l.length c, .int .i64 who, .int .i64 node] (w.drewN n) fun e w' => e = .returned (.int .i64 v) ∧ ∃ m, w' = w.drewN m := by
  subst hv; exact quiet_left (held_c A c l who node B _ h hl)
theorem needAbove_q (m : Int) (hm : modeB m = true) (v : Int) (hv : needI m = v) (w : World) (n : Nat) :
    Calls Tryd.prog 57 #[.int .i64 m] (w.drewN n) fun e w' => e = .returned (.int .i64 v) ∧ ∃ m, w' = w.drewN m := by
  subst hv; exact quiet_left (needAbove_c m hm _)
theorem joined_q (a b : Int) (ha : modeB a = true) (hb : modeB b = true) (v : Int) (hv : joinI a b = v) (w : World) (n : Nat) :
    Calls Tryd.prog 56 #[.int .i64 a, .int .i64 b] (w.drewN n) fun e w' => e = .returned (.int .i64 v) ∧ ∃ m, w' = w.drewN m := by
  subst hv; exact quiet_left (joined_c a b ha hb _)

set_option maxRecDepth 100000 in
set_option maxHeartbeats 4000000 in
theorem spec_GrainFault_c (A : Option Addr) (c : Nat) (t : List Nd) (A2 : Option Addr) (c2 : Nat) (l : List Lk) (who : Int) (w : World) (h : Rd ndE w w.heap.size A t) (h2 : Rd lkE w w.heap.size A2 l) (hl : t.length ≤ 1048576) (hl2 : l.length ≤ 1048576) (hc : t.length ≤ c) :
    Calls Tryd.prog 24 #[.slice A t.length c, .slice A2 l.length c2, .int .i64 who] w fun e w' => e = .returned (.int .i64 (grainF t l who)) ∧ Below w.heap.size w w' := by
  have H := Lib.hid h
  have H2 := Lib.hid h2
  clear h h2
  cases h1 : treeOk t
  · have F := Lib.hid (show grainF t l who = -1 by rw [grainF, h1]; rfl)
    have HT := Lib.hid h1
    clear h1
    go_enter Tryd.func24, Tryd.ntmps24
    go_wp2_with fail
    refine (validTree_c A c t _ _ H.out (by omega) hc).mono ?_
    rintro e w1 ⟨rfl, hd⟩
    have B := Lib.hid hd
    clear hd
    rw [HT.out]
    go_wp2_with fail
    go_ret
    exact ⟨ret_int F.out.symm, B.out.below _⟩
  cases h3 : tabOk l
  · have F := Lib.hid (show grainF t l who = -1 by rw [grainF, h1, h3]; rfl)
    have HT := Lib.hid h1
    have HT2 := Lib.hid h3
    clear h1 h3
    go_enter Tryd.func24, Tryd.ntmps24
    go_wp2_with fail
    refine (validTree_c A c t _ _ H.out (by omega) hc).mono ?_
    rintro e w1 ⟨rfl, hd⟩
    have B := Lib.hid hd
    clear hd
    rw [HT.out]
    go_wp2_with fail
    refine (spec_validTable_c A2 c2 l _ _ (H2.out.dr B.out) hl2).mono ?_
    rintro e w2 ⟨rfl, hd⟩
    have B2 := Lib.hid (B.out.trans hd)
    clear hd
    rw [HT2.out]
    go_wp2_with fail
    go_ret
    exact ⟨ret_int F.out.symm, B2.out.below _⟩
  have F := Lib.hid (show grainF t l who = firstP (grainB t l who) (t.length - 1) 1 by rw [grainF, h1, h3]; rfl)
  have HM := Lib.hid (fun node => heldL_mode (tabOk_iff.1 h3).1 who node)
  have HT := Lib.hid h1
  have HT2 := Lib.hid h3
  clear h1 h3
  go_enter Tryd.func24, Tryd.ntmps24
  go_wp2_with fail
  refine (validTree_c A c t _ _ H.out (by omega) hc).mono ?_
  rintro e w1 ⟨rfl, hd⟩
  have B := Lib.hid hd
  clear hd
  rw [HT.out]
  go_wp2_with fail
  refine (spec_validTable_c A2 c2 l _ _ (H2.out.dr B.out) hl2).mono ?_
  rintro e w2 ⟨rfl, hd⟩
  have B2 := Lib.hid (B.out.trans hd)
  clear hd
  rw [HT2.out]
  go_wp2_with fail
  go_loopw [7] (fun i wr => ∃ k : Nat, i = .int .i64 k ∧ Hid (grainF t l who = firstP (grainB t l who) (t.length - k) k) ∧ Dr w wr) (fun i _ => t.length - (intOf i).toNat)
  case atStart => exact ⟨1, rfl, Lib.hid F.out, B2.out⟩
  case round =>
    obtain ⟨k, rfl, hf, hdr⟩ := hrel
    by_cases hlt : k < t.length
    · obtain ⟨b, o, rfl, hb, c0, c1, c2'⟩ := (H.out.dr hdr).nd hlt
      have R := Lib.hid (And.intro hdr (H2.out.dr hdr))
      clear hdr c1 c2'
      have GB : grainB t l who k = (joinI (heldL l who t[k].par) (needI (heldL l who k)) != heldL l who t[k].par) := by rw [grainB, parI_at hlt]
      obtain ⟨q, hq⟩ : ∃ q, heldL l who k = q := ⟨_, rfl⟩
      obtain ⟨hp, hhp⟩ : ∃ hp, heldL l who t[k].par = hp := ⟨_, rfl⟩
      have mq : modeB q = true := by rw [← hq]; exact HM.out _
      have mp : modeB hp = true := by rw [← hhp]; exact HM.out _
      rw [hq, hhp] at GB
      obtain ⟨g, hg⟩ : ∃ g, needI q = g := ⟨_, rfl⟩
      have mg : modeB g = true := by rw [← hg]; exact needI_mode mq
      rw [hg] at GB
      obtain ⟨jv, hjv⟩ : ∃ jv, joinI hp g = jv := ⟨_, rfl⟩
      rw [hjv] at GB
      have Q1 := Lib.hid (fun n => held_q A2 c2 l who t[k].par _ wr R.out.2 hl2 hp hhp n)
      have Q2 := Lib.hid (fun n => needAbove_q q mq g hg wr n)
      have Q3 := Lib.hid (fun n => joined_q hp g mp mg jv hjv wr n)
      have Q := Lib.hid hq
      have G := Lib.hid GB
      clear hq hhp mq mp hg mg hjv GB
      cases hx : (jv != hp)
      · have X := Lib.hid (fst_no hlt (G.out.trans hx))
        go_wp2_with fail
        refine (held_c A2 c2 l who k _ _ R.out.2 hl2).mono ?_
        rintro e w' ⟨rfl, rfl⟩
        rw [Q.out]
        go_wp2_with fail
        go_quiet (first | (go_at_call 55; exact Q1.out _) | (go_at_call 57; exact Q2.out _) | (go_at_call 56; exact Q3.out _))
        go_wp2_with fail
        go_roundw
        case rel => exact ⟨k + 1, by go_num, Lib.hid (by rw [hf.out, X.out]), R.out.1.drewN _⟩
        case measure => simp [intOf]; omega
      · have X := Lib.hid (fst_yes hlt (G.out.trans hx))
        go_wp2_with fail
        refine (held_c A2 c2 l who k _ _ R.out.2 hl2).mono ?_
        rintro e w' ⟨rfl, rfl⟩
        rw [Q.out]
        go_wp2_with fail
        go_quiet (first | (go_at_call 55; exact Q1.out _) | (go_at_call 57; exact Q2.out _) | (go_at_call 56; exact Q3.out _))
        go_wp2_with fail
        go_ret
        exact ⟨ret_int (by rw [hf.out, X.out]), (R.out.1.drewN _).below _⟩
    · have X := Lib.hid (fst_end (p := grainB t l who) (n := t.length) (k := k) (by omega))
      have R := Lib.hid hdr
      clear hdr
      go_wp2_with fail
      go_ret
      exact ⟨ret_int (by rw [hf.out, X.out]), R.out.below _⟩
set_option maxRecDepth 100000 in
set_option maxHeartbeats 4000000 in
theorem impl_GrainFault_c (A : Option Addr) (c : Nat) (t : List Nd) (A2 : Option Addr) (c2 : Nat) (l : List Lk) (who : Int) (w : World) (h : Rd ndE w w.heap.size A t) (h2 : Rd lkE w w.heap.size A2 l) (hl : t.length ≤ 1048576) (hl2 : l.length ≤ 1048576) (hc : t.length ≤ c) (hc2 : l.length ≤ c2) (ht : TTab w) (hj : JTab w) :
    Calls Tryd.prog 25 #[.slice A t.length c, .slice A2 l.length c2, .int .i64 who] w fun e w' => e = .returned (.int .i64 (grainF t l who)) ∧ Below w.heap.size w w' := by
  have H := Lib.hid h
  have H2 := Lib.hid h2
  have T := Lib.hid (And.intro ht hj)
  clear h h2 ht hj
  cases h1 : treeOk t
  · have F := Lib.hid (show grainF t l who = -1 by rw [grainF, h1]; rfl)
    have HT := Lib.hid h1
    clear h1
    go_enter Tryd.func25, Tryd.ntmps25
    go_wp2_with fail
    refine (impl_ValidTree_c A c t _ H.out (by omega) hc).mono ?_
    rintro e w1 ⟨rfl, hb⟩
    have B := Lib.hid hb
    clear hb
    rw [HT.out]
    go_wp2_with fail
    go_ret
    exact ⟨ret_int F.out.symm, B.out⟩
  cases h3 : tabOk l
  · have F := Lib.hid (show grainF t l who = -1 by rw [grainF, h1, h3]; rfl)
    have HT := Lib.hid h1
    have HT2 := Lib.hid h3
    clear h1 h3
    go_enter Tryd.func25, Tryd.ntmps25
    go_wp2_with fail
    refine (impl_ValidTree_c A c t _ H.out (by omega) hc).mono ?_
    rintro e w1 ⟨rfl, hb⟩
    have B := Lib.hid hb
    clear hb
    rw [HT.out]
    go_wp2_with fail
    refine (impl_ValidTable_c A2 c2 l _ (H2.out.grow B.out) hl2 hc2 (T.out.1.below B.out)).mono ?_
    rintro e w2 ⟨rfl, hb⟩
    have B2 := Lib.hid (B.out.trans (hb.mono B.out.size))
    clear hb
    rw [HT2.out]
    go_wp2_with fail
    go_ret
    exact ⟨ret_int F.out.symm, B2.out⟩
  have F := Lib.hid (show grainF t l who = firstP (grainB t l who) (t.length - 1) 1 by rw [grainF, h1, h3]; rfl)
  have HM := Lib.hid (fun node => heldL_mode (tabOk_iff.1 h3).1 who node)
  have HT := Lib.hid h1
  have HT2 := Lib.hid h3
  clear h1 h3
  go_enter Tryd.func25, Tryd.ntmps25
  go_wp2_with fail
  refine (impl_ValidTree_c A c t _ H.out (by omega) hc).mono ?_
  rintro e w1 ⟨rfl, hb⟩
  have B := Lib.hid hb
  clear hb
  rw [HT.out]
  go_wp2_with fail
  refine (impl_ValidTable_c A2 c2 l _ (H2.out.grow B.out) hl2 hc2 (T.out.1.below B.out)).mono ?_
  rintro e w2 ⟨rfl, hb⟩
  have B2 := Lib.hid (B.out.trans (hb.mono B.out.size))
  clear hb
  rw [HT2.out]
  go_wp2_with fail
  go_loopw [7] (fun i wr => ∃ k : Nat, i = .int .i64 k ∧ Hid (grainF t l who = firstP (grainB t l who) (t.length - k) k) ∧ Below w.heap.size w wr) (fun i _ => t.length - (intOf i).toNat)
  case atStart => exact ⟨1, rfl, Lib.hid F.out, B2.out⟩
  case round =>
    obtain ⟨k, rfl, hf, hbel⟩ := hrel
    have R := Lib.hid hbel
    clear hbel
    by_cases hlt : k < t.length
    · have GB : grainB t l who k = (joinI (heldL l who t[k].par) (needI (heldL l who k)) != heldL l who t[k].par) := by rw [grainB, parI_at hlt]
      obtain ⟨q, hq⟩ : ∃ q, heldL l who k = q := ⟨_, rfl⟩
      obtain ⟨hp, hhp⟩ : ∃ hp, heldL l who t[k].par = hp := ⟨_, rfl⟩
      have mq : modeB q = true := by rw [← hq]; exact HM.out _
      have mp : modeB hp = true := by rw [← hhp]; exact HM.out _
      rw [hq, hhp] at GB
      have S : strM hp (needM q) = !(grainB t l who k) := by
        rw [GB, needM, if_pos mq, strM, mp, needI_mode mq]
        cases h5 : (joinI hp (needI q) == hp) <;> simp [bne, h5]
      have G0 : q = 0 → grainB t l who k = false := by
        intro e
        rw [GB, e, join_zero mp]
        simp
      have Q := Lib.hid (And.intro hq (And.intro hhp (And.intro S G0)))
      clear hq hhp S G0 GB mq mp
      by_cases h0 : q = 0
      · have X := Lib.hid (fst_no hlt (Q.out.2.2.2 h0))
        have Z := Lib.hid h0
        clear h0
        go_wp2_with fail
        refine (heldIn_c A2 c2 l who k _ (H2.out.grow R.out) hl2).mono ?_
        rintro e w3 ⟨rfl, hb⟩
        have B3 := Lib.hid (R.out.trans (hb.mono R.out.size))
        clear hb
        rw [Q.out.1, Z.out]
        go_wp2_with fail
        go_roundw
        case rel => exact ⟨k + 1, by go_num, Lib.hid (by rw [hf.out, X.out]), B3.out⟩
        case measure => simp [intOf]; omega
      · have h0b : (q != 0) = true := by simpa using h0
        clear h0
        go_wp2_with fail
        refine (heldIn_c A2 c2 l who k _ (H2.out.grow R.out) hl2).mono ?_
        rintro e w3 ⟨rfl, hb⟩
        have B3 := Lib.hid (R.out.trans (hb.mono R.out.size))
        clear hb
        rw [Q.out.1]
        obtain ⟨b, o, rfl, hb, c0, c1, c2'⟩ := (H.out.below B3.out (Nat.le_refl _)).nd hlt
        clear c1 c2'
        go_wp2_with fail
        refine (heldIn_c A2 c2 l who t[k].par _ (H2.out.grow B3.out) hl2).mono ?_
        rintro e w4 ⟨rfl, hb4⟩
        have B4 := Lib.hid (B3.out.trans (hb4.mono B3.out.size))
        clear hb4
        rw [Q.out.2.1]
        go_wp2_with fail
        refine (impl_NeedAbove_c q _).mono ?_
        rintro e w' ⟨rfl, rfl⟩
        go_wp2_with fail
        refine (impl_IsStronger_c hp (needM q) _ (T.out.2.below B4.out)).mono ?_
        rintro e w' ⟨rfl, rfl⟩
        rw [Q.out.2.2.1]
        cases hx : grainB t l who k
        · have X := Lib.hid (fst_no hlt hx)
          clear hx
          go_wp2_with fail
          go_roundw
          case rel => exact ⟨k + 1, by go_num, Lib.hid (by rw [hf.out, X.out]), B4.out⟩
          case measure => simp [intOf]; omega
        · have X := Lib.hid (fst_yes hlt hx)
          clear hx
          go_wp2_with fail
          go_ret
          exact ⟨ret_int (by rw [hf.out, X.out]), B4.out⟩
    · have X := Lib.hid (fst_end (p := grainB t l who) (n := t.length) (k := k) (by omega))
      go_wp2_with fail
      go_ret
      exact ⟨ret_int (by rw [hf.out, X.out]), R.out⟩
end Go.Proofs.YtfgcjdhcnalmmaaDoor
