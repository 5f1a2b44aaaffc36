/-
  Serial orders: the contract of the reference's function.
-/
import Derived.Test.YtbbnibjnjmmmnaaPSer
namespace Go.Proofs.Ytbbnibjnjmmmnaa
open Go.RowKit

def lenS : Value → Nat | .slice _ n _ => n | _ => 0
set_option maxHeartbeats 1000000 in
theorem takesPart_c (A : Option Addr) (c : Nat) (l : List Acc) (x : Int) (B : Nat) (w : World) (h : Rd accE w B A l) (hl : l.length ≤ 1048576) :
    Calls Try.prog 69 #[.slice A l.length c, .int .i64 x] w fun e w' => e = .returned (.bool (tkI l x)) ∧ w = w' := by
  have H := Lib.hid h
  clear h
  go_enter Try.func69, Try.ntmps69
  go_wp2_with fail
  go_loop [5] (fun i => ∃ k : Nat, k ≤ l.length ∧ i = .int .i64 k ∧ Hid ((l.take k).any (fun y => y.who == x) = false)) (fun i => l.length - (intOf i).toNat)
  case atStart => exact ⟨0, by omega, rfl, Lib.hid rfl⟩
  case round =>
    obtain ⟨k, hk, rfl, hno⟩ := hrel
    by_cases hlt : k < l.length
    · obtain ⟨b, o, rfl, hb, c0, c1, c2⟩ := H.out.acc hlt
      by_cases hx : (l[k].who == x) = true
      · have F := Lib.hid (show tkI l x = true by rw [tkI, List.any_eq_true]; exact ⟨l[k], List.getElem_mem _, hx⟩)
        go_wp2_with fail
        go_ret
        exact ⟨ret_bool F.out.symm, rfl⟩
      · rw [Bool.not_eq_true] at hx
        go_wp2_with fail
        go_round
        case rel => exact ⟨k + 1, by omega, by go_num, Lib.hid (any_snoc hlt hno.out hx)⟩
        case measure => simp [intOf]; omega
    · have F := Lib.hid (show tkI l x = false from any_done (by omega) hno.out)
      go_wp2_with fail
      go_ret
      exact ⟨ret_bool F.out.symm, rfl⟩

set_option maxRecDepth 100000 in
set_option maxHeartbeats 8000000 in
theorem serial_c (A : Option Addr) (c : Nat) (h : List Acc) (w : World) (hr : Rd accE w w.heap.size A h) (hl : h.length ≤ 1048576) :
    Calls Try.prog 68 #[.slice A h.length c] w fun e w' => ∃ v, e = .returned v ∧ Own inE 3 w' w.heap.size v (serL h) ∧ Below w.heap.size w w' := by
  have H := Lib.hid hr
  clear hr
  have N := Lib.hid (own_new (E := inE) (e := 3) w #[] [] w.heap.size (Nat.le_refl _) (by simp) rfl)
  have B0 := Lib.hid ((Below.refl w.heap.size w).alloc (Nat.le_refl _) (.cells #[] 3))
  go_enter Try.func68, Try.ntmps68
  go_wp2_with fail
  go_loopw [3] (fun vo wr => ∃ out : List Int, Hid (SInv h out) ∧ Own inE 3 wr w.heap.size vo out ∧ Below w.heap.size w wr) (fun vo _ => 5 - lenS vo)
  case atStart => exact ⟨[], Lib.hid (SInv.start h), N.out, B0.out⟩
  case round =>
    obtain ⟨out, hinv, ho, hbel⟩ := hrel
    obtain ⟨Ao, co, rfl, _, _, _⟩ := ho.form
    have hol := hinv.out.len
    have R := Lib.hid (And.intro ho hbel)
    clear ho hbel
    go_wp2_with fail
    go_loopw [4, 5] (fun nv tv wr => ∃ (t : Nat) (n : Int), t ≤ 4 ∧ tv = .int .i64 t ∧ nv = .int .i64 n ∧ Hid (n = nxU (frP h out) t) ∧ Own inE 3 wr w.heap.size (.slice Ao out.length co) out ∧ Below w.heap.size w wr) (fun _ tv _ => 4 - (intOf tv).toNat)
    case atStart => exact ⟨0, -1, by omega, rfl, rfl, Lib.hid rfl, R.out.1, R.out.2⟩
    case round =>
      obtain ⟨t, n, ht, rfl, rfl, hn, ho, hbel⟩ := hrel
      have Q := Lib.hid (And.intro ho hbel)
      clear ho hbel
      by_cases hgo : t < 4 ∧ n < 0
      · obtain ⟨hlt, hneg⟩ := hgo
        have hb4 : decide ((t : Int) < 4) = true := by rw [decide_eq_true_eq]; omega
        have hbn : decide (n < 0) = true := by rw [decide_eq_true_eq]; omega
        have hn1 : n = -1 := by
          rcases nxU_bd (frP h out) t with h1 | ⟨t', _, h1, _⟩
          · rw [hn.out]; exact h1
          · have := hn.out; omega
        subst hn1
        have hc : (tkI h (t : Int) = false ∧ frK h out t 0 = false) ∨ (tkI h (t : Int) = true ∧ hasI out (t : Int) = true ∧ frK h out t 0 = false) ∨ (tkI h (t : Int) = true ∧ hasI out (t : Int) = false ∧ frK h out t 0 = true) := by
          simp only [frK, tk]
          cases tkI h (t : Int) <;> cases hasI out (t : Int) <;> simp
        rcases hc with ⟨e1, e3⟩ | ⟨e1, e2, e3⟩ | ⟨e1, e2, e3⟩
        all_goals
          have F0 := Lib.hid e3
          clear e3
          go_wp2_with (first
            | (go_at_call 69; refine (takesPart_c A c h (t : Int) _ _ (H.out.below Q.out.2 (Nat.le_refl _)) hl).mono ?_; rintro e w' ⟨rfl, rfl⟩)
            | (go_at_call 70; refine (isIn_c _ _ _ _ _ _ Q.out.1.rd.1 (by omega)).mono ?_; rintro e w' ⟨rfl, rfl⟩))
          go_loopw [6, 7] (fun fv av wr' => ∃ (k : Nat) (b : Bool), k ≤ 4 ∧ av = .int .i64 k ∧ fv = .bool b ∧ Hid (b = frK h out t k) ∧ Own inE 3 wr' w.heap.size (.slice Ao out.length co) out ∧ Below w.heap.size w wr') (fun _ av _ => 4 - (intOf av).toNat)
          case atStart => exact ⟨0, _, by omega, rfl, rfl, Lib.hid F0.out.symm, Q.out.1, Q.out.2⟩
          case round =>
            obtain ⟨k, b, hk, rfl, rfl, hb, ho, hbel⟩ := hrel
            have S := Lib.hid (And.intro ho hbel)
            clear ho hbel
            by_cases hlt3 : k < 4
            · cases b
              · go_wp2_with fail
                go_roundw
                case rel => exact ⟨k + 1, false, by omega, by go_num, rfl, Lib.hid (by rw [frK, ← hb.out]; rfl), S.out.1, S.out.2⟩
                case measure => simp [intOf]; omega
              · by_cases e4 : hasI out (k : Int) = true
                · go_wp2_with (go_at_call 70; refine (isIn_c _ _ _ _ _ _ S.out.1.rd.1 (by omega)).mono ?_; rintro e w' ⟨rfl, rfl⟩)
                  go_roundw
                  case rel => exact ⟨k + 1, true, by omega, by go_num, rfl, Lib.hid (by rw [frK, ← hb.out, e4]; rfl), S.out.1, S.out.2⟩
                  case measure => simp [intOf]; omega
                · rw [Bool.not_eq_true] at e4
                  obtain ⟨bf, hbf⟩ : ∃ bf, folB h (k : Int) (t : Int) = bf := ⟨_, rfl⟩
                  have HB := Lib.hid hbf
                  go_wp2_with fail
                  refine (isIn_c _ _ _ _ _ _ S.out.1.rd.1 (by omega)).mono ?_
                  rintro e w' ⟨rfl, rfl⟩
                  go_wp2_with fail
                  refine (mustFollow_c A c h (k : Int) (t : Int) _ _ (H.out.below S.out.2 (Nat.le_refl _)) hl).mono ?_
                  rintro e w3 ⟨rfl, hd⟩
                  have Y := Lib.hid (And.intro (S.out.1.grow (hd.below _)) (S.out.2.trans (hd.below _)))
                  clear hd
                  go_wp2_with fail
                  go_roundw
                  case rel => exact ⟨k + 1, !bf, by omega, by go_num, rfl, Lib.hid (by rw [frK, ← hb.out, e4, show folS h k t = bf from HB.out]; rfl), Y.out.1, Y.out.2⟩
                  case measure => simp [intOf]; omega
            · have e : k = 4 := by omega
              subst e
              cases b
              · have F := Lib.hid (nxU_neg (p := frP h out) (k := t) (by rw [← hn.out]; omega))
                go_wp2_with fail
                go_roundw
                case rel => exact ⟨t + 1, -1, by omega, by go_num, rfl, Lib.hid (by rw [F.out, show frP h out t = false from hb.out.symm]; rfl), S.out.1, S.out.2⟩
                case measure => simp [intOf]; omega
              · have F := Lib.hid (nxU_neg (p := frP h out) (k := t) (by rw [← hn.out]; omega))
                go_wp2_with fail
                go_roundw
                case rel => exact ⟨t + 1, t, by omega, by go_num, rfl, Lib.hid (by rw [F.out, show frP h out t = true from hb.out.symm]; rfl), S.out.1, S.out.2⟩
                case measure => simp [intOf]; omega
      · have hn4 : n = nxU (frP h out) 4 := by
          by_cases e : t < 4
          · rw [nxU_stop4 ht (by rw [← hn.out]; omega)]; exact hn.out
          · obtain rfl : t = 4 := by omega
            exact hn.out
        have HN := Lib.hid hn4
        by_cases hneg : n < 0
        · have F := Lib.hid (hinv.out.fin (by rw [← hn4]; exact hneg))
          have et : t = 4 := by omega
          subst et
          clear hn4
          go_wp2_with fail
          go_ret
          exact ⟨_, rfl, by rw [F.out]; exact Q.out.1, Q.out.2⟩
        · have F := Lib.hid (hinv.out.next (by rw [← hn4]; exact hneg))
          have hbn : decide (n < 0) = false := by rw [decide_eq_false_iff_not]; exact hneg
          clear hn4
          by_cases hlt : t < 4
          all_goals
            go_wp2_with (at_builtin; refine wpList_ap1 slIn rfl (.tmp 48) (.tmp 50) rfl _ _ n rfl w w.heap.size _ out rfl Q.out.1 rfl (by omega) Q.out.2 (Nat.le_refl _) ?_; intro v1 w3 ho1 hb1 hg1 hat1; have Y := Lib.hid (And.intro ho1 hb1); have hfm := ho1.form; rw [show (out ++ [n]).length = out.length + 1 by simp] at hfm; obtain ⟨A1, c1, rfl, _, _, _⟩ := hfm; clear ho1 hb1 hg1 hat1)
            go_roundw
            case rel => exact ⟨out ++ [n], Lib.hid (by rw [HN.out]; exact F.out.1), Y.out.1, Y.out.2⟩
            case measure => simp [lenS]; omega
set_option maxRecDepth 100000 in
set_option maxHeartbeats 4000000 in
theorem spec_SerialOrder_c (A : Option Addr) (c : Nat) (h : List Acc) (w : World) (hr : Rd accE w w.heap.size A h) (hl : h.length ≤ 1048576) :
    Calls Try.prog 42 #[.slice A h.length c] w fun e w' => ∃ v, e = .returned (.tuple #[v, .bool (serB h)]) ∧ Own inE 3 w' w.heap.size v (serR h) ∧ Below w.heap.size w w' := by
  have H := Lib.hid hr
  clear hr
  by_cases hv : validAcc h = true
  · go_enter Try.func42, Try.ntmps42
    go_wp2_with fail
    refine (spec_validAccesses_c A c h _ H.out hl).mono ?_
    rintro e w1 ⟨rfl, rfl⟩
    go_wp2_with fail
    refine (serial_c A c h _ H.out hl).mono ?_
    rintro e w2 ⟨v, rfl, ho, hb⟩
    obtain ⟨Ao, co, rfl, _, _, hro⟩ := ho.form
    have hsl : (serL h).length ≤ 5 := by
      have key : ∀ (n : Nat) (out : List Int), (serN h n out).length ≤ out.length + n := by
        intro n
        induction n with
        | zero => intro out; simp [serN]
        | succ n ih =>
          intro out
          rw [serN]
          split
          · omega
          · have := ih (out ++ [nxU (frP h out) 4]); simp at this; omega
      simpa [serL] using key 5 []
    have R := Lib.hid (And.intro ho (And.intro hb hro))
    have HV := Lib.hid hv
    clear ho hb hro
    go_wp2_with fail
    go_loop [5] (fun tv => ∃ t : Nat, t ≤ 4 ∧ tv = .int .i64 t ∧ Hid (∀ t' : Nat, t' < t → tk h t' = true → hasI (serL h) (t' : Int) = true)) (fun tv => 4 - (intOf tv).toNat)
    case atStart => exact ⟨0, by omega, rfl, Lib.hid (fun t' ht' => by omega)⟩
    case round =>
      obtain ⟨t, ht, rfl, hall⟩ := hrel
      by_cases hlt : t < 4
      · have hc : tkI h (t : Int) = false ∨ (tkI h (t : Int) = true ∧ hasI (serL h) (t : Int) = true) ∨ (tkI h (t : Int) = true ∧ hasI (serL h) (t : Int) = false) := by
          cases tkI h (t : Int) <;> cases hasI (serL h) (t : Int) <;> simp
        rcases hc with e1 | ⟨e1, e2⟩ | ⟨e1, e2⟩
        · have F := Lib.hid (show ∀ t' : Nat, t' < t + 1 → tk h t' = true → hasI (serL h) (t' : Int) = true from fun t' h1 h2 => by
            rcases Nat.lt_or_ge t' t with h3 | h3
            · exact hall.out t' h3 h2
            · obtain rfl : t' = t := by omega
              rw [tk, e1] at h2; cases h2)
          go_wp2_with (go_at_call 69; refine (takesPart_c A c h (t : Int) _ _ (H.out.below R.out.2.1 (Nat.le_refl _)) hl).mono ?_; rintro e w' ⟨rfl, rfl⟩)
          go_round
          case rel => exact ⟨t + 1, by omega, by go_num, F⟩
          case measure => simp [intOf]; omega
        · have F := Lib.hid (show ∀ t' : Nat, t' < t + 1 → tk h t' = true → hasI (serL h) (t' : Int) = true from fun t' h1 h2 => by
            rcases Nat.lt_or_ge t' t with h3 | h3
            · exact hall.out t' h3 h2
            · obtain rfl : t' = t := by omega
              exact e2)
          go_wp2_with (first
            | (go_at_call 69; refine (takesPart_c A c h (t : Int) _ _ (H.out.below R.out.2.1 (Nat.le_refl _)) hl).mono ?_; rintro e w' ⟨rfl, rfl⟩)
            | (go_at_call 70; refine (isIn_c _ _ _ _ _ _ R.out.2.2 (by omega)).mono ?_; rintro e w' ⟨rfl, rfl⟩))
          go_round
          case rel => exact ⟨t + 1, by omega, by go_num, F⟩
          case measure => simp [intOf]; omega
        · have F := Lib.hid (show serOk h = false by
            rw [Bool.eq_false_iff]
            intro h1
            have := serOk_iff.1 h1 t hlt e1
            rw [e2] at this; cases this)
          go_wp2_with (first
            | (go_at_call 69; refine (takesPart_c A c h (t : Int) _ _ (H.out.below R.out.2.1 (Nat.le_refl _)) hl).mono ?_; rintro e w' ⟨rfl, rfl⟩)
            | (go_at_call 70; refine (isIn_c _ _ _ _ _ _ R.out.2.2 (by omega)).mono ?_; rintro e w' ⟨rfl, rfl⟩))
          go_ret2
          have hB : serB h = false := by rw [serB, F.out, Bool.and_false]
          have hR : serR h = [] := by rw [serR, F.out, Bool.and_false]; rfl
          rw [hB, hR]
          exact ⟨_, rfl, Own.nil, R.out.2.1⟩
      · obtain rfl : t = 4 := by omega
        have F := Lib.hid (serOk_iff.2 fun t' h1 h2 => hall.out t' h1 h2)
        go_wp2_with fail
        go_ret2
        have hB : serB h = true := by rw [serB, F.out, HV.out]; rfl
        have hR : serR h = serL h := by rw [serR, F.out, HV.out]; rfl
        rw [hB, hR]
        exact ⟨_, rfl, R.out.1, R.out.2.1⟩
  · rw [Bool.not_eq_true] at hv
    have F := Lib.hid (show serR h = [] ∧ serB h = false by rw [serR, serB, hv]; exact ⟨rfl, rfl⟩)
    go_enter Try.func42, Try.ntmps42
    go_wp2_with fail
    refine (spec_validAccesses_c A c h _ H.out hl).mono ?_
    rintro e w1 ⟨rfl, rfl⟩
    go_wp2_with fail
    go_ret2
    rw [F.out.1, F.out.2]
    exact ⟨_, rfl, Own.nil, Below.refl _ _⟩
end Go.Proofs.Ytbbnibjnjmmmnaa
