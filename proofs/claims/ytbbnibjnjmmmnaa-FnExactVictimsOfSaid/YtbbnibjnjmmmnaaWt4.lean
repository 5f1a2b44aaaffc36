/-
  The program's stack: the contract of WaitsFor.
-/
import Derived.Test.YtbbnibjnjmmmnaaWt3
import Derived.Test.YtbbnibjnjmmmnaaPWait2
import Derived.Test.YtbbnibjnjmmmnaaMem2
namespace Go.Proofs.Ytbbnibjnjmmmnaa
open Go.RowKit

def lenOf : Value → Nat | .slice _ n _ => n | _ => 0
def trues (w : World) (g : Nat) : Nat := match w.heap[g]? with
  | some (.cells cs _ _) => (cs.toList.map fun v => match v with | .bool true => 1 | _ => 0).sum
  | _ => 0
theorem trues_seen {w : World} {g : Nat} {e : TypeId} {S : List Int} (h : Blk w g e (seenC S)) : trues w g = sum4 S := by
  unfold Blk at h
  simp only [trues, h, seenC, sum4, b2n]
  cases hasI S 0 <;> cases hasI S 1 <;> cases hasI S 2 <;> cases hasI S 3 <;> rfl

theorem dadd_len {wl : List Wt} {who a : Int} {j : Nat} {S T : List Int} (hv : wl.all wtOk = true) (h : DInv wl who S T) : (addOf (wl.take j) a S).length ≤ 4 :=
  four_le (addOf_nodup h.nodup) fun t ht => by
    rcases addOf_from ht with h1 | ⟨x, hx, _, rfl⟩
    · exact h.range t h1
    · exact wtOk_range hv (List.mem_of_mem_take hx)
theorem dmeasure {wl : List Wt} {a : Int} {S S' T T0 T' : List Int} (hv : wl.all wtOk = true) (hT : T = T0 ++ [a]) (hS : S' = addOf wl a S) (hT' : T' = T0 ++ S'.drop S.length) :
    T'.length + 1 + sum4 S = T.length + sum4 S' ∧ sum4 S ≤ sum4 S' ∧ sum4 S' ≤ 4 := by
  have h1 := sum4_add (a := a) hv (S := S)
  have h2 := (addOf_prefix (wl := wl) (a := a) (S := S)).length_le
  rw [← hS] at h1 h2
  have h3 := sum4_le S'
  have h4 : T.length = T0.length + 1 := by rw [hT]; simp
  have h5 : T'.length = T0.length + (S'.length - S.length) := by rw [hT']; simp
  omega
theorem last_split (T : List Int) (h : 0 < T.length) : T = T.take (T.length - 1) ++ [T[T.length - 1]] := by
  rw [← List.take_succ_eq_append_getElem (by omega), show T.length - 1 + 1 = T.length by omega, List.take_length]

set_option maxRecDepth 100000 in
set_option maxHeartbeats 8000000 in
theorem impl_WaitsFor_c (A : Option Addr) (c : Nat) (wl : List Wt) (who : Int) (w : World) (h : Rd wtE w w.heap.size A wl) (hl : wl.length ≤ 1048576) :
    Calls Try.prog 47 #[.slice A wl.length c, .int .i64 who] w fun e w' => ∃ v, e = .returned v ∧ Own inE 3 w' w.heap.size v (waitsF wl who) ∧ Below w.heap.size w w' := by
  have C := Lib.hid (impl_ValidWaits_c A c wl w h hl)
  have H := Lib.hid h
  clear h
  by_cases hv : validWt wl = true
  · have hf : waitsF wl who = waitsL wl who := by rw [waitsF, if_pos hv]
    have F := Lib.hid hf
    have V := Lib.hid (validWt_iff.1 hv)
    have hl2 : wl.length ≤ 12 := V.out.2
    clear hf
    go_enter Try.func47, Try.ntmps47
    go_wp2_with fail
    refine C.out.mono ?_
    rintro e w1 ⟨rfl, hb⟩
    have B1 := Lib.hid hb
    clear hb
    go_wp2_with fail
    go_loopw [6] (fun v wr => ∃ S T : List Int, Hid (DInv wl who S T) ∧ Own inE 3 wr w1.heap.size v T ∧ Blk wr w1.heap.size 79 (seenC S) ∧ Hid (v.ownBlock ≠ some w1.heap.size) ∧ Below w1.heap.size w1 wr ∧ T.length ≤ 1 + sum4 S)
      (fun v wr => 2 * (4 - trues wr w1.heap.size) + lenOf v)
    case atStart =>
      refine ⟨[], [who], Lib.hid (DInv.start wl who), own_newg (w1.alloc (.cells (seenC []) 79)) (w1.heap.size + 1) (by simp) #[.int .i64 who] [who] w1.heap.size (by simp) (by simp) rfl, (Blk.new w1 _ (seenC [])).alloc _, Lib.hid (by simp [Value.ownBlock]), ((Below.refl _ _).alloc (Nat.le_refl _) _).alloc (by simp) _, by simp [sum4, hasI, b2n]⟩
    case round =>
      obtain ⟨S, T, hinv, ho, hblk, hne, hbel, hlen⟩ := hrel
      obtain ⟨At, ct, rfl, _, _, hrt⟩ := ho.form
      have hs4 := sum4_le S
      have R := Lib.hid (And.intro ho (And.intro hblk (And.intro hbel hrt)))
      by_cases hlt : 0 < T.length
      · obtain ⟨bt, ot, rfl, hbt, d0⟩ := hrt.int (k := T.length - 1) (by omega)
        obtain ⟨T0, a, hT, ha, hT0⟩ : ∃ T0 a, T = T0 ++ [a] ∧ T[T.length - 1] = a ∧ T.take (T.length - 1) = T0 :=
          ⟨_, _, last_split T hlt, rfl, rfl⟩
        rw [ha] at d0
        have HT := Lib.hid (And.intro hT hT0)
        clear ho hblk hbel hrt ha hT hT0
        go_wp2_with fail
        go_loopw [6, 31] (fun v i wr' => ∃ (j : Nat) (S' T' : List Int), i = .int .i64 j ∧ j ≤ wl.length ∧ Hid (S' = addOf (wl.take j) a S) ∧ Hid (T' = T0 ++ S'.drop S.length) ∧ Own inE 3 wr' w1.heap.size v T' ∧ Blk wr' w1.heap.size 79 (seenC S') ∧ Hid (v.ownBlock ≠ some w1.heap.size) ∧ Below w1.heap.size w1 wr')
          (fun _ i _ => wl.length - (intOf i).toNat)
        case atStart => exact ⟨0, S, T0, rfl, by omega, Lib.hid rfl, Lib.hid (by simp), by have := R.out.1.pop (T.length - 1) (by omega); rw [HT.out.2] at this; exact this, R.out.2.1, hne, R.out.2.2.1⟩
        case round =>
          obtain ⟨j, S', T', rfl, hj, hS', hT', ho, hblk, hne', hbel⟩ := hrel
          obtain ⟨At', ct', rfl, _, _, _⟩ := ho.form
          have hgl : w1.heap.size < _ := hblk.lt
          by_cases hj2 : j < wl.length
          · obtain ⟨b, o, rfl, hb, c0, c1⟩ := ((H.out.grow B1.out).below hbel (Nat.le_refl _)).wt hj2
            obtain ⟨f, hf, hf4⟩ : ∃ f : Nat, wl[j].wfor = (f : Int) ∧ f < 4 := by
              have := wtOk_range V.out.1 (List.getElem_mem hj2)
              exact ⟨wl[j].wfor.toNat, by omega, by omega⟩
            rw [hf] at c1
            have d1 : World.cell? _ ⟨w1.heap.size, f, none⟩ = some (.bool (hasI S' (f : Int))) := (cell_of_row _ _ _ _ _ _ hblk).trans (seenC_at S' f hf4)
            have f1 := hblk.free f
            have hsn := Lib.hid (addOf_snoc wl a S hj2)
            have HF := Lib.hid hf
            have Q := Lib.hid (And.intro ho (And.intro hblk hbel))
            clear ho hblk hbel hf
            have hS'l : S'.length ≤ 4 := by rw [hS'.out]; exact dadd_len V.out.1 hinv.out
            have hT'l : T'.length ≤ 100 := by
              rw [hT'.out, List.length_append, List.length_drop]
              have : T0.length ≤ T.length := by rw [← HT.out.2, List.length_take]; omega
              omega
            by_cases hc : (wl[j].who == a) = true
            · by_cases hh : hasI S' (f : Int) = true
              · go_wp2_with fail
                go_roundw
                case rel =>
                  have e1 : addOf (wl.take (j + 1)) a S = S' := by rw [hsn.out, ← hS'.out]; exact addOne_no (.inr (by rw [HF.out]; exact hh))
                  exact ⟨j + 1, S', T', by go_num, by omega, Lib.hid e1.symm, hT', Q.out.1.alloc _, Q.out.2.1.alloc _, hne', Q.out.2.2.alloc Q.out.2.2.size _⟩
                case measure => simp [intOf]; omega
              · rw [Bool.not_eq_true] at hh
                go_wp2_with (at_builtin; go_loud (refine wpList_ap1g slIn rfl (.tmp 49) (.tmp 52) rfl _ _ (f : Int) rfl w1 w1.heap.size _ T' rfl ((Q.out.1.setOther hne'.out).alloc _) _ (by simp [World.setCell]) rfl (by omega) ((Q.out.2.2.setCell (Nat.le_refl _) _).alloc (by simp [World.setCell]; exact Q.out.2.2.size) _) (Nat.le_refl _) ?_); intro v1 w2 ho1 hb1 hg1 hat1; go_loud (have Z := Lib.hid (And.intro ho1 (And.intro hb1 (And.intro (((Q.out.2.1.set f (.bool true)).alloc _).kept hg1 hne'.out.symm) (ne_grown hne'.out (Nat.lt_of_lt_of_le hgl (by simp [World.setCell])) hat1))))); clear ho1 hb1 hg1 hat1)
                go_roundw
                case rel =>
                  have e1 : addOf (wl.take (j + 1)) a S = S' ++ [(f : Int)] := by rw [hsn.out, ← hS'.out, addOne_yes hc (by rw [HF.out]; exact hh), HF.out]
                  have e2 := Z.out.2.2.1
                  rw [seenC_set S' f hf4] at e2
                  refine ⟨j + 1, S' ++ [(f : Int)], T' ++ [(f : Int)], by go_num, by omega, Lib.hid e1.symm, Lib.hid ?_, Z.out.1, e2, Lib.hid Z.out.2.2.2, Z.out.2.1⟩
                  rw [hT'.out, List.append_assoc, List.drop_append_of_le_length (by rw [hS'.out]; exact addOf_prefix.length_le)]
                case measure => simp [intOf]; omega
            · rw [Bool.not_eq_true] at hc
              go_wp2_with fail
              go_roundw
              case rel =>
                have e1 : addOf (wl.take (j + 1)) a S = S' := by rw [hsn.out, ← hS'.out]; exact addOne_no (.inl hc)
                exact ⟨j + 1, S', T', by go_num, by omega, Lib.hid e1.symm, hT', Q.out.1.alloc _, Q.out.2.1.alloc _, hne', Q.out.2.2.alloc Q.out.2.2.size _⟩
              case measure => simp [intOf]; omega
          · have ej : j = wl.length := by omega
            subst ej
            have Q := Lib.hid (And.intro ho (And.intro hblk hbel))
            have hS2 : S' = addOf wl a S := by have := hS'.out; rwa [List.take_length] at this
            have HS2 := Lib.hid hS2
            clear ho hblk hbel hS2
            go_wp2_with fail
            go_roundw
            case rel =>
              have h1 := hinv.out
              rw [HT.out.1] at h1
              have h2 := DInv.step V.out.1 h1
              rw [← HS2.out] at h2
              refine ⟨S', T', Lib.hid (by rw [hT'.out]; exact h2), Q.out.1, Q.out.2.1, hne', Q.out.2.2, ?_⟩
              have := dmeasure V.out.1 (HT.out.1) HS2.out hT'.out
              omega
            case measure =>
              have := dmeasure V.out.1 (HT.out.1) HS2.out hT'.out
              rw [trues_seen Q.out.2.1, trues_seen R.out.2.1]
              simp only [lenOf]
              omega
      · have hT : T = [] := List.eq_nil_of_length_eq_zero (by omega)
        subst hT
        have hfin := hinv.out.fin
        have F2 := Lib.hid hfin
        have d0 : wr.cell? ⟨w1.heap.size, 0, none⟩ = some (.bool (hasI S 0)) := (cell_of_row _ _ _ _ _ _ hblk).trans (seenC_at S 0 (by omega))
        have d1 : wr.cell? ⟨w1.heap.size, 1, none⟩ = some (.bool (hasI S 1)) := (cell_of_row _ _ _ _ _ _ hblk).trans (seenC_at S 1 (by omega))
        have d2 : wr.cell? ⟨w1.heap.size, 2, none⟩ = some (.bool (hasI S 2)) := (cell_of_row _ _ _ _ _ _ hblk).trans (seenC_at S 2 (by omega))
        have d3 : wr.cell? ⟨w1.heap.size, 3, none⟩ = some (.bool (hasI S 3)) := (cell_of_row _ _ _ _ _ _ hblk).trans (seenC_at S 3 (by omega))
        clear ho hblk hbel hrt hfin
        go_wp2_with fail
        refine (marked_c _ _ _ _ _).mono ?_
        rintro e w2 ⟨v, rfl, ho, hb⟩
        have Z := Lib.hid (And.intro ho hb)
        clear ho hb
        go_wp2_with fail
        go_ret
        exact ⟨v, rfl, by rw [F.out, ← F2.out]; exact Z.out.1.base (Nat.le_trans B1.out.size R.out.2.2.1.size), (B1.out.trans (R.out.2.2.1.mono B1.out.size)).trans (Z.out.2.mono (Nat.le_trans B1.out.size R.out.2.2.1.size))⟩
  · rw [Bool.not_eq_true] at hv
    have hf : waitsF wl who = [] := by rw [waitsF, hv]; rfl
    have F := Lib.hid hf
    clear hf
    go_enter Try.func47, Try.ntmps47
    go_wp2_with fail
    refine C.out.mono ?_
    rintro e w1 ⟨rfl, hb⟩
    have B1 := Lib.hid hb
    clear hb
    go_wp2_with fail
    go_ret
    exact ⟨_, rfl, by rw [F.out]; exact Own.nil, B1.out⟩
end Go.Proofs.Ytbbnibjnjmmmnaa
